/- Contracts of functions, and plain facts, part 26. -/
import Derived.Test.YtmnabilgpndjmaaDoorProg
import Derived.Test.YtmnabilgpndjmaaDoorPk1
import Derived.Test.YtmnabilgpndjmaaDoorPk4
import Derived.Test.YtmnabilgpndjmaaDoorPk5
import Derived.Test.YtmnabilgpndjmaaDoorPk7
set_option linter.unusedVariables false
set_option linter.unusedSimpArgs false
/- Printed by ieee2.py. -/
namespace Go.Proofs.YtmnabilgpndjmaaDoor
open Go.RowKit

theorem compare_T16 (x y : Int) (w : World) :
    Calls Tryd.prog 114 #[.int .u16 x, .int .u16 y] w fun e w' => e = .returned (.int .i64 (cmpI x y)) ∧ w = w' := by
  rcases Int.lt_trichotomy x y with h | h | h
  · skip
    have H := Lib.hid (cmpI_lt h)
    go_enter Tryd.func114, Tryd.ntmps114
    go_wp2
    go_ret
    rw [H.out]
    exact ⟨rfl, rfl⟩
  · skip
    have H := Lib.hid (cmpI_eq h)
    subst h
    go_enter Tryd.func114, Tryd.ntmps114
    go_wp2
    go_ret
    rw [H.out]
    exact ⟨rfl, rfl⟩
  · skip
    have H := Lib.hid (cmpI_gt h)
    have h2 : ¬ x < y := by omega
    go_enter Tryd.func114, Tryd.ntmps114
    go_wp2
    go_ret
    rw [H.out]
    exact ⟨rfl, rfl⟩
end Go.Proofs.YtmnabilgpndjmaaDoor

/- Printed by ieee2.py. -/
namespace Go.Proofs.YtmnabilgpndjmaaDoor
open Go.RowKit

theorem compare_T32 (x y : Int) (w : World) :
    Calls Tryd.prog 117 #[.int .u32 x, .int .u32 y] w fun e w' => e = .returned (.int .i64 (cmpI x y)) ∧ w = w' := by
  rcases Int.lt_trichotomy x y with h | h | h
  · skip
    have H := Lib.hid (cmpI_lt h)
    go_enter Tryd.func117, Tryd.ntmps117
    go_wp2
    go_ret
    rw [H.out]
    exact ⟨rfl, rfl⟩
  · skip
    have H := Lib.hid (cmpI_eq h)
    subst h
    go_enter Tryd.func117, Tryd.ntmps117
    go_wp2
    go_ret
    rw [H.out]
    exact ⟨rfl, rfl⟩
  · skip
    have H := Lib.hid (cmpI_gt h)
    have h2 : ¬ x < y := by omega
    go_enter Tryd.func117, Tryd.ntmps117
    go_wp2
    go_ret
    rw [H.out]
    exact ⟨rfl, rfl⟩
end Go.Proofs.YtmnabilgpndjmaaDoor

/- Printed by ieee2.py. -/
namespace Go.Proofs.YtmnabilgpndjmaaDoor
open Go.RowKit

theorem compare_T64 (x y : Int) (w : World) :
    Calls Tryd.prog 115 #[.int .u64 x, .int .u64 y] w fun e w' => e = .returned (.int .i64 (cmpI x y)) ∧ w = w' := by
  rcases Int.lt_trichotomy x y with h | h | h
  · skip
    have H := Lib.hid (cmpI_lt h)
    go_enter Tryd.func115, Tryd.ntmps115
    go_wp2
    go_ret
    rw [H.out]
    exact ⟨rfl, rfl⟩
  · skip
    have H := Lib.hid (cmpI_eq h)
    subst h
    go_enter Tryd.func115, Tryd.ntmps115
    go_wp2
    go_ret
    rw [H.out]
    exact ⟨rfl, rfl⟩
  · skip
    have H := Lib.hid (cmpI_gt h)
    have h2 : ¬ x < y := by omega
    go_enter Tryd.func115, Tryd.ntmps115
    go_wp2
    go_ret
    rw [H.out]
    exact ⟨rfl, rfl⟩
end Go.Proofs.YtmnabilgpndjmaaDoor

/- Printed by ieee2.py. -/
namespace Go.Proofs.YtmnabilgpndjmaaDoor
open Go.RowKit

theorem compare_TOwn (x y : Int) (w : World) :
    Calls Tryd.prog 116 #[.int .u32 x, .int .u32 y] w fun e w' => e = .returned (.int .i64 (cmpI x y)) ∧ w = w' := by
  rcases Int.lt_trichotomy x y with h | h | h
  · skip
    have H := Lib.hid (cmpI_lt h)
    go_enter Tryd.func116, Tryd.ntmps116
    go_wp2
    go_ret
    rw [H.out]
    exact ⟨rfl, rfl⟩
  · skip
    have H := Lib.hid (cmpI_eq h)
    subst h
    go_enter Tryd.func116, Tryd.ntmps116
    go_wp2
    go_ret
    rw [H.out]
    exact ⟨rfl, rfl⟩
  · skip
    have H := Lib.hid (cmpI_gt h)
    have h2 : ¬ x < y := by omega
    go_enter Tryd.func116, Tryd.ntmps116
    go_wp2
    go_ret
    rw [H.out]
    exact ⟨rfl, rfl⟩
end Go.Proofs.YtmnabilgpndjmaaDoor

/- The order of patterns by ranks: plain. -/
namespace Go.Proofs.YtmnabilgpndjmaaDoor

/-- The rank of a pattern in the total order; the rank of its number. -/
def rk (W : Nat) (x : Int) : Int := if negW W x then -sizeW W x - 1 else sizeW W x
def qk (W : Nat) (x : Int) : Int := if negW W x then -sizeW W x else sizeW W x

theorem size_mod {W : Nat} (hW : Wide W) (x : Int) (h : 0 ≤ x ∧ x < 2 ^ W) : sizeW W x = x % sgnW W := by
  have e : (2 : Int) ^ W = sgnW W + sgnW W ∧ 0 < sgnW W := by rcases hW with rfl | rfl | rfl <;> decide
  unfold sizeW
  split
  · rw [← Int.sub_emod_right x, Int.emod_eq_of_lt (by omega) (by omega)]
  · rw [Int.emod_eq_of_lt (by omega) (by omega)]

theorem neg_size {W : Nat} (x : Int) : (negW W x = true ∧ sizeW W x = x - sgnW W ∧ sgnW W ≤ x) ∨ (negW W x = false ∧ sizeW W x = x ∧ x < sgnW W) := by
  unfold negW sizeW
  by_cases h : sgnW W ≤ x
  · left; rw [if_pos h, decide_eq_true h]; exact ⟨rfl, rfl, h⟩
  · right; rw [if_neg h, decide_eq_false h]; exact ⟨rfl, rfl, by omega⟩

theorem cmpI_add (a b c : Int) : cmpI (a + c) (b + c) = cmpI a b := by
  rcases Int.lt_trichotomy a b with h | h | h
  · rw [cmpI_lt h, cmpI_lt (by omega)]
  · rw [cmpI_eq h, cmpI_eq (by omega)]
  · rw [cmpI_gt h, cmpI_gt (by omega)]
theorem cmpI_swap (a b : Int) : cmpI b a = -cmpI a b := by
  rcases Int.lt_trichotomy a b with h | h | h
  · rw [cmpI_lt h, cmpI_gt h]; decide
  · rw [cmpI_eq h, cmpI_eq h.symm]; decide
  · rw [cmpI_gt h, cmpI_lt h]

theorem total_rk {W : Nat} (hW : Wide W) (x y : Int) (hx : 0 ≤ x ∧ x < 2 ^ W) (hy : 0 ≤ y ∧ y < 2 ^ W) : totalW W x y = cmpI (rk W x) (rk W y) := by
  have bx := size_bounds hW x hx
  have by' := size_bounds hW y hy
  unfold totalW rk
  rcases neg_size (W := W) x with ⟨n1, s1, -⟩ | ⟨n1, s1, -⟩ <;> rcases neg_size (W := W) y with ⟨n2, s2, -⟩ | ⟨n2, s2, -⟩ <;> rw [n1, n2] <;> simp only [if_true, Bool.false_eq_true, if_false]
  · rw [s1, s2]
    rcases Int.lt_trichotomy x y with h | h | h
    · rw [cmpI_gt h, cmpI_gt (by omega)]
    · rw [cmpI_eq h.symm, cmpI_eq (by omega)]
    · rw [cmpI_lt h, cmpI_lt (by omega)]
  · rw [cmpI_lt (by omega)]
  · rw [cmpI_gt (by omega)]
  · rw [s1, s2]

theorem cmp_qk {W : Nat} (hW : Wide W) (x y : Int) (hx : 0 ≤ x ∧ x < 2 ^ W) (hy : 0 ≤ y ∧ y < 2 ^ W) : cmpW W x y = if isNaN W x || isNaN W y then (0, false) else (cmpI (qk W x) (qk W y), true) := by
  have bx := size_bounds hW x hx
  have by' := size_bounds hW y hy
  have ht := total_rk hW x y hx hy
  unfold cmpW
  split
  · rfl
  · split
    · rename_i h
      congr 1
      unfold qk
      rw [h.1, h.2, cmpI_eq]
      simp
    · rename_i h
      congr 1
      rw [ht]
      unfold rk qk
      rcases neg_size (W := W) x with ⟨n1, s1, -⟩ | ⟨n1, s1, -⟩ <;> rcases neg_size (W := W) y with ⟨n2, s2, -⟩ | ⟨n2, s2, -⟩ <;> rw [n1, n2] <;> simp only [if_true, Bool.false_eq_true, if_false]
      · exact cmpI_add _ _ (-1)
      · rw [cmpI_lt (by omega), cmpI_lt (by omega)]
      · rw [cmpI_gt (by omega), cmpI_gt (by omega)]

theorem rk_inj {W : Nat} (hW : Wide W) (x y : Int) (hx : 0 ≤ x ∧ x < 2 ^ W) (hy : 0 ≤ y ∧ y < 2 ^ W) : rk W x = rk W y ↔ x = y := by
  have bx := size_bounds hW x hx
  have by' := size_bounds hW y hy
  unfold rk
  rcases neg_size (W := W) x with ⟨n1, s1, -⟩ | ⟨n1, s1, -⟩ <;> rcases neg_size (W := W) y with ⟨n2, s2, -⟩ | ⟨n2, s2, -⟩ <;> rw [n1, n2] <;> simp only [if_true, Bool.false_eq_true, if_false] <;> omega

/-- The next pattern: its number's rank is one more. -/
theorem next_rank {W : Nat} (hW : Wide W) (x : Int) (hx : 0 ≤ x ∧ x < 2 ^ W) (h : ¬ (infW W < sizeW W x ∨ x = infW W)) :
    (0 ≤ nextW W x ∧ nextW W x < 2 ^ W) ∧ qk W (nextW W x) = qk W x + 1 ∧ rk W x < rk W (nextW W x) ∧ isNaN W (nextW W x) = false := by
  have e : (2 : Int) ^ W = sgnW W + sgnW W ∧ 0 < sgnW W ∧ 1 < infW W ∧ infW W < sgnW W := by rcases hW with rfl | rfl | rfl <;> decide
  have bx := size_bounds hW x hx
  have h1 : sizeW W x ≤ infW W := by omega
  have h2 : x ≠ infW W := fun e => h (.inr e)
  have key : (0 ≤ nextW W x ∧ nextW W x < 2 ^ W) ∧ ((sizeW W x = 0 ∧ nextW W x = 1) ∨ (negW W x = true ∧ 0 < sizeW W x ∧ nextW W x = x - 1 ∧ sizeW W x = x - sgnW W) ∨ (negW W x = false ∧ 0 < sizeW W x ∧ nextW W x = x + 1 ∧ sizeW W x = x ∧ x < infW W)) := by
    unfold nextW
    rw [if_neg h]
    by_cases h0 : sizeW W x = 0
    · rw [if_pos h0]; exact ⟨by omega, .inl ⟨h0, rfl⟩⟩
    · rw [if_neg h0]
      rcases neg_size (W := W) x with ⟨n1, s1, l1⟩ | ⟨n1, s1, l1⟩
      · rw [if_pos n1]; exact ⟨by omega, .inr (.inl ⟨n1, by omega, rfl, s1⟩)⟩
      · rw [n1, if_neg (by decide)]; exact ⟨by omega, .inr (.inr ⟨rfl, by omega, rfl, s1, by omega⟩)⟩
  obtain ⟨hb, hk⟩ := key
  refine ⟨hb, ?_⟩
  have aux : ∀ y : Int, 0 ≤ y → y < sgnW W → negW W y = false ∧ sizeW W y = y := fun y h1 h2 => by
    rcases neg_size (W := W) y with ⟨n1, s1, l1⟩ | ⟨n1, s1, l1⟩
    · omega
    · exact ⟨n1, s1⟩
  have aux2 : ∀ y : Int, sgnW W ≤ y → negW W y = true ∧ sizeW W y = y - sgnW W := fun y h1 => by
    rcases neg_size (W := W) y with ⟨n1, s1, l1⟩ | ⟨n1, s1, l1⟩
    · exact ⟨n1, s1⟩
    · omega
  unfold qk rk isNaN
  rcases hk with ⟨h0, hn⟩ | ⟨n0, h0, hn, hs⟩ | ⟨n0, h0, hn, hs, hl⟩
  · rw [hn]
    obtain ⟨a1, a2⟩ := aux 1 (by omega) (by omega)
    rw [a1, a2, h0]
    cases negW W x <;> simp <;> omega
  · rw [hn]
    obtain ⟨a1, a2⟩ := aux2 (x - 1) (by omega)
    rw [a1, a2, n0, hs]
    simp
    omega
  · rw [hn]
    obtain ⟨a1, a2⟩ := aux (x + 1) (by omega) (by omega)
    rw [a1, a2, n0, hs]
    simp
    omega
end Go.Proofs.YtmnabilgpndjmaaDoor

/- Printed by ieee2.py. -/
namespace Go.Proofs.YtmnabilgpndjmaaDoor
open Go.RowKit

theorem total_16 (w : World) (hS : Shapes w) (x y : Int) (hx : 0 ≤ x ∧ x < 65536) (hy : 0 ≤ y ∧ y < 65536) : Calls Tryd.prog 55 #[.int .u16 x, .int .u16 y] w (fun e w' => e = .returned (.int .i64 (totalW 16 x y)) ∧ Below w.heap.size w w') := by
  have HC := Lib.hid (show totalW 16 x y = if negW 16 x then (if negW 16 y then cmpI y x else -1) else (if negW 16 y then 1 else cmpI x y) from rfl)
  have H1 := Lib.hid (split_16 w hS x hx)
  have H2 := Lib.hid (fun (w : World) (hS : Shapes w) => split_16 w hS y hy)
  generalize totalW 16 x y = C at *
  generalize negW 16 x = n1 at *
  generalize negW 16 y = n2 at *
  generalize sizeW 16 x = s1 at *
  generalize sizeW 16 y = s2 at *
  cases n1 <;> cases n2
  · have HR := Lib.hid (show C = cmpI x y from HC.out)
    clear HC
    go_enter Tryd.func55, Tryd.ntmps55
    go_wp2_with fail
    refine (H1.out).mono ?_
    rintro e w1 ⟨rfl, b1⟩
    have HS2 := Lib.hid (H2.out w1 (hS.below b1 (Nat.le_refl _)))
    go_wp2_with fail
    refine (HS2.out).mono ?_
    rintro e w2 ⟨rfl, b2⟩
    go_wp2_with fail
    refine (compare_T16 x y w2).mono ?_
    rintro e w' ⟨rfl, rfl⟩
    go_wp2
    go_ret
    rw [HR.out]
    exact ⟨rfl, below_trans b1 (b2)⟩
  · have HR := Lib.hid (show C = 1 from HC.out)
    clear HC
    go_enter Tryd.func55, Tryd.ntmps55
    go_wp2_with fail
    refine (H1.out).mono ?_
    rintro e w1 ⟨rfl, b1⟩
    have HS2 := Lib.hid (H2.out w1 (hS.below b1 (Nat.le_refl _)))
    go_wp2_with fail
    refine (HS2.out).mono ?_
    rintro e w2 ⟨rfl, b2⟩
    go_wp2
    go_ret
    rw [HR.out]
    exact ⟨rfl, below_trans b1 (b2)⟩
  · have HR := Lib.hid (show C = -1 from HC.out)
    clear HC
    go_enter Tryd.func55, Tryd.ntmps55
    go_wp2_with fail
    refine (H1.out).mono ?_
    rintro e w1 ⟨rfl, b1⟩
    have HS2 := Lib.hid (H2.out w1 (hS.below b1 (Nat.le_refl _)))
    go_wp2_with fail
    refine (HS2.out).mono ?_
    rintro e w2 ⟨rfl, b2⟩
    go_wp2
    go_ret
    rw [HR.out]
    exact ⟨rfl, below_trans b1 (b2)⟩
  · have HR := Lib.hid (show C = cmpI y x from HC.out)
    clear HC
    go_enter Tryd.func55, Tryd.ntmps55
    go_wp2_with fail
    refine (H1.out).mono ?_
    rintro e w1 ⟨rfl, b1⟩
    have HS2 := Lib.hid (H2.out w1 (hS.below b1 (Nat.le_refl _)))
    go_wp2_with fail
    refine (HS2.out).mono ?_
    rintro e w2 ⟨rfl, b2⟩
    go_wp2_with fail
    refine (compare_T16 y x w2).mono ?_
    rintro e w' ⟨rfl, rfl⟩
    go_wp2
    go_ret
    rw [HR.out]
    exact ⟨rfl, below_trans b1 (b2)⟩
end Go.Proofs.YtmnabilgpndjmaaDoor

/- Printed by ieee2.py. -/
namespace Go.Proofs.YtmnabilgpndjmaaDoor
open Go.RowKit

theorem total_32 (w : World) (hS : Shapes w) (x y : Int) (hx : 0 ≤ x ∧ x < 4294967296) (hy : 0 ≤ y ∧ y < 4294967296) : Calls Tryd.prog 58 #[.int .u32 x, .int .u32 y] w (fun e w' => e = .returned (.int .i64 (totalW 32 x y)) ∧ Below w.heap.size w w') := by
  have HC := Lib.hid (show totalW 32 x y = if negW 32 x then (if negW 32 y then cmpI y x else -1) else (if negW 32 y then 1 else cmpI x y) from rfl)
  have H1 := Lib.hid (split_32 w hS x hx)
  have H2 := Lib.hid (fun (w : World) (hS : Shapes w) => split_32 w hS y hy)
  generalize totalW 32 x y = C at *
  generalize negW 32 x = n1 at *
  generalize negW 32 y = n2 at *
  generalize sizeW 32 x = s1 at *
  generalize sizeW 32 y = s2 at *
  cases n1 <;> cases n2
  · have HR := Lib.hid (show C = cmpI x y from HC.out)
    clear HC
    go_enter Tryd.func58, Tryd.ntmps58
    go_wp2_with fail
    refine (H1.out).mono ?_
    rintro e w1 ⟨rfl, b1⟩
    have HS2 := Lib.hid (H2.out w1 (hS.below b1 (Nat.le_refl _)))
    go_wp2_with fail
    refine (HS2.out).mono ?_
    rintro e w2 ⟨rfl, b2⟩
    go_wp2_with fail
    refine (compare_T32 x y w2).mono ?_
    rintro e w' ⟨rfl, rfl⟩
    go_wp2
    go_ret
    rw [HR.out]
    exact ⟨rfl, below_trans b1 (b2)⟩
  · have HR := Lib.hid (show C = 1 from HC.out)
    clear HC
    go_enter Tryd.func58, Tryd.ntmps58
    go_wp2_with fail
    refine (H1.out).mono ?_
    rintro e w1 ⟨rfl, b1⟩
    have HS2 := Lib.hid (H2.out w1 (hS.below b1 (Nat.le_refl _)))
    go_wp2_with fail
    refine (HS2.out).mono ?_
    rintro e w2 ⟨rfl, b2⟩
    go_wp2
    go_ret
    rw [HR.out]
    exact ⟨rfl, below_trans b1 (b2)⟩
  · have HR := Lib.hid (show C = -1 from HC.out)
    clear HC
    go_enter Tryd.func58, Tryd.ntmps58
    go_wp2_with fail
    refine (H1.out).mono ?_
    rintro e w1 ⟨rfl, b1⟩
    have HS2 := Lib.hid (H2.out w1 (hS.below b1 (Nat.le_refl _)))
    go_wp2_with fail
    refine (HS2.out).mono ?_
    rintro e w2 ⟨rfl, b2⟩
    go_wp2
    go_ret
    rw [HR.out]
    exact ⟨rfl, below_trans b1 (b2)⟩
  · have HR := Lib.hid (show C = cmpI y x from HC.out)
    clear HC
    go_enter Tryd.func58, Tryd.ntmps58
    go_wp2_with fail
    refine (H1.out).mono ?_
    rintro e w1 ⟨rfl, b1⟩
    have HS2 := Lib.hid (H2.out w1 (hS.below b1 (Nat.le_refl _)))
    go_wp2_with fail
    refine (HS2.out).mono ?_
    rintro e w2 ⟨rfl, b2⟩
    go_wp2_with fail
    refine (compare_T32 y x w2).mono ?_
    rintro e w' ⟨rfl, rfl⟩
    go_wp2
    go_ret
    rw [HR.out]
    exact ⟨rfl, below_trans b1 (b2)⟩
end Go.Proofs.YtmnabilgpndjmaaDoor

/- Printed by ieee2.py. -/
namespace Go.Proofs.YtmnabilgpndjmaaDoor
open Go.RowKit

theorem total_64 (w : World) (hS : Shapes w) (x y : Int) (hx : 0 ≤ x ∧ x < 18446744073709551616) (hy : 0 ≤ y ∧ y < 18446744073709551616) : Calls Tryd.prog 56 #[.int .u64 x, .int .u64 y] w (fun e w' => e = .returned (.int .i64 (totalW 64 x y)) ∧ Below w.heap.size w w') := by
  have HC := Lib.hid (show totalW 64 x y = if negW 64 x then (if negW 64 y then cmpI y x else -1) else (if negW 64 y then 1 else cmpI x y) from rfl)
  have H1 := Lib.hid (split_64 w hS x hx)
  have H2 := Lib.hid (fun (w : World) (hS : Shapes w) => split_64 w hS y hy)
  generalize totalW 64 x y = C at *
  generalize negW 64 x = n1 at *
  generalize negW 64 y = n2 at *
  generalize sizeW 64 x = s1 at *
  generalize sizeW 64 y = s2 at *
  cases n1 <;> cases n2
  · have HR := Lib.hid (show C = cmpI x y from HC.out)
    clear HC
    go_enter Tryd.func56, Tryd.ntmps56
    go_wp2_with fail
    refine (H1.out).mono ?_
    rintro e w1 ⟨rfl, b1⟩
    have HS2 := Lib.hid (H2.out w1 (hS.below b1 (Nat.le_refl _)))
    go_wp2_with fail
    refine (HS2.out).mono ?_
    rintro e w2 ⟨rfl, b2⟩
    go_wp2_with fail
    refine (compare_T64 x y w2).mono ?_
    rintro e w' ⟨rfl, rfl⟩
    go_wp2
    go_ret
    rw [HR.out]
    exact ⟨rfl, below_trans b1 (b2)⟩
  · have HR := Lib.hid (show C = 1 from HC.out)
    clear HC
    go_enter Tryd.func56, Tryd.ntmps56
    go_wp2_with fail
    refine (H1.out).mono ?_
    rintro e w1 ⟨rfl, b1⟩
    have HS2 := Lib.hid (H2.out w1 (hS.below b1 (Nat.le_refl _)))
    go_wp2_with fail
    refine (HS2.out).mono ?_
    rintro e w2 ⟨rfl, b2⟩
    go_wp2
    go_ret
    rw [HR.out]
    exact ⟨rfl, below_trans b1 (b2)⟩
  · have HR := Lib.hid (show C = -1 from HC.out)
    clear HC
    go_enter Tryd.func56, Tryd.ntmps56
    go_wp2_with fail
    refine (H1.out).mono ?_
    rintro e w1 ⟨rfl, b1⟩
    have HS2 := Lib.hid (H2.out w1 (hS.below b1 (Nat.le_refl _)))
    go_wp2_with fail
    refine (HS2.out).mono ?_
    rintro e w2 ⟨rfl, b2⟩
    go_wp2
    go_ret
    rw [HR.out]
    exact ⟨rfl, below_trans b1 (b2)⟩
  · have HR := Lib.hid (show C = cmpI y x from HC.out)
    clear HC
    go_enter Tryd.func56, Tryd.ntmps56
    go_wp2_with fail
    refine (H1.out).mono ?_
    rintro e w1 ⟨rfl, b1⟩
    have HS2 := Lib.hid (H2.out w1 (hS.below b1 (Nat.le_refl _)))
    go_wp2_with fail
    refine (HS2.out).mono ?_
    rintro e w2 ⟨rfl, b2⟩
    go_wp2_with fail
    refine (compare_T64 y x w2).mono ?_
    rintro e w' ⟨rfl, rfl⟩
    go_wp2
    go_ret
    rw [HR.out]
    exact ⟨rfl, below_trans b1 (b2)⟩
end Go.Proofs.YtmnabilgpndjmaaDoor

/- Printed by ieee2.py. -/
namespace Go.Proofs.YtmnabilgpndjmaaDoor
open Go.RowKit

theorem total_Own (w : World) (hS : Shapes w) (x y : Int) (hx : 0 ≤ x ∧ x < 4294967296) (hy : 0 ≤ y ∧ y < 4294967296) : Calls Tryd.prog 57 #[.int .u32 x, .int .u32 y] w (fun e w' => e = .returned (.int .i64 (totalW 32 x y)) ∧ Below w.heap.size w w') := by
  have HC := Lib.hid (show totalW 32 x y = if negW 32 x then (if negW 32 y then cmpI y x else -1) else (if negW 32 y then 1 else cmpI x y) from rfl)
  have H1 := Lib.hid (split_Own w hS x hx)
  have H2 := Lib.hid (fun (w : World) (hS : Shapes w) => split_Own w hS y hy)
  generalize totalW 32 x y = C at *
  generalize negW 32 x = n1 at *
  generalize negW 32 y = n2 at *
  generalize sizeW 32 x = s1 at *
  generalize sizeW 32 y = s2 at *
  cases n1 <;> cases n2
  · have HR := Lib.hid (show C = cmpI x y from HC.out)
    clear HC
    go_enter Tryd.func57, Tryd.ntmps57
    go_wp2_with fail
    refine (H1.out).mono ?_
    rintro e w1 ⟨rfl, b1⟩
    have HS2 := Lib.hid (H2.out w1 (hS.below b1 (Nat.le_refl _)))
    go_wp2_with fail
    refine (HS2.out).mono ?_
    rintro e w2 ⟨rfl, b2⟩
    go_wp2_with fail
    refine (compare_TOwn x y w2).mono ?_
    rintro e w' ⟨rfl, rfl⟩
    go_wp2
    go_ret
    rw [HR.out]
    exact ⟨rfl, below_trans b1 (b2)⟩
  · have HR := Lib.hid (show C = 1 from HC.out)
    clear HC
    go_enter Tryd.func57, Tryd.ntmps57
    go_wp2_with fail
    refine (H1.out).mono ?_
    rintro e w1 ⟨rfl, b1⟩
    have HS2 := Lib.hid (H2.out w1 (hS.below b1 (Nat.le_refl _)))
    go_wp2_with fail
    refine (HS2.out).mono ?_
    rintro e w2 ⟨rfl, b2⟩
    go_wp2
    go_ret
    rw [HR.out]
    exact ⟨rfl, below_trans b1 (b2)⟩
  · have HR := Lib.hid (show C = -1 from HC.out)
    clear HC
    go_enter Tryd.func57, Tryd.ntmps57
    go_wp2_with fail
    refine (H1.out).mono ?_
    rintro e w1 ⟨rfl, b1⟩
    have HS2 := Lib.hid (H2.out w1 (hS.below b1 (Nat.le_refl _)))
    go_wp2_with fail
    refine (HS2.out).mono ?_
    rintro e w2 ⟨rfl, b2⟩
    go_wp2
    go_ret
    rw [HR.out]
    exact ⟨rfl, below_trans b1 (b2)⟩
  · have HR := Lib.hid (show C = cmpI y x from HC.out)
    clear HC
    go_enter Tryd.func57, Tryd.ntmps57
    go_wp2_with fail
    refine (H1.out).mono ?_
    rintro e w1 ⟨rfl, b1⟩
    have HS2 := Lib.hid (H2.out w1 (hS.below b1 (Nat.le_refl _)))
    go_wp2_with fail
    refine (HS2.out).mono ?_
    rintro e w2 ⟨rfl, b2⟩
    go_wp2_with fail
    refine (compare_TOwn y x w2).mono ?_
    rintro e w' ⟨rfl, rfl⟩
    go_wp2
    go_ret
    rw [HR.out]
    exact ⟨rfl, below_trans b1 (b2)⟩
end Go.Proofs.YtmnabilgpndjmaaDoor

/- Printed by ieee2.py. -/
namespace Go.Proofs.YtmnabilgpndjmaaDoor
open Go.RowKit

theorem next_32 (w : World) (hS : Shapes w) (x : Int) (hx : 0 ≤ x ∧ x < 4294967296) : Calls Tryd.prog 62 #[.int .u32 x] w (fun e w' => e = .returned (.int .u32 (nextW 32 x)) ∧ Below w.heap.size w w') := by
  have HC := Lib.hid (show nextW 32 x = if 2139095040 < sizeW 32 x ∨ x = 2139095040 then x else if sizeW 32 x = 0 then 1 else if negW 32 x then x - 1 else x + 1 by unfold nextW; rw [inf32])
  have H1 := Lib.hid (of_32 w hS)
  have H2 := Lib.hid (fun (w : World) (hS : Shapes w) => split_32 w hS x hx)
  have hn1 : negW 32 x = true → 2147483648 ≤ x := fun h => by have := of_decide_eq_true h; rwa [sgn32] at this
  have hn2 : negW 32 x = false → x < 2147483648 ∧ sizeW 32 x = x := fun h => by
    have h2 := of_decide_eq_false h
    have h3 : sizeW 32 x = x := by unfold sizeW; rw [if_neg h2]
    rw [sgn32] at h2
    exact ⟨by omega, h3⟩
  generalize nextW 32 x = C at *
  generalize sizeW 32 x = z at *
  generalize negW 32 x = n at *
  by_cases t1 : 2139095040 < z
  · have HR := Lib.hid (show C = x by rw [HC.out, if_pos (.inl t1)])
    clear HC hn1 hn2
    go_enter Tryd.func62, Tryd.ntmps62
    go_wp2_with fail
    refine (H1.out).mono ?_
    rintro e w1 ⟨rfl, b1⟩
    have bA : Below w1.heap.size w1 (w1.alloc (.cells #[.int .i64 23, .int .i64 (-149), .int .i64 8] 142)) := (Below.refl _ _).alloc (Nat.le_refl _) _
    have c0 : (w1.alloc (.cells #[.int .i64 23, .int .i64 (-149), .int .i64 8] 142)).cell? ⟨w1.heap.size, 0, none⟩ = some (.int .i64 (23)) := World.cell?_alloc_at _ _ _ _ rfl
    have c1 : (w1.alloc (.cells #[.int .i64 23, .int .i64 (-149), .int .i64 8] 142)).cell? ⟨w1.heap.size, 1, none⟩ = some (.int .i64 (-149)) := World.cell?_alloc_at _ _ _ _ rfl
    have c2 : (w1.alloc (.cells #[.int .i64 23, .int .i64 (-149), .int .i64 8] 142)).cell? ⟨w1.heap.size, 2, none⟩ = some (.int .i64 (8)) := World.cell?_alloc_at _ _ _ _ rfl
    have HS2 := Lib.hid (H2.out (w1.alloc (.cells #[.int .i64 23, .int .i64 (-149), .int .i64 8] 142)) ((hS.below b1 (Nat.le_refl _)).below bA (Nat.le_refl _)))
    go_wp2_with fail
    refine (HS2.out).mono ?_
    rintro e w2 ⟨rfl, b2⟩
    have d0 := below_cell b2 (Nat.le_refl _) c0
    have d1 := below_cell b2 (Nat.le_refl _) c1
    have d2 := below_cell b2 (Nat.le_refl _) c2
    have b2' := below_trans bA b2
    go_wp2_with fail
    refine (shinf_32 w2).mono ?_
    rintro e w3 ⟨rfl, b3⟩
    have e0 := below_cell b3 (Nat.le_refl _) d0
    have e1 := below_cell b3 (Nat.le_refl _) d1
    have e2 := below_cell b3 (Nat.le_refl _) d2
    go_wp2
    go_ret
    rw [HR.out]
    exact ⟨rfl, below_trans b1 (below_trans b2' b3)⟩
  · cases n
    · obtain ⟨hx1, hxz⟩ := hn2 rfl
      subst hxz
      clear hn1 hn2
      by_cases t2 : z = 2139095040
      · have HR := Lib.hid (show C = z by rw [HC.out, if_pos (.inr t2)])
        have t2' : (z == 2139095040) = true := by simpa using t2
        clear HC t2
        go_enter Tryd.func62, Tryd.ntmps62
        go_wp2_with fail
        refine (H1.out).mono ?_
        rintro e w1 ⟨rfl, b1⟩
        have bA : Below w1.heap.size w1 (w1.alloc (.cells #[.int .i64 23, .int .i64 (-149), .int .i64 8] 142)) := (Below.refl _ _).alloc (Nat.le_refl _) _
        have c0 : (w1.alloc (.cells #[.int .i64 23, .int .i64 (-149), .int .i64 8] 142)).cell? ⟨w1.heap.size, 0, none⟩ = some (.int .i64 (23)) := World.cell?_alloc_at _ _ _ _ rfl
        have c1 : (w1.alloc (.cells #[.int .i64 23, .int .i64 (-149), .int .i64 8] 142)).cell? ⟨w1.heap.size, 1, none⟩ = some (.int .i64 (-149)) := World.cell?_alloc_at _ _ _ _ rfl
        have c2 : (w1.alloc (.cells #[.int .i64 23, .int .i64 (-149), .int .i64 8] 142)).cell? ⟨w1.heap.size, 2, none⟩ = some (.int .i64 (8)) := World.cell?_alloc_at _ _ _ _ rfl
        have HS2 := Lib.hid (H2.out (w1.alloc (.cells #[.int .i64 23, .int .i64 (-149), .int .i64 8] 142)) ((hS.below b1 (Nat.le_refl _)).below bA (Nat.le_refl _)))
        go_wp2_with fail
        refine (HS2.out).mono ?_
        rintro e w2 ⟨rfl, b2⟩
        have d0 := below_cell b2 (Nat.le_refl _) c0
        have d1 := below_cell b2 (Nat.le_refl _) c1
        have d2 := below_cell b2 (Nat.le_refl _) c2
        have b2' := below_trans bA b2
        go_wp2_with fail
        refine (shinf_32 w2).mono ?_
        rintro e w3 ⟨rfl, b3⟩
        have e0 := below_cell b3 (Nat.le_refl _) d0
        have e1 := below_cell b3 (Nat.le_refl _) d1
        have e2 := below_cell b3 (Nat.le_refl _) d2
        go_wp2_with fail
        refine (shinf_32 w3).mono ?_
        rintro e w4 ⟨rfl, b4⟩
        have g0 := below_cell b4 (Nat.le_refl _) e0
        have g1 := below_cell b4 (Nat.le_refl _) e1
        have g2 := below_cell b4 (Nat.le_refl _) e2
        go_wp2
        go_ret
        rw [HR.out]
        exact ⟨rfl, below_trans b1 (below_trans b2' (below_trans b3 b4))⟩
      · have t2' : (z == 2139095040) = false := by simpa using t2
        have hor : ¬ (2139095040 < z ∨ z = 2139095040) := fun h => h.elim t1 t2
        by_cases t3 : z = 0
        · have HR := Lib.hid (show C = 1 by rw [HC.out, if_neg hor, if_pos t3])
          have t3' : (z == 0) = true := by simpa using t3
          clear HC t3 t2 hor
          go_enter Tryd.func62, Tryd.ntmps62
          go_wp2_with fail
          refine (H1.out).mono ?_
          rintro e w1 ⟨rfl, b1⟩
          have bA : Below w1.heap.size w1 (w1.alloc (.cells #[.int .i64 23, .int .i64 (-149), .int .i64 8] 142)) := (Below.refl _ _).alloc (Nat.le_refl _) _
          have c0 : (w1.alloc (.cells #[.int .i64 23, .int .i64 (-149), .int .i64 8] 142)).cell? ⟨w1.heap.size, 0, none⟩ = some (.int .i64 (23)) := World.cell?_alloc_at _ _ _ _ rfl
          have c1 : (w1.alloc (.cells #[.int .i64 23, .int .i64 (-149), .int .i64 8] 142)).cell? ⟨w1.heap.size, 1, none⟩ = some (.int .i64 (-149)) := World.cell?_alloc_at _ _ _ _ rfl
          have c2 : (w1.alloc (.cells #[.int .i64 23, .int .i64 (-149), .int .i64 8] 142)).cell? ⟨w1.heap.size, 2, none⟩ = some (.int .i64 (8)) := World.cell?_alloc_at _ _ _ _ rfl
          have HS2 := Lib.hid (H2.out (w1.alloc (.cells #[.int .i64 23, .int .i64 (-149), .int .i64 8] 142)) ((hS.below b1 (Nat.le_refl _)).below bA (Nat.le_refl _)))
          go_wp2_with fail
          refine (HS2.out).mono ?_
          rintro e w2 ⟨rfl, b2⟩
          have d0 := below_cell b2 (Nat.le_refl _) c0
          have d1 := below_cell b2 (Nat.le_refl _) c1
          have d2 := below_cell b2 (Nat.le_refl _) c2
          have b2' := below_trans bA b2
          go_wp2_with fail
          refine (shinf_32 w2).mono ?_
          rintro e w3 ⟨rfl, b3⟩
          have e0 := below_cell b3 (Nat.le_refl _) d0
          have e1 := below_cell b3 (Nat.le_refl _) d1
          have e2 := below_cell b3 (Nat.le_refl _) d2
          go_wp2_with fail
          refine (shinf_32 w3).mono ?_
          rintro e w4 ⟨rfl, b4⟩
          have g0 := below_cell b4 (Nat.le_refl _) e0
          have g1 := below_cell b4 (Nat.le_refl _) e1
          have g2 := below_cell b4 (Nat.le_refl _) e2
          go_wp2
          go_ret
          rw [HR.out]
          exact ⟨rfl, below_trans b1 (below_trans b2' (below_trans b3 b4))⟩
        · have HR := Lib.hid (show C = z + 1 by rw [HC.out, if_neg hor, if_neg t3, if_neg (by decide)])
          have t3' : (z == 0) = false := by simpa using t3
          have W1 : IntKind.u32.wrap (z + 1) = z + 1 := by rw [IntKind.wrap_u32]; omega
          have W2 : (z + 1) % 4294967296 = z + 1 := by omega
          clear HC t3 t2 hor
          go_enter Tryd.func62, Tryd.ntmps62
          go_wp2_with fail
          refine (H1.out).mono ?_
          rintro e w1 ⟨rfl, b1⟩
          have bA : Below w1.heap.size w1 (w1.alloc (.cells #[.int .i64 23, .int .i64 (-149), .int .i64 8] 142)) := (Below.refl _ _).alloc (Nat.le_refl _) _
          have c0 : (w1.alloc (.cells #[.int .i64 23, .int .i64 (-149), .int .i64 8] 142)).cell? ⟨w1.heap.size, 0, none⟩ = some (.int .i64 (23)) := World.cell?_alloc_at _ _ _ _ rfl
          have c1 : (w1.alloc (.cells #[.int .i64 23, .int .i64 (-149), .int .i64 8] 142)).cell? ⟨w1.heap.size, 1, none⟩ = some (.int .i64 (-149)) := World.cell?_alloc_at _ _ _ _ rfl
          have c2 : (w1.alloc (.cells #[.int .i64 23, .int .i64 (-149), .int .i64 8] 142)).cell? ⟨w1.heap.size, 2, none⟩ = some (.int .i64 (8)) := World.cell?_alloc_at _ _ _ _ rfl
          have HS2 := Lib.hid (H2.out (w1.alloc (.cells #[.int .i64 23, .int .i64 (-149), .int .i64 8] 142)) ((hS.below b1 (Nat.le_refl _)).below bA (Nat.le_refl _)))
          go_wp2_with fail
          refine (HS2.out).mono ?_
          rintro e w2 ⟨rfl, b2⟩
          have d0 := below_cell b2 (Nat.le_refl _) c0
          have d1 := below_cell b2 (Nat.le_refl _) c1
          have d2 := below_cell b2 (Nat.le_refl _) c2
          have b2' := below_trans bA b2
          go_wp2_with fail
          refine (shinf_32 w2).mono ?_
          rintro e w3 ⟨rfl, b3⟩
          have e0 := below_cell b3 (Nat.le_refl _) d0
          have e1 := below_cell b3 (Nat.le_refl _) d1
          have e2 := below_cell b3 (Nat.le_refl _) d2
          go_wp2_with fail
          refine (shinf_32 w3).mono ?_
          rintro e w4 ⟨rfl, b4⟩
          have g0 := below_cell b4 (Nat.le_refl _) e0
          have g1 := below_cell b4 (Nat.le_refl _) e1
          have g2 := below_cell b4 (Nat.le_refl _) e2
          go_wp2
          go_ret
          rw [HR.out]
          exact ⟨rfl, below_trans b1 (below_trans b2' (below_trans b3 b4))⟩
    · have hx1 := hn1 rfl
      clear hn1 hn2
      have hor : ¬ (2139095040 < z ∨ x = 2139095040) := fun h => h.elim t1 (fun e => by omega)
      by_cases t3 : z = 0
      · have HR := Lib.hid (show C = 1 by rw [HC.out, if_neg hor, if_pos t3])
        have t3' : (z == 0) = true := by simpa using t3
        clear HC t3 hor
        go_enter Tryd.func62, Tryd.ntmps62
        go_wp2_with fail
        refine (H1.out).mono ?_
        rintro e w1 ⟨rfl, b1⟩
        have bA : Below w1.heap.size w1 (w1.alloc (.cells #[.int .i64 23, .int .i64 (-149), .int .i64 8] 142)) := (Below.refl _ _).alloc (Nat.le_refl _) _
        have c0 : (w1.alloc (.cells #[.int .i64 23, .int .i64 (-149), .int .i64 8] 142)).cell? ⟨w1.heap.size, 0, none⟩ = some (.int .i64 (23)) := World.cell?_alloc_at _ _ _ _ rfl
        have c1 : (w1.alloc (.cells #[.int .i64 23, .int .i64 (-149), .int .i64 8] 142)).cell? ⟨w1.heap.size, 1, none⟩ = some (.int .i64 (-149)) := World.cell?_alloc_at _ _ _ _ rfl
        have c2 : (w1.alloc (.cells #[.int .i64 23, .int .i64 (-149), .int .i64 8] 142)).cell? ⟨w1.heap.size, 2, none⟩ = some (.int .i64 (8)) := World.cell?_alloc_at _ _ _ _ rfl
        have HS2 := Lib.hid (H2.out (w1.alloc (.cells #[.int .i64 23, .int .i64 (-149), .int .i64 8] 142)) ((hS.below b1 (Nat.le_refl _)).below bA (Nat.le_refl _)))
        go_wp2_with fail
        refine (HS2.out).mono ?_
        rintro e w2 ⟨rfl, b2⟩
        have d0 := below_cell b2 (Nat.le_refl _) c0
        have d1 := below_cell b2 (Nat.le_refl _) c1
        have d2 := below_cell b2 (Nat.le_refl _) c2
        have b2' := below_trans bA b2
        go_wp2_with fail
        refine (shinf_32 w2).mono ?_
        rintro e w3 ⟨rfl, b3⟩
        have e0 := below_cell b3 (Nat.le_refl _) d0
        have e1 := below_cell b3 (Nat.le_refl _) d1
        have e2 := below_cell b3 (Nat.le_refl _) d2
        go_wp2
        go_ret
        rw [HR.out]
        exact ⟨rfl, below_trans b1 (below_trans b2' b3)⟩
      · have HR := Lib.hid (show C = x - 1 by rw [HC.out, if_neg hor, if_neg t3, if_pos rfl])
        have t3' : (z == 0) = false := by simpa using t3
        have W1 : IntKind.u32.wrap (x - 1) = x - 1 := by rw [IntKind.wrap_u32]; omega
        have W2 : (x - 1) % 4294967296 = x - 1 := by omega
        clear HC t3 hor
        go_enter Tryd.func62, Tryd.ntmps62
        go_wp2_with fail
        refine (H1.out).mono ?_
        rintro e w1 ⟨rfl, b1⟩
        have bA : Below w1.heap.size w1 (w1.alloc (.cells #[.int .i64 23, .int .i64 (-149), .int .i64 8] 142)) := (Below.refl _ _).alloc (Nat.le_refl _) _
        have c0 : (w1.alloc (.cells #[.int .i64 23, .int .i64 (-149), .int .i64 8] 142)).cell? ⟨w1.heap.size, 0, none⟩ = some (.int .i64 (23)) := World.cell?_alloc_at _ _ _ _ rfl
        have c1 : (w1.alloc (.cells #[.int .i64 23, .int .i64 (-149), .int .i64 8] 142)).cell? ⟨w1.heap.size, 1, none⟩ = some (.int .i64 (-149)) := World.cell?_alloc_at _ _ _ _ rfl
        have c2 : (w1.alloc (.cells #[.int .i64 23, .int .i64 (-149), .int .i64 8] 142)).cell? ⟨w1.heap.size, 2, none⟩ = some (.int .i64 (8)) := World.cell?_alloc_at _ _ _ _ rfl
        have HS2 := Lib.hid (H2.out (w1.alloc (.cells #[.int .i64 23, .int .i64 (-149), .int .i64 8] 142)) ((hS.below b1 (Nat.le_refl _)).below bA (Nat.le_refl _)))
        go_wp2_with fail
        refine (HS2.out).mono ?_
        rintro e w2 ⟨rfl, b2⟩
        have d0 := below_cell b2 (Nat.le_refl _) c0
        have d1 := below_cell b2 (Nat.le_refl _) c1
        have d2 := below_cell b2 (Nat.le_refl _) c2
        have b2' := below_trans bA b2
        go_wp2_with fail
        refine (shinf_32 w2).mono ?_
        rintro e w3 ⟨rfl, b3⟩
        have e0 := below_cell b3 (Nat.le_refl _) d0
        have e1 := below_cell b3 (Nat.le_refl _) d1
        have e2 := below_cell b3 (Nat.le_refl _) d2
        go_wp2
        go_ret
        rw [HR.out]
        exact ⟨rfl, below_trans b1 (below_trans b2' b3)⟩
end Go.Proofs.YtmnabilgpndjmaaDoor
