/- Contracts of functions, and plain facts, part 17. -/
import Derived.Laws.Rows
import Derived.Test.YtoimhjcpeifegaaGreatDoorCards
import Derived.Lib.LaidTab
import Derived.Test.YtoimhjcpeifegaaGreatDoorPk6
import Derived.Test.YtoimhjcpeifegaaGreatDoorPk11
import Derived.Test.YtoimhjcpeifegaaGreatDoorPk14
import Derived.Test.YtoimhjcpeifegaaGreatDoorPk15
set_option linter.unusedVariables false
set_option linter.unusedSimpArgs false
/- The order of patterns by ranks: plain. -/
namespace Go.Proofs.YtoimhjcpeifegaaGreatDoor

/-- The rank of a pattern in the total order; the rank of its number. -/
def rk (W : Nat) (x : Int) : Int := if negW W x then -sizeW W x - 1 else sizeW W x
def qk (W : Nat) (x : Int) : Int := if negW W x then -sizeW W x else sizeW W x

theorem size_mod {W : Nat} (hW : Wide W) (x : Int) (h : 0 ≤ x ∧ x < 2 ^ W) : sizeW W x = x % sgnW W := by
  have e : (2 : Int) ^ W = sgnW W + sgnW W ∧ 0 < sgnW W := by rcases hW with rfl | rfl | rfl <;> decide
  unfold sizeW
  split
  · rw [← Int.sub_emod_right x, Int.emod_eq_of_lt (by omega) (by omega)]
  · rw [Int.emod_eq_of_lt (by omega) (by omega)]

theorem neg_size {W : Nat} (x : Int) : (negW W x = true ∧ sizeW W x = x - sgnW W ∧ sgnW W ≤ x) ∨ (negW W x = false ∧ sizeW W x = x ∧ x < sgnW W) := by
  unfold negW sizeW
  by_cases h : sgnW W ≤ x
  · left; rw [if_pos h, decide_eq_true h]; exact ⟨rfl, rfl, h⟩
  · right; rw [if_neg h, decide_eq_false h]; exact ⟨rfl, rfl, by omega⟩

theorem cmpI_add (a b c : Int) : cmpI (a + c) (b + c) = cmpI a b := by
  rcases Int.lt_trichotomy a b with h | h | h
  · rw [cmpI_lt h, cmpI_lt (by omega)]
  · rw [cmpI_eq h, cmpI_eq (by omega)]
  · rw [cmpI_gt h, cmpI_gt (by omega)]
theorem cmpI_swap (a b : Int) : cmpI b a = -cmpI a b := by
  rcases Int.lt_trichotomy a b with h | h | h
  · rw [cmpI_lt h, cmpI_gt h]; decide
  · rw [cmpI_eq h, cmpI_eq h.symm]; decide
  · rw [cmpI_gt h, cmpI_lt h]

theorem total_rk {W : Nat} (hW : Wide W) (x y : Int) (hx : 0 ≤ x ∧ x < 2 ^ W) (hy : 0 ≤ y ∧ y < 2 ^ W) : totalW W x y = cmpI (rk W x) (rk W y) := by
  have bx := size_bounds hW x hx
  have by' := size_bounds hW y hy
  unfold totalW rk
  rcases neg_size (W := W) x with ⟨n1, s1, -⟩ | ⟨n1, s1, -⟩ <;> rcases neg_size (W := W) y with ⟨n2, s2, -⟩ | ⟨n2, s2, -⟩ <;> rw [n1, n2] <;> simp only [if_true, Bool.false_eq_true, if_false]
  · rw [s1, s2]
    rcases Int.lt_trichotomy x y with h | h | h
    · rw [cmpI_gt h, cmpI_gt (by omega)]
    · rw [cmpI_eq h.symm, cmpI_eq (by omega)]
    · rw [cmpI_lt h, cmpI_lt (by omega)]
  · rw [cmpI_lt (by omega)]
  · rw [cmpI_gt (by omega)]
  · rw [s1, s2]

theorem cmp_qk {W : Nat} (hW : Wide W) (x y : Int) (hx : 0 ≤ x ∧ x < 2 ^ W) (hy : 0 ≤ y ∧ y < 2 ^ W) : cmpW W x y = if isNaN W x || isNaN W y then (0, false) else (cmpI (qk W x) (qk W y), true) := by
  have bx := size_bounds hW x hx
  have by' := size_bounds hW y hy
  have ht := total_rk hW x y hx hy
  unfold cmpW
  split
  · rfl
  · split
    · rename_i h
      congr 1
      unfold qk
      rw [h.1, h.2, cmpI_eq]
      simp
    · rename_i h
      congr 1
      rw [ht]
      unfold rk qk
      rcases neg_size (W := W) x with ⟨n1, s1, -⟩ | ⟨n1, s1, -⟩ <;> rcases neg_size (W := W) y with ⟨n2, s2, -⟩ | ⟨n2, s2, -⟩ <;> rw [n1, n2] <;> simp only [if_true, Bool.false_eq_true, if_false]
      · exact cmpI_add _ _ (-1)
      · rw [cmpI_lt (by omega), cmpI_lt (by omega)]
      · rw [cmpI_gt (by omega), cmpI_gt (by omega)]

theorem rk_inj {W : Nat} (hW : Wide W) (x y : Int) (hx : 0 ≤ x ∧ x < 2 ^ W) (hy : 0 ≤ y ∧ y < 2 ^ W) : rk W x = rk W y ↔ x = y := by
  have bx := size_bounds hW x hx
  have by' := size_bounds hW y hy
  unfold rk
  rcases neg_size (W := W) x with ⟨n1, s1, -⟩ | ⟨n1, s1, -⟩ <;> rcases neg_size (W := W) y with ⟨n2, s2, -⟩ | ⟨n2, s2, -⟩ <;> rw [n1, n2] <;> simp only [if_true, Bool.false_eq_true, if_false] <;> omega

/-- The next pattern: its number's rank is one more. -/
theorem next_rank {W : Nat} (hW : Wide W) (x : Int) (hx : 0 ≤ x ∧ x < 2 ^ W) (h : ¬ (infW W < sizeW W x ∨ x = infW W)) :
    (0 ≤ nextW W x ∧ nextW W x < 2 ^ W) ∧ qk W (nextW W x) = qk W x + 1 ∧ rk W x < rk W (nextW W x) ∧ isNaN W (nextW W x) = false := by
  have e : (2 : Int) ^ W = sgnW W + sgnW W ∧ 0 < sgnW W ∧ 1 < infW W ∧ infW W < sgnW W := by rcases hW with rfl | rfl | rfl <;> decide
  have bx := size_bounds hW x hx
  have h1 : sizeW W x ≤ infW W := by omega
  have h2 : x ≠ infW W := fun e => h (.inr e)
  have key : (0 ≤ nextW W x ∧ nextW W x < 2 ^ W) ∧ ((sizeW W x = 0 ∧ nextW W x = 1) ∨ (negW W x = true ∧ 0 < sizeW W x ∧ nextW W x = x - 1 ∧ sizeW W x = x - sgnW W) ∨ (negW W x = false ∧ 0 < sizeW W x ∧ nextW W x = x + 1 ∧ sizeW W x = x ∧ x < infW W)) := by
    unfold nextW
    rw [if_neg h]
    by_cases h0 : sizeW W x = 0
    · rw [if_pos h0]; exact ⟨by omega, .inl ⟨h0, rfl⟩⟩
    · rw [if_neg h0]
      rcases neg_size (W := W) x with ⟨n1, s1, l1⟩ | ⟨n1, s1, l1⟩
      · rw [if_pos n1]; exact ⟨by omega, .inr (.inl ⟨n1, by omega, rfl, s1⟩)⟩
      · rw [n1, if_neg (by decide)]; exact ⟨by omega, .inr (.inr ⟨rfl, by omega, rfl, s1, by omega⟩)⟩
  obtain ⟨hb, hk⟩ := key
  refine ⟨hb, ?_⟩
  have aux : ∀ y : Int, 0 ≤ y → y < sgnW W → negW W y = false ∧ sizeW W y = y := fun y h1 h2 => by
    rcases neg_size (W := W) y with ⟨n1, s1, l1⟩ | ⟨n1, s1, l1⟩
    · omega
    · exact ⟨n1, s1⟩
  have aux2 : ∀ y : Int, sgnW W ≤ y → negW W y = true ∧ sizeW W y = y - sgnW W := fun y h1 => by
    rcases neg_size (W := W) y with ⟨n1, s1, l1⟩ | ⟨n1, s1, l1⟩
    · exact ⟨n1, s1⟩
    · omega
  unfold qk rk isNaN
  rcases hk with ⟨h0, hn⟩ | ⟨n0, h0, hn, hs⟩ | ⟨n0, h0, hn, hs, hl⟩
  · rw [hn]
    obtain ⟨a1, a2⟩ := aux 1 (by omega) (by omega)
    rw [a1, a2, h0]
    cases negW W x <;> simp <;> omega
  · rw [hn]
    obtain ⟨a1, a2⟩ := aux2 (x - 1) (by omega)
    rw [a1, a2, n0, hs]
    simp
    omega
  · rw [hn]
    obtain ⟨a1, a2⟩ := aux (x + 1) (by omega) (by omega)
    rw [a1, a2, n0, hs]
    simp
    omega
end Go.Proofs.YtoimhjcpeifegaaGreatDoor

/- Printed by ieee.py. -/
namespace Go.Proofs.YtoimhjcpeifegaaGreatDoor
open Go.RowKit

theorem of_Own (w : World) (hS : Shapes w) : Calls Tryz.prog 180 #[] w (fun e w' => e = .returned (.agg #[.int .i64 23, .int .i64 (-149), .int .i64 8]) ∧ Below w.heap.size w w') := by
  have b0 : Below w.heap.size w (w.alloc (.cells #[.int .i64 0, .int .i64 0, .int .i64 0] 95)) := (Below.refl _ _).alloc (Nat.le_refl _) _
  obtain ⟨c0, c1, c2, c3, c4, c5, c6, c7, c8⟩ := hS.below b0 (Nat.le_refl _)
  have x0 : bits BinOp.xor .u32 (if IntKind.u32.signed = true then -1 else IntKind.u32.max) 0 = 4294967295 := by decide
  have x1 : bits BinOp.xor .u32 IntKind.u32.max 0 = 4294967295 := by decide
  have x2 : IntKind.u64.wrap 4294967295 = 4294967295 := by decide
  clear b0
  go_enter Tryz.func180, Tryz.ntmps180
  go_wp2
  refine bodyPost_ret (results_cell_row rfl _ _ w.heap.size 95 #[.int .i64 23, .int .i64 (-149), .int .i64 8] (0, 0) _ rfl (heap_alloc_new _ _) Tryz.underlying95 rfl size_shape) rfl ?_
  exact ⟨rfl, (Below.refl _ _).alloc (Nat.le_refl _) _⟩
end Go.Proofs.YtoimhjcpeifegaaGreatDoor

/- crucibleref04: Of, Inf, NaN, Class, Total, Cmp, Next. -/
namespace Go.Proofs.YtoimhjcpeifegaaGreatDoor
open Go.RowKit

theorem size_rshape : (Tryz.prog.info? 177).map (·.size) = some 3 := by kernel_rfl

/-- What Of answers. -/
def topW (W : Nat) : Int := 2 ^ shE W - 1
theorem rof_calls (W : Nat) (hW : Wide W) (w : World) : Calls Tryz.prog 140 #[.int .i64 W] w (fun e w' => e = .returned (.agg #[.int .i64 (shF W), .int .i64 (shL W), .int .i64 (topW W)]) ∧ Below w.heap.size w w') := by
  rcases hW with rfl | rfl | rfl
  · go_enter Tryz.func140, Tryz.ntmps140
    go_wp2
    refine bodyPost_ret (results_cell_row rfl _ _ w.heap.size 177 #[.int .i64 10, .int .i64 (-24), .int .i64 31] (0, 0) _ rfl (heap_alloc_new _ _) Tryz.underlying177 rfl size_rshape) rfl ?_
    exact ⟨rfl, (Below.refl _ _).alloc (Nat.le_refl _) _⟩
  · go_enter Tryz.func140, Tryz.ntmps140
    go_wp2
    refine bodyPost_ret (results_cell_row rfl _ _ w.heap.size 177 #[.int .i64 23, .int .i64 (-149), .int .i64 255] (0, 0) _ rfl (heap_alloc_new _ _) Tryz.underlying177 rfl size_rshape) rfl ?_
    exact ⟨rfl, (Below.refl _ _).alloc (Nat.le_refl _) _⟩
  · go_enter Tryz.func140, Tryz.ntmps140
    go_wp2
    refine bodyPost_ret (results_cell_row rfl _ _ w.heap.size 177 #[.int .i64 52, .int .i64 (-1074), .int .i64 2047] (0, 0) _ rfl (heap_alloc_new _ _) Tryz.underlying177 rfl size_rshape) rfl ?_
    exact ⟨rfl, (Below.refl _ _).alloc (Nat.le_refl _) _⟩


theorem rof_16 (w : World) : Calls Tryz.prog 140 #[.int .i64 16] w (fun e w' => e = .returned (.agg #[.int .i64 10, .int .i64 (-24), .int .i64 31]) ∧ Below w.heap.size w w') := rof_calls 16 (by unfold Wide; omega) w

theorem rof_32 (w : World) : Calls Tryz.prog 140 #[.int .i64 32] w (fun e w' => e = .returned (.agg #[.int .i64 23, .int .i64 (-149), .int .i64 255]) ∧ Below w.heap.size w w') := rof_calls 32 (by unfold Wide; omega) w

theorem rof_64 (w : World) : Calls Tryz.prog 140 #[.int .i64 64] w (fun e w' => e = .returned (.agg #[.int .i64 52, .int .i64 (-1074), .int .i64 2047]) ∧ Below w.heap.size w w') := rof_calls 64 (by unfold Wide; omega) w
theorem rtwo_9 (w : World) : Calls Tryz.prog 139 #[.int .i64 9] w (fun e w' => e = .returned (.int .u64 512) ∧ w = w') := by
  have h := rtwo_calls 9 (by omega) w
  rw [show (2 : Int) ^ 9 = 512 from by decide] at h
  exact h
theorem rtwo_10 (w : World) : Calls Tryz.prog 139 #[.int .i64 10] w (fun e w' => e = .returned (.int .u64 1024) ∧ w = w') := by
  have h := rtwo_calls 10 (by omega) w
  rw [show (2 : Int) ^ 10 = 1024 from by decide] at h
  exact h
theorem rtwo_22 (w : World) : Calls Tryz.prog 139 #[.int .i64 22] w (fun e w' => e = .returned (.int .u64 4194304) ∧ w = w') := by
  have h := rtwo_calls 22 (by omega) w
  rw [show (2 : Int) ^ 22 = 4194304 from by decide] at h
  exact h
theorem rtwo_23 (w : World) : Calls Tryz.prog 139 #[.int .i64 23] w (fun e w' => e = .returned (.int .u64 8388608) ∧ w = w') := by
  have h := rtwo_calls 23 (by omega) w
  rw [show (2 : Int) ^ 23 = 8388608 from by decide] at h
  exact h
theorem rtwo_51 (w : World) : Calls Tryz.prog 139 #[.int .i64 51] w (fun e w' => e = .returned (.int .u64 2251799813685248) ∧ w = w') := by
  have h := rtwo_calls 51 (by omega) w
  rw [show (2 : Int) ^ 51 = 2251799813685248 from by decide] at h
  exact h
theorem rtwo_52 (w : World) : Calls Tryz.prog 139 #[.int .i64 52] w (fun e w' => e = .returned (.int .u64 4503599627370496) ∧ w = w') := by
  have h := rtwo_calls 52 (by omega) w
  rw [show (2 : Int) ^ 52 = 4503599627370496 from by decide] at h
  exact h

theorem rinf_16 (w : World) : Calls Tryz.prog 134 #[.int .i64 16] w (fun e w' => e = .returned (.int .u64 31744) ∧ Below w.heap.size w w') := by
  have h1 := Lib.hid (rof_16)
  have h2 := Lib.hid (rtwo_10)
  have hf0 : ∀ w, (Instr.field 177 (.agg #[.int .i64 10, .int .i64 (-24), .int .i64 31]) 0).run Tryz.prog w = .ok (.int .i64 10) w := fun _ => by kernel_rfl
  have hf2 : ∀ w, (Instr.field 177 (.agg #[.int .i64 10, .int .i64 (-24), .int .i64 31]) 2).run Tryz.prog w = .ok (.int .i64 31) w := fun _ => by kernel_rfl
  go_enter Tryz.func134, Tryz.ntmps134
  go_wp2_with fail
  refine (h1.out w).mono ?_
  rintro e w1 ⟨rfl, b1⟩
  go_wp2_with fail
  refine (h1.out w1).mono ?_
  rintro e w2 ⟨rfl, b2⟩
  go_wp2_with fail
  refine (h2.out w2).mono ?_
  rintro e w3 ⟨rfl, rfl⟩
  go_wp2
  go_ret
  exact ⟨by first | rfl | simp, below_trans b1 b2⟩
theorem rnan_16 (w : World) : Calls Tryz.prog 88 #[.int .i64 16] w (fun e w' => e = .returned (.int .u64 32256) ∧ Below w.heap.size w w') := by
  have h1 := Lib.hid (rof_16)
  have h2 := Lib.hid (rinf_16)
  have hf0 : ∀ w, (Instr.field 177 (.agg #[.int .i64 10, .int .i64 (-24), .int .i64 31]) 0).run Tryz.prog w = .ok (.int .i64 10) w := fun _ => by kernel_rfl
  have h3 := Lib.hid (rtwo_9)
  have hw : IntKind.i64.wrap 9 = 9 := by decide
  go_enter Tryz.func88, Tryz.ntmps88
  go_wp2_with fail
  refine (h2.out w).mono ?_
  rintro e w1 ⟨rfl, b1⟩
  go_wp2_with fail
  refine (h1.out w1).mono ?_
  rintro e w2 ⟨rfl, b2⟩
  go_wp2_with fail
  refine (h3.out w2).mono ?_
  rintro e w3 ⟨rfl, rfl⟩
  go_wp2
  go_ret
  exact ⟨by first | rfl | simp, below_trans b1 b2⟩

theorem rinf_32 (w : World) : Calls Tryz.prog 134 #[.int .i64 32] w (fun e w' => e = .returned (.int .u64 2139095040) ∧ Below w.heap.size w w') := by
  have h1 := Lib.hid (rof_32)
  have h2 := Lib.hid (rtwo_23)
  have hf0 : ∀ w, (Instr.field 177 (.agg #[.int .i64 23, .int .i64 (-149), .int .i64 255]) 0).run Tryz.prog w = .ok (.int .i64 23) w := fun _ => by kernel_rfl
  have hf2 : ∀ w, (Instr.field 177 (.agg #[.int .i64 23, .int .i64 (-149), .int .i64 255]) 2).run Tryz.prog w = .ok (.int .i64 255) w := fun _ => by kernel_rfl
  go_enter Tryz.func134, Tryz.ntmps134
  go_wp2_with fail
  refine (h1.out w).mono ?_
  rintro e w1 ⟨rfl, b1⟩
  go_wp2_with fail
  refine (h1.out w1).mono ?_
  rintro e w2 ⟨rfl, b2⟩
  go_wp2_with fail
  refine (h2.out w2).mono ?_
  rintro e w3 ⟨rfl, rfl⟩
  go_wp2
  go_ret
  exact ⟨by first | rfl | simp, below_trans b1 b2⟩
theorem rnan_32 (w : World) : Calls Tryz.prog 88 #[.int .i64 32] w (fun e w' => e = .returned (.int .u64 2143289344) ∧ Below w.heap.size w w') := by
  have h1 := Lib.hid (rof_32)
  have h2 := Lib.hid (rinf_32)
  have hf0 : ∀ w, (Instr.field 177 (.agg #[.int .i64 23, .int .i64 (-149), .int .i64 255]) 0).run Tryz.prog w = .ok (.int .i64 23) w := fun _ => by kernel_rfl
  have h3 := Lib.hid (rtwo_22)
  have hw : IntKind.i64.wrap 22 = 22 := by decide
  go_enter Tryz.func88, Tryz.ntmps88
  go_wp2_with fail
  refine (h2.out w).mono ?_
  rintro e w1 ⟨rfl, b1⟩
  go_wp2_with fail
  refine (h1.out w1).mono ?_
  rintro e w2 ⟨rfl, b2⟩
  go_wp2_with fail
  refine (h3.out w2).mono ?_
  rintro e w3 ⟨rfl, rfl⟩
  go_wp2
  go_ret
  exact ⟨by first | rfl | simp, below_trans b1 b2⟩

theorem rinf_64 (w : World) : Calls Tryz.prog 134 #[.int .i64 64] w (fun e w' => e = .returned (.int .u64 9218868437227405312) ∧ Below w.heap.size w w') := by
  have h1 := Lib.hid (rof_64)
  have h2 := Lib.hid (rtwo_52)
  have hf0 : ∀ w, (Instr.field 177 (.agg #[.int .i64 52, .int .i64 (-1074), .int .i64 2047]) 0).run Tryz.prog w = .ok (.int .i64 52) w := fun _ => by kernel_rfl
  have hf2 : ∀ w, (Instr.field 177 (.agg #[.int .i64 52, .int .i64 (-1074), .int .i64 2047]) 2).run Tryz.prog w = .ok (.int .i64 2047) w := fun _ => by kernel_rfl
  go_enter Tryz.func134, Tryz.ntmps134
  go_wp2_with fail
  refine (h1.out w).mono ?_
  rintro e w1 ⟨rfl, b1⟩
  go_wp2_with fail
  refine (h1.out w1).mono ?_
  rintro e w2 ⟨rfl, b2⟩
  go_wp2_with fail
  refine (h2.out w2).mono ?_
  rintro e w3 ⟨rfl, rfl⟩
  go_wp2
  go_ret
  exact ⟨by first | rfl | simp, below_trans b1 b2⟩
theorem rnan_64 (w : World) : Calls Tryz.prog 88 #[.int .i64 64] w (fun e w' => e = .returned (.int .u64 9221120237041090560) ∧ Below w.heap.size w w') := by
  have h1 := Lib.hid (rof_64)
  have h2 := Lib.hid (rinf_64)
  have hf0 : ∀ w, (Instr.field 177 (.agg #[.int .i64 52, .int .i64 (-1074), .int .i64 2047]) 0).run Tryz.prog w = .ok (.int .i64 52) w := fun _ => by kernel_rfl
  have h3 := Lib.hid (rtwo_51)
  have hw : IntKind.i64.wrap 51 = 51 := by decide
  go_enter Tryz.func88, Tryz.ntmps88
  go_wp2_with fail
  refine (h2.out w).mono ?_
  rintro e w1 ⟨rfl, b1⟩
  go_wp2_with fail
  refine (h1.out w1).mono ?_
  rintro e w2 ⟨rfl, b2⟩
  go_wp2_with fail
  refine (h3.out w2).mono ?_
  rintro e w3 ⟨rfl, rfl⟩
  go_wp2
  go_ret
  exact ⟨by first | rfl | simp, below_trans b1 b2⟩

theorem rinf_calls (W : Nat) (hW : Wide W) (w : World) : Calls Tryz.prog 134 #[.int .i64 W] w (fun e w' => e = .returned (.int .u64 (infW W)) ∧ Below w.heap.size w w') := by
  rcases hW with rfl | rfl | rfl
  · rw [inf16]; exact rinf_16 w
  · rw [inf32]; exact rinf_32 w
  · rw [inf64]; exact rinf_64 w
theorem rnan_calls (W : Nat) (hW : Wide W) (w : World) : Calls Tryz.prog 88 #[.int .i64 W] w (fun e w' => e = .returned (.int .u64 (nanW W)) ∧ Below w.heap.size w w') := by
  rcases hW with rfl | rfl | rfl
  · rw [nan16]; exact rnan_16 w
  · rw [nan32]; exact rnan_32 w
  · rw [nan64]; exact rnan_64 w
end Go.Proofs.YtoimhjcpeifegaaGreatDoor

/- RShr by worth alone. -/
namespace Go.Proofs.YtoimhjcpeifegaaGreatDoor
open Go.RowKit

theorem num_rshr (ad : Option Addr) (n c : Nat) (V : Int) (r : Int) (w : World) (h : Num w ad n c V) (hn : n ≤ 1099511627776) (hr : -9223372036854775808 ≤ r ∧ r < 9223372036854775808) :
    Calls Tryz.prog 171 #[.slice ad n c, .int .i64 r] w (RetCBB (shrNum V r) (shrMore V r) (decide (0 ≤ r)) w) := by
  obtain ⟨xs, h1, h2, rfl⟩ := h.row
  exact (rshr_calls ad n c xs r w (by omega) h1 h2 hr).mono fun e w' q => q.can
end Go.Proofs.YtoimhjcpeifegaaGreatDoor

/- The table of shapes out of a row's list. -/
namespace Go.Proofs.YtoimhjcpeifegaaGreatDoor
open Go.RowKit

theorem trod_int {H : Type} {enc : TypeId × Value → H} {P : Program} {w : World} {base : Nat} {sp : Nat → Bool} {held : Bool} {fuel : Nat} {t : TypeId} {k : IntKind} {c : Value} {v : Int} {p : List MemPlace}
    (ht : P.underlying t = some (.int k)) (h : DataW.trod enc P w base sp held fuel t [c] = some (.lit (.int k v), p)) : c = .int k v := by
  cases fuel with
  | zero => simp [DataW.trod] at h
  | succ fuel =>
    simp only [DataW.trod, ht] at h
    split at h <;> simp_all

theorem trod_struct3 {H : Type} {enc : TypeId × Value → H} {P : Program} {w : World} {base : Nat} {sp : Nat → Bool} {held : Bool} {fuel : Nat} {t i : TypeId} {fs : Array Field} {k : IntKind} {cs : List Value} {a b c : Int} {p : List MemPlace}
    (ht : P.underlying t = some (.struct fs)) (hf : fs.toList.map (fun f => (f.type, f.offset)) = [(i, 0), (i, 1), (i, 2)]) (hi : P.underlying i = some (.int k)) (hc : P.cellsOf i = 1) (hct : P.cellsOf t = 3)
    (h : DataW.trod enc P w base sp held fuel t cs = some (.agg [.lit (.int k a), .lit (.int k b), .lit (.int k c)], p)) : cs = [.int k a, .int k b, .int k c] := by
  cases fuel with
  | zero => simp [DataW.trod] at h
  | succ fuel =>
    simp only [DataW.trod, ht, hct] at h
    split at h
    · rename_i hl
      rcases cs with _ | ⟨x, _ | ⟨y, _ | ⟨z, _ | ⟨u, cs⟩⟩⟩⟩ <;> simp at hl
      obtain ⟨f0, f1, f2, hfs⟩ : ∃ f0 f1 f2, fs.toList = [f0, f1, f2] := by
        have hl := congrArg List.length hf
        simp only [List.length_map, List.length_cons, List.length_nil] at hl
        rcases hh : fs.toList with _ | ⟨f0, _ | ⟨f1, _ | ⟨f2, _ | ⟨f3, r⟩⟩⟩⟩ <;> rw [hh] at hl <;> simp at hl
        exact ⟨f0, f1, f2, rfl⟩
      rw [hfs] at h hf
      simp only [List.map_cons, List.map_nil, List.cons.injEq, Prod.mk.injEq, and_true] at hf
      obtain ⟨⟨t0, o0⟩, ⟨t1, o1⟩, ⟨t2, o2⟩⟩ := hf
      simp only [List.mapM_cons, List.mapM_nil, t0, t1, t2, o0, o1, o2, hc] at h
      simp only [List.drop_zero, List.drop_succ_cons, List.take_succ_cons, List.take_zero, Option.bind_eq_bind, Option.pure_def, Option.map_eq_some_iff, Option.bind_eq_some_iff, Option.some.injEq] at h
      obtain ⟨xs, ⟨d0, e0, r0, ⟨d1, e1, r1, ⟨d2, e2, r2, rfl, rfl⟩, rfl⟩, rfl⟩, hx⟩ := h
      simp only [List.map_cons, List.map_nil, Prod.mk.injEq, DataW.agg.injEq, List.cons.injEq, and_true] at hx
      obtain ⟨⟨q0, q1, q2⟩, -⟩ := hx
      obtain ⟨d0, p0⟩ := d0
      obtain ⟨d1, p1⟩ := d1
      obtain ⟨d2, p2⟩ := d2
      simp only at q0 q1 q2
      subst q0 q1 q2
      rw [trod_int hi e0, trod_int hi e1, trod_int hi e2]
    · cases h
theorem trod_array3 {H : Type} {enc : TypeId × Value → H} {P : Program} {w : World} {base : Nat} {sp : Nat → Bool} {held : Bool} {fuel : Nat} {t e : TypeId} {cs : List Value} {d0 d1 d2 : DataW H} {p : List MemPlace}
    (ht : P.underlying t = some (.array 3 e)) (hc : P.cellsOf e = 3) (hct : P.cellsOf t = 9)
    (h : DataW.trod enc P w base sp held fuel t cs = some (.agg [d0, d1, d2], p)) :
    ∃ fuel c0 c1 c2 p0 p1 p2, cs = c0 ++ (c1 ++ c2) ∧ DataW.trod enc P w base sp held fuel e c0 = some (d0, p0) ∧ DataW.trod enc P w base sp held fuel e c1 = some (d1, p1) ∧ DataW.trod enc P w base sp held fuel e c2 = some (d2, p2) := by
  cases fuel with
  | zero => simp [DataW.trod] at h
  | succ fuel =>
    simp only [DataW.trod, ht, hct] at h
    split at h
    · rename_i hl
      simp only [show List.range 3 = [0, 1, 2] from rfl, List.mapM_cons, List.mapM_nil, hc] at h
      simp only [Option.bind_eq_bind, Option.pure_def, Option.map_eq_some_iff, Option.bind_eq_some_iff, Option.some.injEq] at h
      obtain ⟨xs, ⟨x0, e0, r0, ⟨x1, e1, r1, ⟨x2, e2, r2, rfl, rfl⟩, rfl⟩, rfl⟩, hx⟩ := h
      simp only [List.map_cons, List.map_nil, Prod.mk.injEq, DataW.agg.injEq, List.cons.injEq, and_true] at hx
      obtain ⟨⟨q0, q1, q2⟩, -⟩ := hx
      obtain ⟨x0, p0⟩ := x0
      obtain ⟨x1, p1⟩ := x1
      obtain ⟨x2, p2⟩ := x2
      simp only at q0 q1 q2
      subst q0 q1 q2
      refine ⟨fuel, _, _, _, _, _, _, ?_, e0, e1, e2⟩
      rcases cs with _ | ⟨a0, _ | ⟨a1, _ | ⟨a2, _ | ⟨a3, _ | ⟨a4, _ | ⟨a5, _ | ⟨a6, _ | ⟨a7, _ | ⟨a8, _ | ⟨a9, cs⟩⟩⟩⟩⟩⟩⟩⟩⟩⟩ <;> simp at hl
      rfl
    · cases h

theorem gShapes : Tryz.prog.globalNamed "crucible/ieee.shapes" = some 2 := by kernel_rfl
theorem gShapesType : (Tryz.prog.globals[2]?).map (·.type) = some 159 := by kernel_rfl
theorem cellsShapes : Tryz.prog.cellsOf 159 = 9 := by kernel_rfl
theorem cellsShape : Tryz.prog.cellsOf 95 = 3 := by kernel_rfl
theorem cellsInt : Tryz.prog.cellsOf 3 = 1 := by kernel_rfl

theorem shapes_of_laid {W : World} {r : List (String × DataW Unit)} {q : List MemPlace} (h : DataW.LaidVars Tryz.prog W (("crucible/ieee.shapes", Rows.laid_crucible_ieee_shapes) :: r) q) : Shapes W := by
  obtain ⟨g, t, cs, fuel, p, q1, hg, ht, hcs, htr, -, -⟩ := h
  rw [gShapes] at hg
  injection hg with hg
  subst hg
  rw [gShapesType] at ht
  injection ht with ht
  subst ht
  obtain ⟨f, c0, c1, c2, p0, p1, p2, hc, e0, e1, e2⟩ := trod_array3 Tryz.underlying159 cellsShape cellsShapes htr
  have k0 := trod_struct3 Tryz.underlying95 rfl Tryz.underlying3 cellsInt cellsShape e0
  have k1 := trod_struct3 Tryz.underlying95 rfl Tryz.underlying3 cellsInt cellsShape e1
  have k2 := trod_struct3 Tryz.underlying95 rfl Tryz.underlying3 cellsInt cellsShape e2
  rw [k0, k1, k2] at hc
  have hcs2 : cs = #[.int .i64 10, .int .i64 (-24), .int .i64 5, .int .i64 23, .int .i64 (-149), .int .i64 8, .int .i64 52, .int .i64 (-1074), .int .i64 11] := by
    apply Array.toList_inj.1
    rw [hc]
    rfl
  subst hcs2
  have c := World.var?_cell gShapes hcs
  exact ⟨by rw [c]; rfl, by rw [c]; rfl, by rw [c]; rfl, by rw [c]; rfl, by rw [c]; rfl, by rw [c]; rfl, by rw [c]; rfl, by rw [c]; rfl, by rw [c]; rfl⟩
end Go.Proofs.YtoimhjcpeifegaaGreatDoor

/- whole: From. (Printed by whole.py.) -/
namespace Go.Proofs.YtoimhjcpeifegaaGreatDoor
open Go.RowKit

theorem wfrom_made (n : Int) (h : -9223372036854775808 ≤ n ∧ n < 9223372036854775808) (s : Int) (hs : s = if n < 0 then -1 else 1) : (decide (s = -1) && decide (0 < (n.natAbs : Int))) = decide (n < 0) := by
  rw [hs]
  by_cases hn : n < 0
  · rw [if_pos hn, decide_eq_true hn]; simp; omega
  · rw [if_neg hn, decide_eq_false hn]; rfl

set_option maxHeartbeats 1000000 in
theorem wfrom_calls (n : Int) (w : World) (hn : -9223372036854775808 ≤ n ∧ n < 9223372036854775808) : Calls Tryz.prog 54 #[.int .i64 n] w (RetInt n w) := by
  by_cases hneg : n < 0
  · skip
    have b0 := Below.refl w.heap.size w
    have l0 : Below w.heap.size w (w.alloc (.cells #[.bool false, .slice none 0 0] 34)) := (Below.refl _ _).alloc (Nat.le_refl _) _
    have b1 : Below w.heap.size w (w.alloc (.cells #[.bool false, .slice none 0 0] 34)) := below_trans b0 l0
    have k0 : Cel (w.alloc (.cells #[.bool false, .slice none 0 0] 34)) w.heap.size 34 [.bool false, .slice none 0 0] := Cel.made _ _ _ _ (by simp)
    clear b0 l0
    have hg0 : w.heap.size ≤ w.heap.size := Nat.le_refl _
    obtain ⟨s, hs⟩ : ∃ s : Int, s = -1 := ⟨_, rfl⟩
    have HSE := Lib.hid hs
    obtain ⟨r, hr⟩ : ∃ r, decide (n < 0) = r := ⟨_, rfl⟩
    have HR := Lib.hid hr
    have hsg := wfrom_made n hn s (by rw [hs, if_pos hneg])
    rw [hr] at hsg
    have HSG := Lib.hid hsg
    clear hr hsg
    obtain ⟨V, hV⟩ : ∃ V, V = (n.natAbs : Int) := ⟨_, rfl⟩
    have hV0 : 0 ≤ V := by omega
    have hVb : V < 18446744073709551616 := by omega
    have HAB := Lib.hid hV
    rw [← hV] at HSG
    clear hs
    have W1 : IntKind.u64.wrap (-(IntKind.u64.wrap n)) = V := by rw [IntKind.wrap_u64, IntKind.wrap_u64]; omega
    have W2 : IntKind.u64.wrap (-n) = V := by rw [IntKind.wrap_u64]; omega
    clear hV
    go_enter Tryz.func54, Tryz.ntmps54
    have h := Lib.hid ((from_calls V (w.alloc (.cells #[.bool false, .slice none 0 0] 34)) hV0 hVb).mono fun e w' q => q.can)
    have e0a := k0.cell 0 _ rfl
    have e0b := k0.cell 1 _ rfl
    go_wp2_with fail
    with_reducible refine (h.out).mono ?_
    rintro e v1 ⟨fd, fn, fc, rfl, ff, b⟩
    clear h
    clear e0a e0b
    replace k0 := k0.next b
    have bb := below_trans b1 b
    clear b b1
    have b1 := bb
    clear bb
    clear W1 W2
    have HM := wmade_as s fd fn fc V r v1 ff hV0 HSG.out
    rw [HSE.out] at HM
    have h := Lib.hid (HM)
    have e0a := k0.cell 0 _ rfl
    have e0b := k0.cell 1 _ rfl
    go_wp2_with fail
    with_reducible refine (h.out).mono ?_
    rintro e v2 ⟨rfl, b⟩
    clear h
    clear e0a e0b
    replace k0 := k0.next b
    replace ff := ff.below b (Nat.le_refl _)
    have bb := below_trans b1 b
    clear b b1
    have b1 := bb
    clear bb
    clear HM
    have g0 := k0.free 0
    have g1 := k0.free 1
    have e0a := k0.cell 0 _ rfl
    have e0b := k0.cell 1 _ rfl
    go_wp2_with fail
    refine bodyPost_ret (results_cell_row rfl _ _ w.heap.size 34 #[.bool r, .slice fd fn fc] (0, 0) _ rfl ((k0.set 0 _).set 1 _).row Tryz.underlying34 rfl size_int) rfl ?_
    refine ⟨_, _, _, by rw [HR.out], ?_, below_set (below_set b1 _ _ _ hg0) _ _ _ hg0⟩
    rw [← HAB.out]
    exact ff.poke2 k0 _ _
  · skip
    have b0 := Below.refl w.heap.size w
    have l0 : Below w.heap.size w (w.alloc (.cells #[.bool false, .slice none 0 0] 34)) := (Below.refl _ _).alloc (Nat.le_refl _) _
    have b1 : Below w.heap.size w (w.alloc (.cells #[.bool false, .slice none 0 0] 34)) := below_trans b0 l0
    have k0 : Cel (w.alloc (.cells #[.bool false, .slice none 0 0] 34)) w.heap.size 34 [.bool false, .slice none 0 0] := Cel.made _ _ _ _ (by simp)
    clear b0 l0
    have hg0 : w.heap.size ≤ w.heap.size := Nat.le_refl _
    obtain ⟨s, hs⟩ : ∃ s : Int, s = 1 := ⟨_, rfl⟩
    have HSE := Lib.hid hs
    obtain ⟨r, hr⟩ : ∃ r, decide (n < 0) = r := ⟨_, rfl⟩
    have HR := Lib.hid hr
    have hsg := wfrom_made n hn s (by rw [hs, if_neg hneg])
    rw [hr] at hsg
    have HSG := Lib.hid hsg
    clear hr hsg
    obtain ⟨V, hV⟩ : ∃ V, V = (n.natAbs : Int) := ⟨_, rfl⟩
    have hV0 : 0 ≤ V := by omega
    have hVb : V < 18446744073709551616 := by omega
    have HAB := Lib.hid hV
    rw [← hV] at HSG
    clear hs
    have W1 : IntKind.u64.wrap n = V := by rw [IntKind.wrap_u64]; omega
    clear hV
    go_enter Tryz.func54, Tryz.ntmps54
    have h := Lib.hid ((from_calls V (w.alloc (.cells #[.bool false, .slice none 0 0] 34)) hV0 hVb).mono fun e w' q => q.can)
    have e0a := k0.cell 0 _ rfl
    have e0b := k0.cell 1 _ rfl
    go_wp2_with fail
    with_reducible refine (h.out).mono ?_
    rintro e v1 ⟨fd, fn, fc, rfl, ff, b⟩
    clear h
    clear e0a e0b
    replace k0 := k0.next b
    have bb := below_trans b1 b
    clear b b1
    have b1 := bb
    clear bb
    clear W1
    have HM := wmade_as s fd fn fc V r v1 ff hV0 HSG.out
    rw [HSE.out] at HM
    have h := Lib.hid (HM)
    have e0a := k0.cell 0 _ rfl
    have e0b := k0.cell 1 _ rfl
    go_wp2_with fail
    with_reducible refine (h.out).mono ?_
    rintro e v2 ⟨rfl, b⟩
    clear h
    clear e0a e0b
    replace k0 := k0.next b
    replace ff := ff.below b (Nat.le_refl _)
    have bb := below_trans b1 b
    clear b b1
    have b1 := bb
    clear bb
    clear HM
    have g0 := k0.free 0
    have g1 := k0.free 1
    have e0a := k0.cell 0 _ rfl
    have e0b := k0.cell 1 _ rfl
    go_wp2_with fail
    refine bodyPost_ret (results_cell_row rfl _ _ w.heap.size 34 #[.bool r, .slice fd fn fc] (0, 0) _ rfl ((k0.set 0 _).set 1 _).row Tryz.underlying34 rfl size_int) rfl ?_
    refine ⟨_, _, _, by rw [HR.out], ?_, below_set (below_set b1 _ _ _ hg0) _ _ _ hg0⟩
    rw [← HAB.out]
    exact ff.poke2 k0 _ _
end Go.Proofs.YtoimhjcpeifegaaGreatDoor

/- whole: Neg. (Printed by whole.py.) -/
namespace Go.Proofs.YtoimhjcpeifegaaGreatDoor
open Go.RowKit

theorem sg_neg (N : Int) : IntKind.i8.wrap (-sgI N) = sgI (-N) ∧ -sgI N = sgI (-N) := by
  have e : -sgI N = sgI (-N) := by unfold sgI; split <;> (try split) <;> (try split) <;> (try split) <;> omega
  refine ⟨?_, e⟩
  rw [e]
  unfold sgI
  split
  · decide
  · split <;> decide

set_option maxHeartbeats 1000000 in
theorem wneg_calls (ng1 : Bool) (ad1 : Option Addr) (n1 c1 : Nat) (V1 : Int) (w : World) (h1 : Num w ad1 n1 c1 V1) (hn1 : n1 ≤ 70368744177663) : Calls Tryz.prog 116 #[.agg #[.bool ng1, .slice ad1 n1 c1]] w (RetInt (-sI ng1 V1) w) := by
  have hV0 := h1.nonneg
  have b0 := Below.refl w.heap.size w
  have l0 : Below w.heap.size w (w.alloc (.cells #[.bool ng1, .slice ad1 n1 c1] 34)) := (Below.refl _ _).alloc (Nat.le_refl _) _
  have b1 : Below w.heap.size w (w.alloc (.cells #[.bool ng1, .slice ad1 n1 c1] 34)) := below_trans b0 l0
  have k0 : Cel (w.alloc (.cells #[.bool ng1, .slice ad1 n1 c1] 34)) w.heap.size 34 [.bool ng1, .slice ad1 n1 c1] := Cel.made _ _ _ _ (by simp)
  have l1 : Below (w.alloc (.cells #[.bool ng1, .slice ad1 n1 c1] 34)).heap.size (w.alloc (.cells #[.bool ng1, .slice ad1 n1 c1] 34)) ((w.alloc (.cells #[.bool ng1, .slice ad1 n1 c1] 34)).alloc (.cells #[.bool false, .slice none 0 0] 34)) := (Below.refl _ _).alloc (Nat.le_refl _) _
  have b2 : Below w.heap.size w ((w.alloc (.cells #[.bool ng1, .slice ad1 n1 c1] 34)).alloc (.cells #[.bool false, .slice none 0 0] 34)) := below_trans b1 l1
  have k1 : Cel ((w.alloc (.cells #[.bool ng1, .slice ad1 n1 c1] 34)).alloc (.cells #[.bool false, .slice none 0 0] 34)) (w.heap.size + 1) 34 [.bool false, .slice none 0 0] := Cel.made _ _ _ _ (by simp)
  replace k0 := k0.next l1
  replace h1 := h1.below b2 (Nat.le_refl _)
  clear b0 b1 l0 l1
  have hg0 : w.heap.size ≤ w.heap.size := Nat.le_refl _
  have hg1 : w.heap.size ≤ w.heap.size + 1 := Nat.le_add_right _ _
  have HAB := Lib.hid (show V1 = ((-sI ng1 V1).natAbs : Int) by rw [Int.natAbs_neg, sI_abs ng1 V1 hV0])
  obtain ⟨r, hr⟩ : ∃ r, decide (-sI ng1 V1 < 0) = r := ⟨_, rfl⟩
  have HR := Lib.hid hr
  have hsg := made_sign (-sI ng1 V1) V1 HAB.out
  rw [hr] at hsg
  have HSG := Lib.hid hsg
  clear hr hsg
  obtain ⟨q1, q2⟩ := sg_neg (sI ng1 V1)
  have hS := wsigned_calls ng1 ad1 n1 c1 V1 ((w.alloc (.cells #[.bool ng1, .slice ad1 n1 c1] 34)).alloc (.cells #[.bool false, .slice none 0 0] 34)) h1 hn1
  generalize sI ng1 V1 = N at *
  generalize sgI N = s1 at *
  generalize hs2 : sgI (-N) = s2 at *
  have HQ := Lib.hid hs2
  clear hs2 h1 q2
  go_enter Tryz.func116, Tryz.ntmps116
  have h := Lib.hid (hS)
  have e0a := k0.cell 0 _ rfl
  have e0b := k0.cell 1 _ rfl
  have e1a := k1.cell 0 _ rfl
  have e1b := k1.cell 1 _ rfl
  go_wp2_with fail
  with_reducible refine (h.out).mono ?_
  rintro e v1 ⟨fd, fn, fc, rfl, ff, b⟩
  clear h
  clear e0a e0b e1a e1b
  replace k0 := k0.next b
  replace k1 := k1.next b
  have bb := below_trans b2 b
  clear b b2
  have b2 := bb
  clear bb
  clear hS
  have HM := wmade_as s2 fd fn fc V1 r v1 ff hV0 HSG.out
  have h := Lib.hid (HM)
  have e0a := k0.cell 0 _ rfl
  have e0b := k0.cell 1 _ rfl
  have e1a := k1.cell 0 _ rfl
  have e1b := k1.cell 1 _ rfl
  go_wp2_with fail
  with_reducible refine (h.out).mono ?_
  rintro e v2 ⟨rfl, b⟩
  clear h
  clear e0a e0b e1a e1b
  replace k0 := k0.next b
  replace k1 := k1.next b
  replace ff := ff.below b (Nat.le_refl _)
  have bb := below_trans b2 b
  clear b b2
  have b2 := bb
  clear bb
  clear HM
  have g0 := k1.free 0
  have g1 := k1.free 1
  have e0a := k0.cell 0 _ rfl
  have e0b := k0.cell 1 _ rfl
  have e1a := k1.cell 0 _ rfl
  have e1b := k1.cell 1 _ rfl
  go_wp2_with fail
  refine bodyPost_ret (results_cell_row rfl _ _ (w.heap.size + 1) 34 #[.bool r, .slice fd fn fc] (0, 0) _ rfl ((k1.set 0 _).set 1 _).row Tryz.underlying34 rfl size_int) rfl ?_
  refine ⟨_, _, _, by rw [HR.out], ?_, below_set (below_set b2 _ _ _ hg1) _ _ _ hg1⟩
  rw [← HAB.out]
  exact ff.poke2 k1 _ _
end Go.Proofs.YtoimhjcpeifegaaGreatDoor
