/- The law WholeOrder: its walk. -/
import Derived.Test.YtgnophflogmmaaaPk23
import Derived.Test.YtgnophflogmmaaaPk30
set_option linter.unusedVariables false
set_option linter.unusedSimpArgs false
/- The law WholeOrder: its walk by what the slots hold. (Printed by flow03.py.) -/
namespace Go.Proofs.Ytgnophflogmmaaa
open Go Go.RowKit

theorem i64_ok {m : Int} (h : -9223372036854775808 ≤ m ∧ m < 9223372036854775808) : okI64 m = true := decide_eq_true h
theorem cmp_bd (x y : Int) : -1 ≤ cmpI x y ∧ cmpI x y ≤ 1 := by unfold cmpI; split <;> (try split) <;> omega
theorem cmp_spec (x y : Int) : (x < y ∧ cmpI x y = -1) ∨ (x = y ∧ cmpI x y = 0) ∨ (y < x ∧ cmpI x y = 1) := by
  rcases Int.lt_trichotomy x y with h | h | h
  · exact .inl ⟨h, cmpI_lt h⟩
  · exact .inr (.inl ⟨h, cmpI_eq h⟩)
  · exact .inr (.inr ⟨h, cmpI_gt h⟩)
theorem cmp_add (x y z : Int) : cmpI (x + z) (y + z) = cmpI x y := by have := cmp_spec x y; have := cmp_spec (x + z) (y + z); omega
theorem cmp_sub (x y : Int) : cmpI (x - y) 0 = cmpI x y := by have := cmp_spec x y; have := cmp_spec (x - y) 0; omega
theorem cmp_mul (x y z : Int) : cmpI (x * z) (y * z) = cmpI x y * cmpI z 0 := by
  rcases cmp_spec z 0 with ⟨h, e⟩ | ⟨h, e⟩ | ⟨h, e⟩
  · rw [e]
    rcases cmp_spec x y with ⟨k, e2⟩ | ⟨k, e2⟩ | ⟨k, e2⟩ <;> rw [e2]
    · exact cmpI_gt (Int.mul_lt_mul_of_neg_right k h)
    · subst k; exact cmpI_eq rfl
    · exact cmpI_lt (Int.mul_lt_mul_of_neg_right k h)
  · subst h; rw [e, Int.mul_zero, Int.mul_zero, Int.mul_zero]; exact cmpI_eq rfl
  · rw [e, Int.mul_one]
    rcases cmp_spec x y with ⟨k, e2⟩ | ⟨k, e2⟩ | ⟨k, e2⟩ <;> rw [e2]
    · exact cmpI_lt (Int.mul_lt_mul_of_pos_right k h)
    · subst k; exact cmpI_eq rfl
    · exact cmpI_gt (Int.mul_lt_mul_of_pos_right k h)
theorem order_up (x y z : Int) : ((decide (cmpI x y ≤ 0) && decide (cmpI y z ≤ 0)) && decide (0 < cmpI x z)) = false := by
  have := cmp_spec x y; have := cmp_spec y z; have := cmp_spec x z
  rw [Bool.eq_false_iff]
  simp only [ne_eq, Bool.and_eq_true, decide_eq_true_eq]
  omega
theorem order_down (x y z : Int) : ((decide (0 ≤ cmpI x y) && decide (0 ≤ cmpI y z)) && decide (cmpI x z < 0)) = false := by
  have := cmp_spec x y; have := cmp_spec y z; have := cmp_spec x z
  rw [Bool.eq_false_iff]
  simp only [ne_eq, Bool.and_eq_true, decide_eq_true_eq]
  omega
theorem order_same (x y : Int) : (decide (cmpI x y = 0) != decide (x = y)) = false := by
  have := cmp_spec x y
  by_cases h : x = y
  · rw [decide_eq_true h, decide_eq_true (by omega)]; rfl
  · rw [decide_eq_false h, decide_eq_false (by omega)]; rfl
theorem order_u64 (m : Int) : (okU64 m == decide (0 ≤ m)) = true ∨ ¬ m < 18446744073709551616 := by
  by_cases h : m < 18446744073709551616
  · refine .inl ?_
    unfold okU64
    by_cases h2 : 0 ≤ m
    · rw [decide_eq_true ⟨h2, h⟩, decide_eq_true h2]; rfl
    · rw [decide_eq_false (fun h => h2 h.1), decide_eq_false h2]; rfl
  · exact .inr h
theorem order_uw (m : Int) (h : -9223372036854775808 ≤ m ∧ m < 9223372036854775808) : ((!okU64 m) || decide ((if okU64 m then m else 0) = IntKind.u64.wrap m)) = true := by
  cases hu : okU64 m with
  | false => rfl
  | true =>
    have := of_decide_eq_true hu
    simp only [Bool.not_true, Bool.false_or, if_true, decide_eq_true_eq]
    rw [IntKind.wrap_u64]; omega

set_option maxRecDepth 20000 in
set_option maxHeartbeats 4000000 in
theorem con_WholeOrder (ngx ngy ngz : Bool) (nx ny nz : Nat) (xx xy xz : List Int) (yx : nx * 4 ≤ 140737488351232) (yy : ny * 4 ≤ 140737488351232) (yz : nz * 4 ≤ 140737488351232) (m : Int) (hm : -9223372036854775808 ≤ m ∧ m < 9223372036854775808) (n : Int) (hn : -9223372036854775808 ≤ n ∧ n < 9223372036854775808) : Con Try.prog 13 [IsThree ngx ngy ngz nx ny nz xx xy xz m n] (IsB true) := by
  refine f_enter (N := 175) Try.ntmps13 (fun _ _ => by go_simp) Try.func13 rfl (by simp) ?_
  intro a0 w0 B0 H0
  replace H0 : St 175 w0 B0 a0 w0 B0 [(0, .val (IsThree ngx ngy ngz nx ny nz xx xy xz m n))] [] := H0
  obtain ⟨X, hX⟩ : ∃ X, sI ngx (val 4294967296 xx) = X := ⟨_, rfl⟩
  obtain ⟨Y, hY⟩ : ∃ X, sI ngy (val 4294967296 xy) = X := ⟨_, rfl⟩
  obtain ⟨Z, hZ⟩ : ∃ X, sI ngz (val 4294967296 xz) = X := ⟨_, rfl⟩
  obtain ⟨fX, fY, fZ⟩ := PThree.fits hX hY hZ (H0.fc.get 0 rfl)
  refine wp_seq ?_
  refine flow_region (dsts := [some 1, some 2]) (refs := [[.pre 0], []]) (outs := [.res 0, .res 1]) (als := [true, false]) (posts := [.box 58 8 (IsThree ngx ngy ngz nx ny nz xx xy xz m n), .val (IsB false)])
    (out := [(1, .box 58 8 (IsThree ngx ngy ngz nx ny nz xx xy xz m n)), (2, .val (IsB false))]) (nb := [1]) H0 2 [] rfl (by kernel_rfl) rfl rfl ?_ ?_
  · refine .cons (.plain rfl (ok_box (.tmp 0 rfl) two_Three)) ?_
    refine .cons (.plain rfl (ok_assign (.lit))) ?_
    exact .nil
  clear H0
  intro a1 w1 B1 H1
  simp only [List.cons_append, List.nil_append] at H1
  refine ops_done ?_
  refine then_normal ?_
  refine wp_seq ?_
  refine flow_stores (dsts := [some 17, some 18, some 19, some 20, some 21, some 22, some 23, some 24, some 25, some 26, some 3, some 4, some 5, none, none, none, some 6, some 7]) (refs := [[.pre 0], [.res 0], [.pre 0], [.res 2], [.pre 0], [.res 4], [.pre 0], [.res 6], [.pre 0], [.res 8], [], [], [], [.res 10, .res 1], [.res 11, .res 3], [.res 12, .res 5], [.res 7], [.res 9]]) (outs := [.res 10, .res 11, .res 12, .res 16, .res 17, .pre 1]) (als := [false, false, false, false, false, false, false, false, false, false, true, true, true, false, false, false, false, false]) (posts := [.ptr 58 8 (IsThree ngx ngy ngz nx ny nz xx xy xz m n) 0, .val (IsArg ngx nx xx), .ptr 58 8 (IsThree ngx ngy ngz nx ny nz xx xy xz m n) 2, .val (IsArg ngy ny xy), .ptr 58 8 (IsThree ngx ngy ngz nx ny nz xx xy xz m n) 4, .val (IsArg ngz nz xz), .ptr 58 8 (IsThree ngx ngy ngz nx ny nz xx xy xz m n) 6, .val (Lit (.int .i64 m)), .ptr 58 8 (IsThree ngx ngy ngz nx ny nz xx xy xz m n) 7, .val (Lit (.int .i64 n)), .box 25 2 (Zero2), .box 25 2 (Zero2), .box 25 2 (Zero2), .val (VP.top), .val (VP.top), .val (VP.top), .val (Lit (.int .i64 m)), .val (Lit (.int .i64 n))]) (posts2 := [none, none, none, none, none, none, none, none, none, none, some (13, .box 25 2 (IsArg ngx nx xx)), some (14, .box 25 2 (IsArg ngy ny xy)), some (15, .box 25 2 (IsArg ngz nz xz)), none, none, none, none, none])
    (out := [(3, .box 25 2 (IsArg ngx nx xx)), (4, .box 25 2 (IsArg ngy ny xy)), (5, .box 25 2 (IsArg ngz nz xz)), (6, .val (Lit (.int .i64 m))), (7, .val (Lit (.int .i64 n))), (2, .val (IsB false))]) (nb := [3, 4, 5]) H1 (by kernel_rfl) (by kernel_rfl) (by kernel_rfl) rfl rfl ?_ ?_
  · refine .norm rfl (.plain rfl (ok_addr3_0 (.tmp 0 rfl))) ?_
    refine .norm rfl (.plain rfl (ok_load3_0 (.tmp 0 rfl))) ?_
    refine .norm rfl (.plain rfl (ok_addr3_1 (.tmp 0 rfl))) ?_
    refine .norm rfl (.plain rfl (ok_load3_1 (.tmp 0 rfl))) ?_
    refine .norm rfl (.plain rfl (ok_addr3_2 (.tmp 0 rfl))) ?_
    refine .norm rfl (.plain rfl (ok_load3_2 (.tmp 0 rfl))) ?_
    refine .norm rfl (.plain rfl (ok_addr3_3 (.tmp 0 rfl))) ?_
    refine .norm rfl (.plain rfl (ok_load3_3 (.tmp 0 rfl))) ?_
    refine .norm rfl (.plain rfl (ok_addr3_4 (.tmp 0 rfl))) ?_
    refine .norm rfl (.plain rfl (ok_load3_4 (.tmp 0 rfl))) ?_
    refine .norm rfl (.plain rfl (ok_alloc (D := Zero2) zeroI rfl (fun _ _ => rfl))) ?_
    refine .norm rfl (.plain rfl (ok_alloc (D := Zero2) zeroI rfl (fun _ _ => rfl))) ?_
    refine .norm rfl (.plain rfl (ok_alloc (D := Zero2) zeroI rfl (fun _ _ => rfl))) ?_
    refine .stor 10 rfl rfl rfl rfl (.tmp 1 rfl) tyI shape_Z shape_Arg rfl ?_
    refine .stor 11 rfl rfl rfl rfl (.tmp 1 rfl) tyI shape_Z shape_Arg rfl ?_
    refine .stor 12 rfl rfl rfl rfl (.tmp 1 rfl) tyI shape_Z shape_Arg rfl ?_
    refine .norm rfl (.plain rfl (ok_assign (.tmp 0 rfl))) ?_
    refine .norm rfl (.plain rfl (ok_assign (.tmp 0 rfl))) ?_
    exact .nil
  clear H1 a1 w1 B1
  intro a2 w2 B2 H2
  simp only [List.cons_append, List.nil_append] at H2
  refine then_normal ?_
  refine wp_seq ?_
  refine wp_seq ?_
  refine flow_region (dsts := [some 27, some 28, some 29, some 30, some 31]) (refs := [[.pre 0], [.pre 1], [.pre 2], [.res 0, .res 1, .res 2], [.res 3]]) (outs := [.res 4, .pre 0, .pre 1, .pre 2, .pre 3, .pre 4, .pre 5]) (als := [false, false, false, false, false]) (posts := [.val (IsArg ngx nx xx), .val (IsArg ngy ny xy), .val (IsArg ngz nz xz), .val (IsInts [nx, ny, nz]), .val (IsIf True (∀ j : Nat, [nx, ny, nz][j]?.getD 0 ≤ 1048576))])
    (out := [(31, .val (IsIf True (∀ j : Nat, [nx, ny, nz][j]?.getD 0 ≤ 1048576))), (3, .box 25 2 (IsArg ngx nx xx)), (4, .box 25 2 (IsArg ngy ny xy)), (5, .box 25 2 (IsArg ngz nz xz)), (6, .val (Lit (.int .i64 m))), (7, .val (Lit (.int .i64 n))), (2, .val (IsB false))]) (nb := []) H2 5 [] rfl (by kernel_rfl) rfl rfl ?_ ?_
  · refine .cons (.plain rfl (ok_load tyI (.tmp 0 rfl))) ?_
    refine .cons (.plain rfl (ok_load tyI (.tmp 0 rfl))) ?_
    refine .cons (.plain rfl (ok_load tyI (.tmp 0 rfl))) ?_
    refine .cons (.plain rfl (ok_ints3 (.tmp 0 rfl) (.tmp 1 rfl) (.tmp 2 rfl))) ?_
    refine .cons (.plain rfl (ok_call (con_beyond [nx, ny, nz] (by simp) (fun j => by rcases j with _ | _ | _ | _ <;> simp <;> omega)) (.cons (.tmp 0 rfl) (.nil)))) ?_
    exact .nil
  clear H2 a2 w2 B2
  intro a3 w3 B3 H3
  refine ops_done ?_
  refine then_normal ?_
  refine f_condI H3 (.tmp 0 rfl) ?_ ?_
  · intro hc4
    refine wp_seq ?_
    refine flow_region (dsts := [some 2]) (refs := [[]]) (outs := [.res 0, .pre 1, .pre 2, .pre 3, .pre 4, .pre 5]) (als := [false]) (posts := [.val (IsB true)])
      (out := [(2, .val (IsB true)), (3, .box 25 2 (IsArg ngx nx xx)), (4, .box 25 2 (IsArg ngy ny xy)), (5, .box 25 2 (IsArg ngz nz xz)), (6, .val (Lit (.int .i64 m))), (7, .val (Lit (.int .i64 n)))]) (nb := []) H3 1 [] rfl (by kernel_rfl) rfl rfl ?_ ?_
    · refine .cons (.plain rfl (ok_assign (.lit))) ?_
      exact .nil
    clear H3 a3 w3 B3
    intro a5 w5 B5 H5
    refine ops_done ?_
    refine then_normal ?_
    refine wp_ret ?_
    refine then_ret ?_
    exact f_ret H5 rfl 0 rfl (fun _ _ _ h => h)
  · intro hc4
    have lx : nx ≤ 1048576 := hc4 0
    have ly : ny ≤ 1048576 := hc4 1
    have lz : nz ≤ 1048576 := hc4 2
    clear hc4
    refine wp_skip ?_
    refine then_normal ?_
    refine wp_seq ?_
    refine flow_drawT (dsts := [some 32, some 33, some 34, some 35, some 36, some 37, some 38, some 39, some 40, some 8, some 9, some 10]) (refs := [[.pre 1], [.pre 2], [.res 0, .res 1], [.pre 2], [.pre 3], [.res 3, .res 4], [.pre 1], [.pre 3], [.res 6, .res 7], [.res 2], [.res 5], [.res 8]]) (outs := [.res 9, .res 10, .res 11, .pre 1, .pre 2, .pre 3, .pre 4, .pre 5, .pre 6]) (als := [false, false, false, false, false, false, false, false, false, false, false, false]) (posts := [.val (IsArg ngx nx xx), .val (IsArg ngy ny xy), .val (Lit (.int .i64 (cmpI X Y))), .val (IsArg ngy ny xy), .val (IsArg ngz nz xz), .val (Lit (.int .i64 (cmpI Y Z))), .val (IsArg ngx nx xx), .val (IsArg ngz nz xz), .val (Lit (.int .i64 (cmpI X Z))), .val (Lit (.int .i64 (cmpI X Y))), .val (Lit (.int .i64 (cmpI Y Z))), .val (Lit (.int .i64 (cmpI X Z)))])
      (out := [(8, .val (Lit (.int .i64 (cmpI X Y)))), (9, .val (Lit (.int .i64 (cmpI Y Z)))), (10, .val (Lit (.int .i64 (cmpI X Z)))), (3, .box 25 2 (IsArg ngx nx xx)), (4, .box 25 2 (IsArg ngy ny xy)), (5, .box 25 2 (IsArg ngz nz xz)), (6, .val (Lit (.int .i64 m))), (7, .val (Lit (.int .i64 n))), (2, .val (IsB false))]) (nb := []) H3 (by kernel_rfl) 12 0 #[true, true, true, true, true, true, true, true, true, true, true, true] (by kernel_rfl) (by kernel_rfl) rfl rfl ?_ ?_
    · refine .cons (.plain rfl (ok_load tyI (.tmp 0 rfl))) ?_
      refine .cons (.plain rfl (ok_load tyI (.tmp 0 rfl))) ?_
      refine .cons (.plain rfl (ok_call (con_cmp X Y) (.cons (.weak (.tmp 0 rfl) (weakAN (by omega) hX)) (.cons (.weak (.tmp 1 rfl) (weakAN (by omega) hY)) (.nil))))) ?_
      refine .cons (.plain rfl (ok_load tyI (.tmp 0 rfl))) ?_
      refine .cons (.plain rfl (ok_load tyI (.tmp 0 rfl))) ?_
      refine .cons (.plain rfl (ok_call (con_cmp Y Z) (.cons (.weak (.tmp 0 rfl) (weakAN (by omega) hY)) (.cons (.weak (.tmp 1 rfl) (weakAN (by omega) hZ)) (.nil))))) ?_
      refine .cons (.plain rfl (ok_load tyI (.tmp 0 rfl))) ?_
      refine .cons (.plain rfl (ok_load tyI (.tmp 0 rfl))) ?_
      refine .cons (.plain rfl (ok_call (con_cmp X Z) (.cons (.weak (.tmp 0 rfl) (weakAN (by omega) hX)) (.cons (.weak (.tmp 1 rfl) (weakAN (by omega) hZ)) (.nil))))) ?_
      refine .cons (.plain rfl (ok_assign (.tmp 0 rfl))) ?_
      refine .cons (.plain rfl (ok_assign (.tmp 0 rfl))) ?_
      refine .cons (.plain rfl (ok_assign (.tmp 0 rfl))) ?_
      exact .nil
    clear H3 a3 w3 B3
    intro a6 w6 B6 H6
    refine any_done (by kernel_rfl) ?_
    refine then_normal ?_
    refine wp_seq ?_
    refine wp_seq ?_
    refine flow_drawT (dsts := [some 41, some 42, some 43, some 44, some 45, some 46, some 47, some 48, some 49, some 50, some 51, some 52, some 53, some 54, some 55, some 56, some 57, some 58, some 59, some 60, some 61, some 62, some 63, some 64, some 65, some 66, some 67, some 68, some 69, some 70, some 71, some 72, some 73, some 74, some 75, some 76, some 77, some 78, some 79, some 80, some 81, some 82, some 83, some 84, some 85, some 86, some 87, some 88]) (refs := [[.pre 0], [.res 0], [.res 1], [.res 2, .pre 0], [.res 2, .res 3], [.res 2, .res 4], [.res 5], [.res 6, .pre 4], [.res 6, .pre 3], [.res 6, .res 7, .res 8], [.res 6, .pre 0], [.res 6, .res 10], [.res 6, .res 9, .res 11], [.res 6, .res 12], [.res 13], [.res 14, .pre 0], [.res 14, .res 15], [.res 14, .pre 3], [.res 14, .res 17], [.res 14, .pre 4], [.res 14, .res 19], [.res 14, .res 18, .res 20], [.res 14, .res 16, .res 21], [.res 14, .res 22], [.res 23], [.res 24, .pre 0], [.res 24, .res 25], [.res 24, .res 26], [.res 27, .pre 1], [.res 27, .res 28], [.res 24, .res 27, .res 29], [.res 24, .res 30], [.res 31, .pre 2], [.res 31, .res 32], [.res 24, .res 31, .res 33], [.res 24, .res 34], [.res 35], [.res 36, .pre 0], [.res 36, .res 37], [.res 36, .res 38], [.res 39, .pre 1], [.res 39, .res 40], [.res 36, .res 39, .res 41], [.res 36, .res 42], [.res 43, .pre 2], [.res 43, .res 44], [.res 36, .res 43, .res 45], [.res 36, .res 46]]) (outs := [.res 47, .pre 0, .pre 3, .pre 4, .pre 5, .pre 6, .pre 7, .pre 8]) (als := [false, false, false, false, false, false, false, false, false, false, false, false, false, false, false, false, false, false, false, false, false, false, false, false, false, false, false, false, false, false, false, false, false, false, false, false, false, false, false, false, false, false, false, false, false, false, false, false]) (posts := [.val (Lit (.int .i64 (cmpI X Y))), .val (IsB false), .val (IsB false), .val (Lit (.int .i64 (cmpI X Y))), .val (IsB false), .val (IsB false), .val (IsB false), .val (IsArg ngy ny xy), .val (IsArg ngx nx xx), .val (Lit (.int .i64 (cmpI Y X))), .val (Lit (.int .i64 (cmpI X Y))), .val (Lit (.int .i64 (-(cmpI X Y)))), .val (IsB false), .val (IsB false), .val (IsB false), .val (Lit (.int .i64 (cmpI X Y))), .val (IsB (decide (cmpI X Y = 0))), .val (IsArg ngx nx xx), .val (IsI X), .val (IsArg ngy ny xy), .val (IsI Y), .val (IsB (decide (X = Y))), .val (IsB false), .val (IsB false), .val (IsB false), .val (Lit (.int .i64 (cmpI X Y))), .val (IsB (decide (cmpI X Y ≤ 0))), .val (IsB (decide (cmpI X Y ≤ 0))), .val (Grd ((decide (cmpI X Y ≤ 0)) == true) (Lit (.int .i64 (cmpI Y Z)))), .val (Grd ((decide (cmpI X Y ≤ 0)) == true) (IsB (decide (cmpI Y Z ≤ 0)))), .val (IsB ((decide (cmpI X Y ≤ 0)) && (decide (cmpI Y Z ≤ 0)))), .val (IsB ((decide (cmpI X Y ≤ 0)) && (decide (cmpI Y Z ≤ 0)))), .val (Grd (((decide (cmpI X Y ≤ 0)) && (decide (cmpI Y Z ≤ 0))) == true) (Lit (.int .i64 (cmpI X Z)))), .val (Grd (((decide (cmpI X Y ≤ 0)) && (decide (cmpI Y Z ≤ 0))) == true) (IsB (decide (0 < cmpI X Z)))), .val (IsB false), .val (IsB false), .val (IsB false), .val (Lit (.int .i64 (cmpI X Y))), .val (IsB (decide (0 ≤ cmpI X Y))), .val (IsB (decide (0 ≤ cmpI X Y))), .val (Grd ((decide (0 ≤ cmpI X Y)) == true) (Lit (.int .i64 (cmpI Y Z)))), .val (Grd ((decide (0 ≤ cmpI X Y)) == true) (IsB (decide (0 ≤ cmpI Y Z)))), .val (IsB ((decide (0 ≤ cmpI X Y)) && (decide (0 ≤ cmpI Y Z)))), .val (IsB ((decide (0 ≤ cmpI X Y)) && (decide (0 ≤ cmpI Y Z)))), .val (Grd (((decide (0 ≤ cmpI X Y)) && (decide (0 ≤ cmpI Y Z))) == true) (Lit (.int .i64 (cmpI X Z)))), .val (Grd (((decide (0 ≤ cmpI X Y)) && (decide (0 ≤ cmpI Y Z))) == true) (IsB (decide (cmpI X Z < 0)))), .val (IsB false), .val (IsB false)])
      (out := [(88, .val (IsB false)), (8, .val (Lit (.int .i64 (cmpI X Y)))), (3, .box 25 2 (IsArg ngx nx xx)), (4, .box 25 2 (IsArg ngy ny xy)), (5, .box 25 2 (IsArg ngz nz xz)), (6, .val (Lit (.int .i64 m))), (7, .val (Lit (.int .i64 n))), (2, .val (IsB false))]) (nb := []) H6 (by kernel_rfl) 48 0 #[true, true, true, true, true, true, true, true, true, true, true, true, true, true, true, true, true, true, true, true, true, true, true, true, true, true, true, true, true, true, true, true, true, true, true, true, true, true, true, true, true, true, true, true, true, true, true, true] (by kernel_rfl) (by kernel_rfl) rfl rfl ?_ ?_
    · refine .cons (.plain rfl (ok_move (.tmp 0 rfl))) ?_
      refine .cons (.plain rfl (ok_cmp (b := false) (.tmp 0 rfl) (.lit) ((decide_eq_false (by have := cmp_bd X Y; omega)).symm))) ?_
      refine .cons (.plain rfl (ok_move (.tmp 0 rfl))) ?_
      refine .cons (.wanted 2 false rfl rfl rfl 0 rfl (ok_move (.tmp 1 rfl))) ?_
      refine .cons (.wanted 2 false rfl rfl rfl 0 rfl (ok_cmp (b := false) (.tmp 1 rfl) (.lit) ((decide_eq_false (by have := cmp_bd X Y; omega)).symm))) ?_
      refine .cons (.plain rfl (ok_pickF (.tmp 0 rfl) (.tmp 1 rfl))) ?_
      refine .cons (.plain rfl (ok_move (.tmp 0 rfl))) ?_
      refine .cons (.wanted 6 false rfl rfl rfl 0 rfl (ok_load tyI (.tmp 1 rfl))) ?_
      refine .cons (.wanted 6 false rfl rfl rfl 0 rfl (ok_load tyI (.tmp 1 rfl))) ?_
      refine .cons (.wanted 6 false rfl rfl rfl 0 rfl (ok_call (con_cmp Y X) (.cons (.weak (.tmp 1 rfl) (weakAN (by omega) hY)) (.cons (.weak (.tmp 2 rfl) (weakAN (by omega) hX)) (.nil))))) ?_
      refine .cons (.wanted 6 false rfl rfl rfl 0 rfl (ok_move (.tmp 1 rfl))) ?_
      refine .cons (.wanted 6 false rfl rfl rfl 0 rfl (ok_neg (r := (-(cmpI X Y))) (.tmp 1 rfl) (w_i64 (by have := cmp_bd X Y; omega)))) ?_
      refine .cons (.wanted 6 false rfl rfl rfl 0 rfl (ok_cmp (b := false) (.tmp 1 rfl) (.tmp 2 rfl) ((decide_eq_false (fun h => h (by have := cmp_spec X Y; have := cmp_spec Y X; omega))).symm))) ?_
      refine .cons (.plain rfl (ok_pickF (.tmp 0 rfl) (.tmp 1 rfl))) ?_
      refine .cons (.plain rfl (ok_move (.tmp 0 rfl))) ?_
      refine .cons (.wanted 14 false rfl rfl rfl 0 rfl (ok_move (.tmp 1 rfl))) ?_
      refine .cons (.wanted 14 false rfl rfl rfl 0 rfl (ok_cmp (.tmp 1 rfl) (.lit) rfl)) ?_
      refine .cons (.wanted 14 false rfl rfl rfl 0 rfl (ok_load tyI (.tmp 1 rfl))) ?_
      refine .cons (.wanted 14 false rfl rfl rfl 0 rfl (ok_call (con_norm X) (.cons (.weak (.tmp 1 rfl) (weakAN (by omega) hX)) (.nil)))) ?_
      refine .cons (.wanted 14 false rfl rfl rfl 0 rfl (ok_load tyI (.tmp 1 rfl))) ?_
      refine .cons (.wanted 14 false rfl rfl rfl 0 rfl (ok_call (con_norm Y) (.cons (.weak (.tmp 1 rfl) (weakAN (by omega) hY)) (.nil)))) ?_
      refine .cons (.wanted 14 false rfl rfl rfl 0 rfl (ok_call (con_same X Y) (.cons (.tmp 1 rfl) (.cons (.tmp 2 rfl) (.nil))))) ?_
      refine .cons (.wanted 14 false rfl rfl rfl 0 rfl (OpOk.eqB (b := (decide (cmpI X Y = 0)) != (decide (X = Y))) (ok_neB Try.underlying4 (.tmp 1 rfl) (.tmp 2 rfl)) (order_same X Y))) ?_
      refine .cons (.plain rfl (ok_pickF (.tmp 0 rfl) (.tmp 1 rfl))) ?_
      refine .cons (.plain rfl (ok_move (.tmp 0 rfl))) ?_
      refine .cons (.wanted 24 false rfl rfl rfl 0 rfl (ok_move (.tmp 1 rfl))) ?_
      refine .cons (.wanted 24 false rfl rfl rfl 0 rfl (ok_cmp (.tmp 1 rfl) (.lit) rfl)) ?_
      refine .cons (.wanted 24 false rfl rfl rfl 0 rfl (ok_move (.tmp 1 rfl))) ?_
      refine .cons (.sym 27 true (decide (cmpI X Y ≤ 0)) ((decide (cmpI X Y ≤ 0)) == true) rfl rfl rfl 0 (need' := [(68, .val (IsB (decide (cmpI X Y ≤ 0)))), (9, .val (Lit (.int .i64 (cmpI Y Z))))]) rfl rfl (fun a w B e h => ⟨h.1, h.2.1, trivial⟩) (fun e => ok_move (.tmp 1 rfl))) ?_
      refine .cons (.sym 27 true (decide (cmpI X Y ≤ 0)) ((decide (cmpI X Y ≤ 0)) == true) rfl rfl rfl 0 (need' := [(68, .val (IsB (decide (cmpI X Y ≤ 0)))), (69, .val (Lit (.int .i64 (cmpI Y Z))))]) rfl rfl (fun a w B e h => ⟨h.1, h.2.1.1 (e), trivial⟩) (fun e => ok_cmp (.tmp 1 rfl) (.lit) rfl)) ?_
      refine .cons (.wanted 24 false rfl rfl rfl 0 rfl (ok_pickS (decide (cmpI X Y ≤ 0)) (.tmp 1 rfl) (fun e => Opd.eqB (Opd.grd (.tmp 2 rfl) (by first | (rw [e]; rfl) | (simp only [e]; rfl) | (simp [*] at *; done))) (by rw [e]; rfl)) (fun e => Opd.eqB (.lit) (by rw [e]; rfl)))) ?_
      refine .cons (.wanted 24 false rfl rfl rfl 0 rfl (ok_move (.tmp 1 rfl))) ?_
      refine .cons (.sym 31 true ((decide (cmpI X Y ≤ 0)) && (decide (cmpI Y Z ≤ 0))) (((decide (cmpI X Y ≤ 0)) && (decide (cmpI Y Z ≤ 0))) == true) rfl rfl rfl 0 (need' := [(72, .val (IsB ((decide (cmpI X Y ≤ 0)) && (decide (cmpI Y Z ≤ 0))))), (10, .val (Lit (.int .i64 (cmpI X Z))))]) rfl rfl (fun a w B e h => ⟨h.1, h.2.1, trivial⟩) (fun e => ok_move (.tmp 1 rfl))) ?_
      refine .cons (.sym 31 true ((decide (cmpI X Y ≤ 0)) && (decide (cmpI Y Z ≤ 0))) (((decide (cmpI X Y ≤ 0)) && (decide (cmpI Y Z ≤ 0))) == true) rfl rfl rfl 0 (need' := [(72, .val (IsB ((decide (cmpI X Y ≤ 0)) && (decide (cmpI Y Z ≤ 0))))), (73, .val (Lit (.int .i64 (cmpI X Z))))]) rfl rfl (fun a w B e h => ⟨h.1, h.2.1.1 (e), trivial⟩) (fun e => ok_cmp (.tmp 1 rfl) (.lit) rfl)) ?_
      refine .cons (.wanted 24 false rfl rfl rfl 0 rfl (OpOk.eqB (b := ((decide (cmpI X Y ≤ 0)) && (decide (cmpI Y Z ≤ 0))) && (decide (0 < cmpI X Z))) (ok_pickS ((decide (cmpI X Y ≤ 0)) && (decide (cmpI Y Z ≤ 0))) (.tmp 1 rfl) (fun e => Opd.eqB (Opd.grd (.tmp 2 rfl) (by first | (rw [e]; rfl) | (simp only [e]; rfl) | (simp [*] at *; done))) (by rw [e]; rfl)) (fun e => Opd.eqB (.lit) (by rw [e]; rfl))) (order_up X Y Z))) ?_
      refine .cons (.plain rfl (ok_pickF (.tmp 0 rfl) (.tmp 1 rfl))) ?_
      refine .cons (.plain rfl (ok_move (.tmp 0 rfl))) ?_
      refine .cons (.wanted 36 false rfl rfl rfl 0 rfl (ok_move (.tmp 1 rfl))) ?_
      refine .cons (.wanted 36 false rfl rfl rfl 0 rfl (ok_cmp (.tmp 1 rfl) (.lit) rfl)) ?_
      refine .cons (.wanted 36 false rfl rfl rfl 0 rfl (ok_move (.tmp 1 rfl))) ?_
      refine .cons (.sym 39 true (decide (0 ≤ cmpI X Y)) ((decide (0 ≤ cmpI X Y)) == true) rfl rfl rfl 0 (need' := [(80, .val (IsB (decide (0 ≤ cmpI X Y)))), (9, .val (Lit (.int .i64 (cmpI Y Z))))]) rfl rfl (fun a w B e h => ⟨h.1, h.2.1, trivial⟩) (fun e => ok_move (.tmp 1 rfl))) ?_
      refine .cons (.sym 39 true (decide (0 ≤ cmpI X Y)) ((decide (0 ≤ cmpI X Y)) == true) rfl rfl rfl 0 (need' := [(80, .val (IsB (decide (0 ≤ cmpI X Y)))), (81, .val (Lit (.int .i64 (cmpI Y Z))))]) rfl rfl (fun a w B e h => ⟨h.1, h.2.1.1 (e), trivial⟩) (fun e => ok_cmp (.tmp 1 rfl) (.lit) rfl)) ?_
      refine .cons (.wanted 36 false rfl rfl rfl 0 rfl (ok_pickS (decide (0 ≤ cmpI X Y)) (.tmp 1 rfl) (fun e => Opd.eqB (Opd.grd (.tmp 2 rfl) (by first | (rw [e]; rfl) | (simp only [e]; rfl) | (simp [*] at *; done))) (by rw [e]; rfl)) (fun e => Opd.eqB (.lit) (by rw [e]; rfl)))) ?_
      refine .cons (.wanted 36 false rfl rfl rfl 0 rfl (ok_move (.tmp 1 rfl))) ?_
      refine .cons (.sym 43 true ((decide (0 ≤ cmpI X Y)) && (decide (0 ≤ cmpI Y Z))) (((decide (0 ≤ cmpI X Y)) && (decide (0 ≤ cmpI Y Z))) == true) rfl rfl rfl 0 (need' := [(84, .val (IsB ((decide (0 ≤ cmpI X Y)) && (decide (0 ≤ cmpI Y Z))))), (10, .val (Lit (.int .i64 (cmpI X Z))))]) rfl rfl (fun a w B e h => ⟨h.1, h.2.1, trivial⟩) (fun e => ok_move (.tmp 1 rfl))) ?_
      refine .cons (.sym 43 true ((decide (0 ≤ cmpI X Y)) && (decide (0 ≤ cmpI Y Z))) (((decide (0 ≤ cmpI X Y)) && (decide (0 ≤ cmpI Y Z))) == true) rfl rfl rfl 0 (need' := [(84, .val (IsB ((decide (0 ≤ cmpI X Y)) && (decide (0 ≤ cmpI Y Z))))), (85, .val (Lit (.int .i64 (cmpI X Z))))]) rfl rfl (fun a w B e h => ⟨h.1, h.2.1.1 (e), trivial⟩) (fun e => ok_cmp (.tmp 1 rfl) (.lit) rfl)) ?_
      refine .cons (.wanted 36 false rfl rfl rfl 0 rfl (OpOk.eqB (b := ((decide (0 ≤ cmpI X Y)) && (decide (0 ≤ cmpI Y Z))) && (decide (cmpI X Z < 0))) (ok_pickS ((decide (0 ≤ cmpI X Y)) && (decide (0 ≤ cmpI Y Z))) (.tmp 1 rfl) (fun e => Opd.eqB (Opd.grd (.tmp 2 rfl) (by first | (rw [e]; rfl) | (simp only [e]; rfl) | (simp [*] at *; done))) (by rw [e]; rfl)) (fun e => Opd.eqB (.lit) (by rw [e]; rfl))) (order_down X Y Z))) ?_
      refine .cons (.plain rfl (ok_pickF (.tmp 0 rfl) (.tmp 1 rfl))) ?_
      exact .nil
    clear H6 a6 w6 B6
    intro a7 w7 B7 H7
    refine any_done (by kernel_rfl) ?_
    refine then_normal ?_
    refine f_condF H7 (.tmp 0 rfl) ?_
    refine wp_skip ?_
    refine then_normal ?_
    refine wp_seq ?_
    refine flow_drawT (dsts := [some 89, some 90, some 91, some 11]) (refs := [[.pre 4], [], [.res 0, .res 1], [.res 2]]) (outs := [.res 3, .pre 1, .pre 2, .pre 3, .pre 4, .pre 5, .pre 6, .pre 7]) (als := [false, false, false, false]) (posts := [.val (IsArg ngz nz xz), .val (IsI 0), .val (Lit (.int .i64 (cmpI Z 0))), .val (Lit (.int .i64 (cmpI Z 0)))])
      (out := [(11, .val (Lit (.int .i64 (cmpI Z 0)))), (8, .val (Lit (.int .i64 (cmpI X Y)))), (3, .box 25 2 (IsArg ngx nx xx)), (4, .box 25 2 (IsArg ngy ny xy)), (5, .box 25 2 (IsArg ngz nz xz)), (6, .val (Lit (.int .i64 m))), (7, .val (Lit (.int .i64 n))), (2, .val (IsB false))]) (nb := []) H7 (by kernel_rfl) 4 0 #[true, true, true, true] (by kernel_rfl) (by kernel_rfl) rfl rfl ?_ ?_
    · refine .cons (.plain rfl (ok_load tyI (.tmp 0 rfl))) ?_
      refine .cons (.plain rfl (ok_call (con_from 0 (by omega)) (.cons (.lit) (.nil)))) ?_
      refine .cons (.plain rfl (ok_call (con_cmp Z 0) (.cons (.weak (.tmp 0 rfl) (weakAN (by omega) hZ)) (.cons (.weak (.tmp 1 rfl) weakIN) (.nil))))) ?_
      refine .cons (.plain rfl (ok_assign (.tmp 0 rfl))) ?_
      exact .nil
    clear H7 a7 w7 B7
    intro a8 w8 B8 H8
    refine any_done (by kernel_rfl) ?_
    refine then_normal ?_
    refine wp_seq ?_
    refine wp_seq ?_
    refine flow_drawT (dsts := [some 92, some 93, some 94, some 95, some 96, some 97, some 98, some 99, some 100, some 101, some 102, some 103, some 104, some 105, some 106, some 107, some 108, some 109, some 110, some 111, some 112, some 113, some 114, some 115, some 116, some 117, some 118, some 119, some 120, some 121, some 122]) (refs := [[.pre 2], [.pre 4], [.res 0, .res 1], [.pre 3], [.pre 4], [.res 3, .res 4], [.res 2, .res 5], [.pre 1], [.res 6, .res 7], [.res 8], [.res 9, .pre 2], [.res 9, .pre 4], [.res 9, .res 10, .res 11], [.res 9, .pre 3], [.res 9, .pre 4], [.res 9, .res 13, .res 14], [.res 9, .res 12, .res 15], [.res 9, .pre 1], [.res 9, .pre 0], [.res 9, .res 17, .res 18], [.res 9, .res 16, .res 19], [.res 9, .res 20], [.res 21], [.res 22, .pre 2], [.res 22, .pre 3], [.res 22, .res 23, .res 24], [.res 22], [.res 22, .res 25, .res 26], [.res 22, .pre 1], [.res 22, .res 27, .res 28], [.res 22, .res 29]]) (outs := [.res 30, .pre 5, .pre 6, .pre 7]) (als := [false, false, false, false, false, false, false, false, false, false, false, false, false, false, false, false, false, false, false, false, false, false, false, false, false, false, false, false, false, false, false]) (posts := [.val (IsArg ngx nx xx), .val (IsArg ngz nz xz), .val (IsI (X + Z)), .val (IsArg ngy ny xy), .val (IsArg ngz nz xz), .val (IsI (Y + Z)), .val (Lit (.int .i64 (cmpI (X + Z) (Y + Z)))), .val (Lit (.int .i64 (cmpI X Y))), .val (IsB false), .val (IsB false), .val (IsArg ngx nx xx), .val (IsArg ngz nz xz), .val (IsI (X * Z)), .val (IsArg ngy ny xy), .val (IsArg ngz nz xz), .val (IsI (Y * Z)), .val (Lit (.int .i64 (cmpI (X * Z) (Y * Z)))), .val (Lit (.int .i64 (cmpI X Y))), .val (Lit (.int .i64 (cmpI Z 0))), .val (Lit (.int .i64 ((cmpI X Y) * (cmpI Z 0)))), .val (IsB false), .val (IsB false), .val (IsB false), .val (IsArg ngx nx xx), .val (IsArg ngy ny xy), .val (IsI (X - Y)), .val (IsI 0), .val (Lit (.int .i64 (cmpI (X - Y) 0))), .val (Lit (.int .i64 (cmpI X Y))), .val (IsB false), .val (IsB false)])
      (out := [(122, .val (IsB false)), (6, .val (Lit (.int .i64 m))), (7, .val (Lit (.int .i64 n))), (2, .val (IsB false))]) (nb := []) H8 (by kernel_rfl) 31 0 #[true, true, true, true, true, true, true, true, true, true, true, true, true, true, true, true, true, true, true, true, true, true, true, true, true, true, true, true, true, true, true] (by kernel_rfl) (by kernel_rfl) rfl rfl ?_ ?_
    · refine .cons (.plain rfl (ok_load tyI (.tmp 0 rfl))) ?_
      refine .cons (.plain rfl (ok_load tyI (.tmp 0 rfl))) ?_
      refine .cons (.plain rfl (ok_call (con_add X Z (((fX.add fZ)).fits (by omega))) (.cons (.weak (.tmp 0 rfl) (weakAN (by omega) hX)) (.cons (.weak (.tmp 1 rfl) (weakAN (by omega) hZ)) (.nil))))) ?_
      refine .cons (.plain rfl (ok_load tyI (.tmp 0 rfl))) ?_
      refine .cons (.plain rfl (ok_load tyI (.tmp 0 rfl))) ?_
      refine .cons (.plain rfl (ok_call (con_add Y Z (((fY.add fZ)).fits (by omega))) (.cons (.weak (.tmp 0 rfl) (weakAN (by omega) hY)) (.cons (.weak (.tmp 1 rfl) (weakAN (by omega) hZ)) (.nil))))) ?_
      refine .cons (.plain rfl (ok_call (con_cmp (X + Z) (Y + Z)) (.cons (.weak (.tmp 0 rfl) weakIN) (.cons (.weak (.tmp 1 rfl) weakIN) (.nil))))) ?_
      refine .cons (.plain rfl (ok_move (.tmp 0 rfl))) ?_
      refine .cons (.plain rfl (ok_cmp (b := false) (.tmp 0 rfl) (.tmp 1 rfl) ((decide_eq_false (fun h => h (cmp_add X Y Z))).symm))) ?_
      refine .cons (.plain rfl (ok_move (.tmp 0 rfl))) ?_
      refine .cons (.wanted 9 false rfl rfl rfl 0 rfl (ok_load tyI (.tmp 1 rfl))) ?_
      refine .cons (.wanted 9 false rfl rfl rfl 0 rfl (ok_load tyI (.tmp 1 rfl))) ?_
      refine .cons (.wanted 9 false rfl rfl rfl 0 rfl (ok_call (con_mul X Z (((fX.mul fZ)).fits (by omega))) (.cons (.weak (.tmp 1 rfl) (weakAN (by omega) hX)) (.cons (.weak (.tmp 2 rfl) (weakAN (by omega) hZ)) (.nil))))) ?_
      refine .cons (.wanted 9 false rfl rfl rfl 0 rfl (ok_load tyI (.tmp 1 rfl))) ?_
      refine .cons (.wanted 9 false rfl rfl rfl 0 rfl (ok_load tyI (.tmp 1 rfl))) ?_
      refine .cons (.wanted 9 false rfl rfl rfl 0 rfl (ok_call (con_mul Y Z (((fY.mul fZ)).fits (by omega))) (.cons (.weak (.tmp 1 rfl) (weakAN (by omega) hY)) (.cons (.weak (.tmp 2 rfl) (weakAN (by omega) hZ)) (.nil))))) ?_
      refine .cons (.wanted 9 false rfl rfl rfl 0 rfl (ok_call (con_cmp (X * Z) (Y * Z)) (.cons (.weak (.tmp 1 rfl) weakIN) (.cons (.weak (.tmp 2 rfl) weakIN) (.nil))))) ?_
      refine .cons (.wanted 9 false rfl rfl rfl 0 rfl (ok_move (.tmp 1 rfl))) ?_
      refine .cons (.wanted 9 false rfl rfl rfl 0 rfl (ok_move (.tmp 1 rfl))) ?_
      refine .cons (.wanted 9 false rfl rfl rfl 0 rfl (ok_mul (r := ((cmpI X Y) * (cmpI Z 0))) (.tmp 1 rfl) (.tmp 2 rfl) (w_i64 (by rw [← cmp_mul]; have := cmp_bd (X * Z) (Y * Z); omega)))) ?_
      refine .cons (.wanted 9 false rfl rfl rfl 0 rfl (ok_cmp (b := false) (.tmp 1 rfl) (.tmp 2 rfl) ((decide_eq_false (fun h => h (cmp_mul X Y Z))).symm))) ?_
      refine .cons (.plain rfl (ok_pickF (.tmp 0 rfl) (.tmp 1 rfl))) ?_
      refine .cons (.plain rfl (ok_move (.tmp 0 rfl))) ?_
      refine .cons (.wanted 22 false rfl rfl rfl 0 rfl (ok_load tyI (.tmp 1 rfl))) ?_
      refine .cons (.wanted 22 false rfl rfl rfl 0 rfl (ok_load tyI (.tmp 1 rfl))) ?_
      refine .cons (.wanted 22 false rfl rfl rfl 0 rfl (ok_call (con_sub X Y (((fX.sub fY)).fits (by omega))) (.cons (.weak (.tmp 1 rfl) (weakAN (by omega) hX)) (.cons (.weak (.tmp 2 rfl) (weakAN (by omega) hY)) (.nil))))) ?_
      refine .cons (.wanted 22 false rfl rfl rfl 0 rfl (ok_call (con_from 0 (by omega)) (.cons (.lit) (.nil)))) ?_
      refine .cons (.wanted 22 false rfl rfl rfl 0 rfl (ok_call (con_cmp (X - Y) 0) (.cons (.weak (.tmp 1 rfl) weakIN) (.cons (.weak (.tmp 2 rfl) weakIN) (.nil))))) ?_
      refine .cons (.wanted 22 false rfl rfl rfl 0 rfl (ok_move (.tmp 1 rfl))) ?_
      refine .cons (.wanted 22 false rfl rfl rfl 0 rfl (ok_cmp (b := false) (.tmp 1 rfl) (.tmp 2 rfl) ((decide_eq_false (fun h => h (cmp_sub X Y))).symm))) ?_
      refine .cons (.plain rfl (ok_pickF (.tmp 0 rfl) (.tmp 1 rfl))) ?_
      exact .nil
    clear H8 a8 w8 B8
    intro a9 w9 B9 H9
    refine any_done (by kernel_rfl) ?_
    refine then_normal ?_
    refine f_condF H9 (.tmp 0 rfl) ?_
    refine wp_skip ?_
    refine then_normal ?_
    refine wp_seq ?_
    refine flow_region (dsts := [some 12]) (refs := [[]]) (outs := [.res 0, .pre 1, .pre 2, .pre 3]) (als := [false]) (posts := [.val (Lit (.int .i64 0))])
      (out := [(12, .val (Lit (.int .i64 0))), (6, .val (Lit (.int .i64 m))), (7, .val (Lit (.int .i64 n))), (2, .val (IsB false))]) (nb := []) H9 1 [] rfl (by kernel_rfl) rfl rfl ?_ ?_
    · refine .cons (.plain rfl (ok_assign (.lit))) ?_
      exact .nil
    clear H9 a9 w9 B9
    intro a10 w10 B10 H10
    refine ops_done ?_
    refine then_normal ?_
    refine wp_seq ?_
    refine wp_seq ?_
    refine flow_region (dsts := [some 123, some 124, some 125]) (refs := [[.pre 1], [.pre 2], [.res 0, .res 1]]) (outs := [.res 2, .pre 0, .pre 1, .pre 2, .pre 3]) (als := [false, false, false]) (posts := [.val (Lit (.int .i64 m)), .val (Lit (.int .i64 n)), .val (IsB (decide (m < n)))])
      (out := [(125, .val (IsB (decide (m < n)))), (12, .val (Lit (.int .i64 0))), (6, .val (Lit (.int .i64 m))), (7, .val (Lit (.int .i64 n))), (2, .val (IsB false))]) (nb := []) H10 3 [] rfl (by kernel_rfl) rfl rfl ?_ ?_
    · refine .cons (.plain rfl (ok_move (.tmp 0 rfl))) ?_
      refine .cons (.plain rfl (ok_move (.tmp 0 rfl))) ?_
      refine .cons (.plain rfl (ok_cmp (.tmp 0 rfl) (.tmp 1 rfl) rfl)) ?_
      exact .nil
    clear H10 a10 w10 B10
    intro a11 w11 B11 H11
    refine ops_done ?_
    refine then_normal ?_
    refine f_cond H11 (.tmp 0 rfl) ?_ ?_
    · intro hc12
      replace hc12 := of_decide_eq_true hc12
      refine flow_region (dsts := [some 12]) (refs := [[]]) (outs := [.res 0, .pre 2, .pre 3, .pre 4]) (als := [false]) (posts := [.val (Lit (.int .i64 (-1)))])
        (out := [(12, .val (Lit (.int .i64 (-1)))), (6, .val (Lit (.int .i64 m))), (7, .val (Lit (.int .i64 n))), (2, .val (IsB false))]) (nb := []) H11 1 [] rfl (by kernel_rfl) rfl rfl ?_ ?_
      · refine .cons (.plain rfl (ok_assign (.lit))) ?_
        exact .nil
      clear H11 a11 w11 B11
      intro a13 w13 B13 H13
      refine ops_done ?_
      refine then_normal ?_
      refine wp_seq ?_
      refine wp_seq ?_
      refine flow_region (dsts := [some 126, some 127, some 128]) (refs := [[.pre 1], [.pre 2], [.res 0, .res 1]]) (outs := [.res 2, .pre 0, .pre 1, .pre 2, .pre 3]) (als := [false, false, false]) (posts := [.val (Lit (.int .i64 m)), .val (Lit (.int .i64 n)), .val (IsB (decide (n < m)))])
        (out := [(128, .val (IsB (decide (n < m)))), (12, .val (Lit (.int .i64 (-1)))), (6, .val (Lit (.int .i64 m))), (7, .val (Lit (.int .i64 n))), (2, .val (IsB false))]) (nb := []) H13 3 [] rfl (by kernel_rfl) rfl rfl ?_ ?_
      · refine .cons (.plain rfl (ok_move (.tmp 0 rfl))) ?_
        refine .cons (.plain rfl (ok_move (.tmp 0 rfl))) ?_
        refine .cons (.plain rfl (ok_cmp (.tmp 0 rfl) (.tmp 1 rfl) rfl)) ?_
        exact .nil
      clear H13 a13 w13 B13
      intro a14 w14 B14 H14
      refine ops_done ?_
      refine then_normal ?_
      refine f_cond H14 (.tmp 0 rfl) ?_ ?_
      · intro hc15
        replace hc15 := of_decide_eq_true hc15
        refine flow_region (dsts := [some 12]) (refs := [[]]) (outs := [.res 0, .pre 2, .pre 3, .pre 4]) (als := [false]) (posts := [.val (Lit (.int .i64 1))])
          (out := [(12, .val (Lit (.int .i64 1))), (6, .val (Lit (.int .i64 m))), (7, .val (Lit (.int .i64 n))), (2, .val (IsB false))]) (nb := []) H14 1 [] rfl (by kernel_rfl) rfl rfl ?_ ?_
        · refine .cons (.plain rfl (ok_assign (.lit))) ?_
          exact .nil
        clear H14 a14 w14 B14
        intro a16 w16 B16 H16
        refine ops_done ?_
        refine then_normal ?_
        refine wp_seq ?_
        refine flow_region (dsts := [some 130, some 131, some 132, some 129, some 133, some 134, some 13, some 14]) (refs := [[.pre 1], [.res 0], [.res 1], [.res 2], [.res 3], [.res 3], [.res 4], [.res 5]]) (outs := [.res 6, .res 7, .pre 0, .pre 1, .pre 2, .pre 3]) (als := [false, false, false, false, false, false, false, false]) (posts := [.val (Lit (.int .i64 m)), .val (IsI m), .val (Tup [Lit (.int .i64 m), IsB true]), .val (Tup [Lit (.int .i64 m), IsB true]), .val (Lit (.int .i64 m)), .val (IsB true), .val (Lit (.int .i64 m)), .val (IsB true)])
          (out := [(13, .val (Lit (.int .i64 m))), (14, .val (IsB true)), (12, .val (Lit (.int .i64 1))), (6, .val (Lit (.int .i64 m))), (7, .val (Lit (.int .i64 n))), (2, .val (IsB false))]) (nb := []) H16 8 [] rfl (by kernel_rfl) rfl rfl ?_ ?_
        · refine .cons (.plain rfl (ok_move (.tmp 0 rfl))) ?_
          refine .cons (.plain rfl (ok_call (con_from m hm) (.cons (.tmp 0 rfl) (.nil)))) ?_
          refine .cons (.plain rfl (ok_call ((con_int64 m).weak (fun v w B h => by rw [i64_ok hm, if_pos rfl] at h; exact h)) (.cons (.weak (.tmp 0 rfl) weakIN) (.nil)))) ?_
          refine .cons (.plain rfl (ok_move (.tmp 0 rfl))) ?_
          refine .cons (.plain rfl (ok_extract 0 (.tmp 0 rfl) rfl)) ?_
          refine .cons (.plain rfl (ok_extract 1 (.tmp 0 rfl) rfl)) ?_
          refine .cons (.plain rfl (ok_assign (.tmp 0 rfl))) ?_
          refine .cons (.plain rfl (ok_assign (.tmp 0 rfl))) ?_
          exact .nil
        clear H16 a16 w16 B16
        intro a17 w17 B17 H17
        refine ops_done ?_
        refine then_normal ?_
        refine wp_seq ?_
        refine flow_region (dsts := [some 136, some 137, some 138, some 135, some 139, some 140, some 15, some 16]) (refs := [[.pre 3], [.res 0], [.res 1], [.res 2], [.res 3], [.res 3], [.res 4], [.res 5]]) (outs := [.res 6, .res 7, .pre 0, .pre 1, .pre 2, .pre 3, .pre 4, .pre 5]) (als := [false, false, false, false, false, false, false, false]) (posts := [.val (Lit (.int .i64 m)), .val (IsI m), .val (Tup [Lit (.int .u64 (if okU64 m then m else 0)), IsB (okU64 m)]), .val (Tup [Lit (.int .u64 (if okU64 m then m else 0)), IsB (okU64 m)]), .val (Lit (.int .u64 (if okU64 m then m else 0))), .val (IsB (okU64 m)), .val (Lit (.int .u64 (if okU64 m then m else 0))), .val (IsB (okU64 m))])
          (out := [(15, .val (Lit (.int .u64 (if okU64 m then m else 0)))), (16, .val (IsB (okU64 m))), (13, .val (Lit (.int .i64 m))), (14, .val (IsB true)), (12, .val (Lit (.int .i64 1))), (6, .val (Lit (.int .i64 m))), (7, .val (Lit (.int .i64 n))), (2, .val (IsB false))]) (nb := []) H17 8 [] rfl (by kernel_rfl) rfl rfl ?_ ?_
        · refine .cons (.plain rfl (ok_move (.tmp 0 rfl))) ?_
          refine .cons (.plain rfl (ok_call (con_from m hm) (.cons (.tmp 0 rfl) (.nil)))) ?_
          refine .cons (.plain rfl (ok_call (con_uint64 m) (.cons (.weak (.tmp 0 rfl) weakIN) (.nil)))) ?_
          refine .cons (.plain rfl (ok_move (.tmp 0 rfl))) ?_
          refine .cons (.plain rfl (ok_extract 0 (.tmp 0 rfl) rfl)) ?_
          refine .cons (.plain rfl (ok_extract 1 (.tmp 0 rfl) rfl)) ?_
          refine .cons (.plain rfl (ok_assign (.tmp 0 rfl))) ?_
          refine .cons (.plain rfl (ok_assign (.tmp 0 rfl))) ?_
          exact .nil
        clear H17 a17 w17 B17
        intro a18 w18 B18 H18
        refine ops_done ?_
        refine then_normal ?_
        refine wp_seq ?_
        refine flow_region (dsts := [some 141, some 142, some 143, some 144, some 145, some 146, some 147, some 148, some 149, some 150, some 151, some 152, some 153, some 154, some 155, some 156, some 157, some 158, some 159, some 160, some 161, some 162, some 163, some 164, some 165, some 166, some 167, some 168, some 169, some 170, some 171, some 172, some 173, some 174, some 2]) (refs := [[.pre 5], [.res 0], [.pre 6], [.res 2], [.res 1, .res 3], [.pre 4], [.res 4, .res 5], [.res 6], [.res 7, .pre 3], [.res 7, .res 8], [.res 9], [.res 10, .pre 2], [.res 10, .pre 5], [.res 10, .res 11, .res 12], [.res 10, .res 13], [.res 14], [.res 15, .pre 1], [.res 15, .pre 5], [.res 15, .res 17], [.res 15, .res 16, .res 18], [.res 15, .res 19], [.res 20], [.res 21, .pre 1], [.res 21, .res 22], [.res 21, .res 23], [.res 24, .pre 0], [.res 24, .pre 5], [.res 24, .res 26], [.res 24, .res 25, .res 27], [.res 21, .res 24, .res 28], [.res 21, .res 29], [.res 30], [.res 31], [.res 31, .res 32], [.res 33]]) (outs := [.res 34]) (als := [false, false, false, false, false, false, false, false, false, false, false, false, false, false, false, false, false, false, false, false, false, false, false, false, false, false, false, false, false, false, false, false, false, false, false]) (posts := [.val (Lit (.int .i64 m)), .val (IsI m), .val (Lit (.int .i64 n)), .val (IsI n), .val (Lit (.int .i64 (cmpI m n))), .val (Lit (.int .i64 1)), .val (IsB true), .val (IsB true), .val (IsB true), .val (IsB true), .val (IsB true), .val (Lit (.int .i64 m)), .val (Lit (.int .i64 m)), .val (IsB true), .val (IsB true), .val (IsB true), .val (IsB (okU64 m)), .val (Lit (.int .i64 m)), .val (IsB (decide (0 ≤ m))), .val (IsB true), .val (IsB true), .val (IsB true), .val (IsB (okU64 m)), .val (IsB (!(okU64 m))), .val (IsB (!(okU64 m))), .val (Grd ((!(okU64 m)) == false) (Lit (.int .u64 (if okU64 m then m else 0)))), .val (Grd ((!(okU64 m)) == false) (Lit (.int .i64 m))), .val (Grd ((!(okU64 m)) == false) (Lit (.int .u64 (IntKind.u64.wrap m)))), .val (Grd ((!(okU64 m)) == false) (IsB (decide ((if okU64 m then m else 0) = IntKind.u64.wrap m)))), .val (IsB true), .val (IsB true), .val (IsB true), .val (IsB true), .val (IsB true), .val (IsB true)])
          (out := [(2, .val (IsB true))]) (nb := []) H18 35 [] rfl (by kernel_rfl) rfl rfl ?_ ?_
        · refine .cons (.plain rfl (ok_move (.tmp 0 rfl))) ?_
          refine .cons (.plain rfl (ok_call (con_from m hm) (.cons (.tmp 0 rfl) (.nil)))) ?_
          refine .cons (.plain rfl (ok_move (.tmp 0 rfl))) ?_
          refine .cons (.plain rfl (ok_call (con_from n hn) (.cons (.tmp 0 rfl) (.nil)))) ?_
          refine .cons (.plain rfl (ok_call (con_cmp m n) (.cons (.weak (.tmp 0 rfl) weakIN) (.cons (.weak (.tmp 1 rfl) weakIN) (.nil))))) ?_
          refine .cons (.plain rfl (ok_move (.tmp 0 rfl))) ?_
          refine .cons (.plain rfl (ok_cmp (b := true) (.tmp 0 rfl) (.tmp 1 rfl) ((decide_eq_true (by have := cmp_spec m n; omega)).symm))) ?_
          refine .cons (.plain rfl (ok_move (.tmp 0 rfl))) ?_
          refine .cons (.wanted 7 true rfl rfl rfl 0 rfl (ok_move (.tmp 1 rfl))) ?_
          refine .cons (.plain rfl (ok_pickT (.tmp 0 rfl) (.tmp 1 rfl))) ?_
          refine .cons (.plain rfl (ok_move (.tmp 0 rfl))) ?_
          refine .cons (.wanted 10 true rfl rfl rfl 0 rfl (ok_move (.tmp 1 rfl))) ?_
          refine .cons (.wanted 10 true rfl rfl rfl 0 rfl (ok_move (.tmp 1 rfl))) ?_
          refine .cons (.wanted 10 true rfl rfl rfl 0 rfl (ok_cmp (b := true) (.tmp 1 rfl) (.tmp 2 rfl) ((decide_eq_true (rfl)).symm))) ?_
          refine .cons (.plain rfl (ok_pickT (.tmp 0 rfl) (.tmp 1 rfl))) ?_
          refine .cons (.plain rfl (ok_move (.tmp 0 rfl))) ?_
          refine .cons (.wanted 15 true rfl rfl rfl 0 rfl (ok_move (.tmp 1 rfl))) ?_
          refine .cons (.wanted 15 true rfl rfl rfl 0 rfl (ok_move (.tmp 1 rfl))) ?_
          refine .cons (.wanted 15 true rfl rfl rfl 0 rfl (ok_cmp (.tmp 1 rfl) (.lit) rfl)) ?_
          refine .cons (.wanted 15 true rfl rfl rfl 0 rfl (OpOk.eqB (b := (okU64 m) == (decide (0 ≤ m))) (ok_eqB Try.underlying4 (.tmp 1 rfl) (.tmp 2 rfl)) ((order_u64 m).resolve_right (by omega)))) ?_
          refine .cons (.plain rfl (ok_pickT (.tmp 0 rfl) (.tmp 1 rfl))) ?_
          refine .cons (.plain rfl (ok_move (.tmp 0 rfl))) ?_
          refine .cons (.wanted 21 true rfl rfl rfl 0 rfl (ok_move (.tmp 1 rfl))) ?_
          refine .cons (.wanted 21 true rfl rfl rfl 0 rfl (ok_not (b := okU64 m) (.tmp 1 rfl))) ?_
          refine .cons (.wanted 21 true rfl rfl rfl 0 rfl (ok_move (.tmp 1 rfl))) ?_
          refine .cons (.sym 24 false (!(okU64 m)) ((!(okU64 m)) == false) rfl rfl rfl 0 (need' := [(165, .val (IsB (!(okU64 m)))), (15, .val (Lit (.int .u64 (if okU64 m then m else 0))))]) rfl rfl (fun a w B e h => ⟨h.1, h.2.1, trivial⟩) (fun e => ok_move (.tmp 1 rfl))) ?_
          refine .cons (.sym 24 false (!(okU64 m)) ((!(okU64 m)) == false) rfl rfl rfl 0 (need' := [(165, .val (IsB (!(okU64 m)))), (6, .val (Lit (.int .i64 m)))]) rfl rfl (fun a w B e h => ⟨h.1, h.2.1, trivial⟩) (fun e => ok_move (.tmp 1 rfl))) ?_
          refine .cons (.sym 24 false (!(okU64 m)) ((!(okU64 m)) == false) rfl rfl rfl 0 (need' := [(165, .val (IsB (!(okU64 m)))), (167, .val (Lit (.int .i64 m)))]) rfl rfl (fun a w B e h => ⟨h.1, h.2.1.1 (e), trivial⟩) (fun e => ok_conv Try.underlying2 Try.underlying42 (r := (IntKind.u64.wrap m)) (.tmp 1 rfl) (rfl))) ?_
          refine .cons (.sym 24 false (!(okU64 m)) ((!(okU64 m)) == false) rfl rfl rfl 0 (need' := [(165, .val (IsB (!(okU64 m)))), (166, .val (Lit (.int .u64 (if okU64 m then m else 0)))), (168, .val (Lit (.int .u64 (IntKind.u64.wrap m))))]) rfl rfl (fun a w B e h => ⟨h.1, h.2.1.1 (e), h.2.2.1.1 (e), trivial⟩) (fun e => ok_cmp (.tmp 1 rfl) (.tmp 2 rfl) rfl)) ?_
          refine .cons (.wanted 21 true rfl rfl rfl 0 rfl (OpOk.eqB (b := (!(okU64 m)) || (decide ((if okU64 m then m else 0) = IntKind.u64.wrap m))) (ok_pickS (!(okU64 m)) (.tmp 1 rfl) (fun e => Opd.eqB (.lit) (by rw [e]; rfl)) (fun e => Opd.eqB (Opd.grd (.tmp 2 rfl) (by first | (rw [e]; rfl) | (simp only [e]; rfl) | (simp [*] at *; done))) (by rw [e]; rfl))) (order_uw m hm))) ?_
          refine .cons (.plain rfl (ok_pickT (.tmp 0 rfl) (.tmp 1 rfl))) ?_
          refine .cons (.plain rfl (ok_move (.tmp 0 rfl))) ?_
          refine .cons (.wanted 31 true rfl rfl rfl 0 rfl (ok_call (con_lives3) (.nil))) ?_
          refine .cons (.plain rfl (ok_pickT (.tmp 0 rfl) (.tmp 1 rfl))) ?_
          refine .cons (.plain rfl (ok_assign (.tmp 0 rfl))) ?_
          exact .nil
        clear H18 a18 w18 B18
        intro a19 w19 B19 H19
        refine ops_done ?_
        refine then_normal ?_
        refine wp_ret ?_
        exact f_ret H19 rfl 0 rfl (fun _ _ _ h => h)
      · intro hc15
        replace hc15 := of_decide_eq_false hc15
        refine wp_skip ?_
        refine then_normal ?_
        refine wp_seq ?_
        refine flow_region (dsts := [some 130, some 131, some 132, some 129, some 133, some 134, some 13, some 14]) (refs := [[.pre 2], [.res 0], [.res 1], [.res 2], [.res 3], [.res 3], [.res 4], [.res 5]]) (outs := [.res 6, .res 7, .pre 1, .pre 2, .pre 3, .pre 4]) (als := [false, false, false, false, false, false, false, false]) (posts := [.val (Lit (.int .i64 m)), .val (IsI m), .val (Tup [Lit (.int .i64 m), IsB true]), .val (Tup [Lit (.int .i64 m), IsB true]), .val (Lit (.int .i64 m)), .val (IsB true), .val (Lit (.int .i64 m)), .val (IsB true)])
          (out := [(13, .val (Lit (.int .i64 m))), (14, .val (IsB true)), (12, .val (Lit (.int .i64 (-1)))), (6, .val (Lit (.int .i64 m))), (7, .val (Lit (.int .i64 n))), (2, .val (IsB false))]) (nb := []) H14 8 [] rfl (by kernel_rfl) rfl rfl ?_ ?_
        · refine .cons (.plain rfl (ok_move (.tmp 0 rfl))) ?_
          refine .cons (.plain rfl (ok_call (con_from m hm) (.cons (.tmp 0 rfl) (.nil)))) ?_
          refine .cons (.plain rfl (ok_call ((con_int64 m).weak (fun v w B h => by rw [i64_ok hm, if_pos rfl] at h; exact h)) (.cons (.weak (.tmp 0 rfl) weakIN) (.nil)))) ?_
          refine .cons (.plain rfl (ok_move (.tmp 0 rfl))) ?_
          refine .cons (.plain rfl (ok_extract 0 (.tmp 0 rfl) rfl)) ?_
          refine .cons (.plain rfl (ok_extract 1 (.tmp 0 rfl) rfl)) ?_
          refine .cons (.plain rfl (ok_assign (.tmp 0 rfl))) ?_
          refine .cons (.plain rfl (ok_assign (.tmp 0 rfl))) ?_
          exact .nil
        clear H14 a14 w14 B14
        intro a20 w20 B20 H20
        refine ops_done ?_
        refine then_normal ?_
        refine wp_seq ?_
        refine flow_region (dsts := [some 136, some 137, some 138, some 135, some 139, some 140, some 15, some 16]) (refs := [[.pre 3], [.res 0], [.res 1], [.res 2], [.res 3], [.res 3], [.res 4], [.res 5]]) (outs := [.res 6, .res 7, .pre 0, .pre 1, .pre 2, .pre 3, .pre 4, .pre 5]) (als := [false, false, false, false, false, false, false, false]) (posts := [.val (Lit (.int .i64 m)), .val (IsI m), .val (Tup [Lit (.int .u64 (if okU64 m then m else 0)), IsB (okU64 m)]), .val (Tup [Lit (.int .u64 (if okU64 m then m else 0)), IsB (okU64 m)]), .val (Lit (.int .u64 (if okU64 m then m else 0))), .val (IsB (okU64 m)), .val (Lit (.int .u64 (if okU64 m then m else 0))), .val (IsB (okU64 m))])
          (out := [(15, .val (Lit (.int .u64 (if okU64 m then m else 0)))), (16, .val (IsB (okU64 m))), (13, .val (Lit (.int .i64 m))), (14, .val (IsB true)), (12, .val (Lit (.int .i64 (-1)))), (6, .val (Lit (.int .i64 m))), (7, .val (Lit (.int .i64 n))), (2, .val (IsB false))]) (nb := []) H20 8 [] rfl (by kernel_rfl) rfl rfl ?_ ?_
        · refine .cons (.plain rfl (ok_move (.tmp 0 rfl))) ?_
          refine .cons (.plain rfl (ok_call (con_from m hm) (.cons (.tmp 0 rfl) (.nil)))) ?_
          refine .cons (.plain rfl (ok_call (con_uint64 m) (.cons (.weak (.tmp 0 rfl) weakIN) (.nil)))) ?_
          refine .cons (.plain rfl (ok_move (.tmp 0 rfl))) ?_
          refine .cons (.plain rfl (ok_extract 0 (.tmp 0 rfl) rfl)) ?_
          refine .cons (.plain rfl (ok_extract 1 (.tmp 0 rfl) rfl)) ?_
          refine .cons (.plain rfl (ok_assign (.tmp 0 rfl))) ?_
          refine .cons (.plain rfl (ok_assign (.tmp 0 rfl))) ?_
          exact .nil
        clear H20 a20 w20 B20
        intro a21 w21 B21 H21
        refine ops_done ?_
        refine then_normal ?_
        refine wp_seq ?_
        refine flow_region (dsts := [some 141, some 142, some 143, some 144, some 145, some 146, some 147, some 148, some 149, some 150, some 151, some 152, some 153, some 154, some 155, some 156, some 157, some 158, some 159, some 160, some 161, some 162, some 163, some 164, some 165, some 166, some 167, some 168, some 169, some 170, some 171, some 172, some 173, some 174, some 2]) (refs := [[.pre 5], [.res 0], [.pre 6], [.res 2], [.res 1, .res 3], [.pre 4], [.res 4, .res 5], [.res 6], [.res 7, .pre 3], [.res 7, .res 8], [.res 9], [.res 10, .pre 2], [.res 10, .pre 5], [.res 10, .res 11, .res 12], [.res 10, .res 13], [.res 14], [.res 15, .pre 1], [.res 15, .pre 5], [.res 15, .res 17], [.res 15, .res 16, .res 18], [.res 15, .res 19], [.res 20], [.res 21, .pre 1], [.res 21, .res 22], [.res 21, .res 23], [.res 24, .pre 0], [.res 24, .pre 5], [.res 24, .res 26], [.res 24, .res 25, .res 27], [.res 21, .res 24, .res 28], [.res 21, .res 29], [.res 30], [.res 31], [.res 31, .res 32], [.res 33]]) (outs := [.res 34]) (als := [false, false, false, false, false, false, false, false, false, false, false, false, false, false, false, false, false, false, false, false, false, false, false, false, false, false, false, false, false, false, false, false, false, false, false]) (posts := [.val (Lit (.int .i64 m)), .val (IsI m), .val (Lit (.int .i64 n)), .val (IsI n), .val (Lit (.int .i64 (cmpI m n))), .val (Lit (.int .i64 (-1))), .val (IsB true), .val (IsB true), .val (IsB true), .val (IsB true), .val (IsB true), .val (Lit (.int .i64 m)), .val (Lit (.int .i64 m)), .val (IsB true), .val (IsB true), .val (IsB true), .val (IsB (okU64 m)), .val (Lit (.int .i64 m)), .val (IsB (decide (0 ≤ m))), .val (IsB true), .val (IsB true), .val (IsB true), .val (IsB (okU64 m)), .val (IsB (!(okU64 m))), .val (IsB (!(okU64 m))), .val (Grd ((!(okU64 m)) == false) (Lit (.int .u64 (if okU64 m then m else 0)))), .val (Grd ((!(okU64 m)) == false) (Lit (.int .i64 m))), .val (Grd ((!(okU64 m)) == false) (Lit (.int .u64 (IntKind.u64.wrap m)))), .val (Grd ((!(okU64 m)) == false) (IsB (decide ((if okU64 m then m else 0) = IntKind.u64.wrap m)))), .val (IsB true), .val (IsB true), .val (IsB true), .val (IsB true), .val (IsB true), .val (IsB true)])
          (out := [(2, .val (IsB true))]) (nb := []) H21 35 [] rfl (by kernel_rfl) rfl rfl ?_ ?_
        · refine .cons (.plain rfl (ok_move (.tmp 0 rfl))) ?_
          refine .cons (.plain rfl (ok_call (con_from m hm) (.cons (.tmp 0 rfl) (.nil)))) ?_
          refine .cons (.plain rfl (ok_move (.tmp 0 rfl))) ?_
          refine .cons (.plain rfl (ok_call (con_from n hn) (.cons (.tmp 0 rfl) (.nil)))) ?_
          refine .cons (.plain rfl (ok_call (con_cmp m n) (.cons (.weak (.tmp 0 rfl) weakIN) (.cons (.weak (.tmp 1 rfl) weakIN) (.nil))))) ?_
          refine .cons (.plain rfl (ok_move (.tmp 0 rfl))) ?_
          refine .cons (.plain rfl (ok_cmp (b := true) (.tmp 0 rfl) (.tmp 1 rfl) ((decide_eq_true (by have := cmp_spec m n; omega)).symm))) ?_
          refine .cons (.plain rfl (ok_move (.tmp 0 rfl))) ?_
          refine .cons (.wanted 7 true rfl rfl rfl 0 rfl (ok_move (.tmp 1 rfl))) ?_
          refine .cons (.plain rfl (ok_pickT (.tmp 0 rfl) (.tmp 1 rfl))) ?_
          refine .cons (.plain rfl (ok_move (.tmp 0 rfl))) ?_
          refine .cons (.wanted 10 true rfl rfl rfl 0 rfl (ok_move (.tmp 1 rfl))) ?_
          refine .cons (.wanted 10 true rfl rfl rfl 0 rfl (ok_move (.tmp 1 rfl))) ?_
          refine .cons (.wanted 10 true rfl rfl rfl 0 rfl (ok_cmp (b := true) (.tmp 1 rfl) (.tmp 2 rfl) ((decide_eq_true (rfl)).symm))) ?_
          refine .cons (.plain rfl (ok_pickT (.tmp 0 rfl) (.tmp 1 rfl))) ?_
          refine .cons (.plain rfl (ok_move (.tmp 0 rfl))) ?_
          refine .cons (.wanted 15 true rfl rfl rfl 0 rfl (ok_move (.tmp 1 rfl))) ?_
          refine .cons (.wanted 15 true rfl rfl rfl 0 rfl (ok_move (.tmp 1 rfl))) ?_
          refine .cons (.wanted 15 true rfl rfl rfl 0 rfl (ok_cmp (.tmp 1 rfl) (.lit) rfl)) ?_
          refine .cons (.wanted 15 true rfl rfl rfl 0 rfl (OpOk.eqB (b := (okU64 m) == (decide (0 ≤ m))) (ok_eqB Try.underlying4 (.tmp 1 rfl) (.tmp 2 rfl)) ((order_u64 m).resolve_right (by omega)))) ?_
          refine .cons (.plain rfl (ok_pickT (.tmp 0 rfl) (.tmp 1 rfl))) ?_
          refine .cons (.plain rfl (ok_move (.tmp 0 rfl))) ?_
          refine .cons (.wanted 21 true rfl rfl rfl 0 rfl (ok_move (.tmp 1 rfl))) ?_
          refine .cons (.wanted 21 true rfl rfl rfl 0 rfl (ok_not (b := okU64 m) (.tmp 1 rfl))) ?_
          refine .cons (.wanted 21 true rfl rfl rfl 0 rfl (ok_move (.tmp 1 rfl))) ?_
          refine .cons (.sym 24 false (!(okU64 m)) ((!(okU64 m)) == false) rfl rfl rfl 0 (need' := [(165, .val (IsB (!(okU64 m)))), (15, .val (Lit (.int .u64 (if okU64 m then m else 0))))]) rfl rfl (fun a w B e h => ⟨h.1, h.2.1, trivial⟩) (fun e => ok_move (.tmp 1 rfl))) ?_
          refine .cons (.sym 24 false (!(okU64 m)) ((!(okU64 m)) == false) rfl rfl rfl 0 (need' := [(165, .val (IsB (!(okU64 m)))), (6, .val (Lit (.int .i64 m)))]) rfl rfl (fun a w B e h => ⟨h.1, h.2.1, trivial⟩) (fun e => ok_move (.tmp 1 rfl))) ?_
          refine .cons (.sym 24 false (!(okU64 m)) ((!(okU64 m)) == false) rfl rfl rfl 0 (need' := [(165, .val (IsB (!(okU64 m)))), (167, .val (Lit (.int .i64 m)))]) rfl rfl (fun a w B e h => ⟨h.1, h.2.1.1 (e), trivial⟩) (fun e => ok_conv Try.underlying2 Try.underlying42 (r := (IntKind.u64.wrap m)) (.tmp 1 rfl) (rfl))) ?_
          refine .cons (.sym 24 false (!(okU64 m)) ((!(okU64 m)) == false) rfl rfl rfl 0 (need' := [(165, .val (IsB (!(okU64 m)))), (166, .val (Lit (.int .u64 (if okU64 m then m else 0)))), (168, .val (Lit (.int .u64 (IntKind.u64.wrap m))))]) rfl rfl (fun a w B e h => ⟨h.1, h.2.1.1 (e), h.2.2.1.1 (e), trivial⟩) (fun e => ok_cmp (.tmp 1 rfl) (.tmp 2 rfl) rfl)) ?_
          refine .cons (.wanted 21 true rfl rfl rfl 0 rfl (OpOk.eqB (b := (!(okU64 m)) || (decide ((if okU64 m then m else 0) = IntKind.u64.wrap m))) (ok_pickS (!(okU64 m)) (.tmp 1 rfl) (fun e => Opd.eqB (.lit) (by rw [e]; rfl)) (fun e => Opd.eqB (Opd.grd (.tmp 2 rfl) (by first | (rw [e]; rfl) | (simp only [e]; rfl) | (simp [*] at *; done))) (by rw [e]; rfl))) (order_uw m hm))) ?_
          refine .cons (.plain rfl (ok_pickT (.tmp 0 rfl) (.tmp 1 rfl))) ?_
          refine .cons (.plain rfl (ok_move (.tmp 0 rfl))) ?_
          refine .cons (.wanted 31 true rfl rfl rfl 0 rfl (ok_call (con_lives3) (.nil))) ?_
          refine .cons (.plain rfl (ok_pickT (.tmp 0 rfl) (.tmp 1 rfl))) ?_
          refine .cons (.plain rfl (ok_assign (.tmp 0 rfl))) ?_
          exact .nil
        clear H21 a21 w21 B21
        intro a22 w22 B22 H22
        refine ops_done ?_
        refine then_normal ?_
        refine wp_ret ?_
        exact f_ret H22 rfl 0 rfl (fun _ _ _ h => h)
    · intro hc12
      replace hc12 := of_decide_eq_false hc12
      refine wp_skip ?_
      refine then_normal ?_
      refine wp_seq ?_
      refine wp_seq ?_
      refine flow_region (dsts := [some 126, some 127, some 128]) (refs := [[.pre 2], [.pre 3], [.res 0, .res 1]]) (outs := [.res 2, .pre 1, .pre 2, .pre 3, .pre 4]) (als := [false, false, false]) (posts := [.val (Lit (.int .i64 m)), .val (Lit (.int .i64 n)), .val (IsB (decide (n < m)))])
        (out := [(128, .val (IsB (decide (n < m)))), (12, .val (Lit (.int .i64 0))), (6, .val (Lit (.int .i64 m))), (7, .val (Lit (.int .i64 n))), (2, .val (IsB false))]) (nb := []) H11 3 [] rfl (by kernel_rfl) rfl rfl ?_ ?_
      · refine .cons (.plain rfl (ok_move (.tmp 0 rfl))) ?_
        refine .cons (.plain rfl (ok_move (.tmp 0 rfl))) ?_
        refine .cons (.plain rfl (ok_cmp (.tmp 0 rfl) (.tmp 1 rfl) rfl)) ?_
        exact .nil
      clear H11 a11 w11 B11
      intro a23 w23 B23 H23
      refine ops_done ?_
      refine then_normal ?_
      refine f_cond H23 (.tmp 0 rfl) ?_ ?_
      · intro hc24
        replace hc24 := of_decide_eq_true hc24
        refine flow_region (dsts := [some 12]) (refs := [[]]) (outs := [.res 0, .pre 2, .pre 3, .pre 4]) (als := [false]) (posts := [.val (Lit (.int .i64 1))])
          (out := [(12, .val (Lit (.int .i64 1))), (6, .val (Lit (.int .i64 m))), (7, .val (Lit (.int .i64 n))), (2, .val (IsB false))]) (nb := []) H23 1 [] rfl (by kernel_rfl) rfl rfl ?_ ?_
        · refine .cons (.plain rfl (ok_assign (.lit))) ?_
          exact .nil
        clear H23 a23 w23 B23
        intro a25 w25 B25 H25
        refine ops_done ?_
        refine then_normal ?_
        refine wp_seq ?_
        refine flow_region (dsts := [some 130, some 131, some 132, some 129, some 133, some 134, some 13, some 14]) (refs := [[.pre 1], [.res 0], [.res 1], [.res 2], [.res 3], [.res 3], [.res 4], [.res 5]]) (outs := [.res 6, .res 7, .pre 0, .pre 1, .pre 2, .pre 3]) (als := [false, false, false, false, false, false, false, false]) (posts := [.val (Lit (.int .i64 m)), .val (IsI m), .val (Tup [Lit (.int .i64 m), IsB true]), .val (Tup [Lit (.int .i64 m), IsB true]), .val (Lit (.int .i64 m)), .val (IsB true), .val (Lit (.int .i64 m)), .val (IsB true)])
          (out := [(13, .val (Lit (.int .i64 m))), (14, .val (IsB true)), (12, .val (Lit (.int .i64 1))), (6, .val (Lit (.int .i64 m))), (7, .val (Lit (.int .i64 n))), (2, .val (IsB false))]) (nb := []) H25 8 [] rfl (by kernel_rfl) rfl rfl ?_ ?_
        · refine .cons (.plain rfl (ok_move (.tmp 0 rfl))) ?_
          refine .cons (.plain rfl (ok_call (con_from m hm) (.cons (.tmp 0 rfl) (.nil)))) ?_
          refine .cons (.plain rfl (ok_call ((con_int64 m).weak (fun v w B h => by rw [i64_ok hm, if_pos rfl] at h; exact h)) (.cons (.weak (.tmp 0 rfl) weakIN) (.nil)))) ?_
          refine .cons (.plain rfl (ok_move (.tmp 0 rfl))) ?_
          refine .cons (.plain rfl (ok_extract 0 (.tmp 0 rfl) rfl)) ?_
          refine .cons (.plain rfl (ok_extract 1 (.tmp 0 rfl) rfl)) ?_
          refine .cons (.plain rfl (ok_assign (.tmp 0 rfl))) ?_
          refine .cons (.plain rfl (ok_assign (.tmp 0 rfl))) ?_
          exact .nil
        clear H25 a25 w25 B25
        intro a26 w26 B26 H26
        refine ops_done ?_
        refine then_normal ?_
        refine wp_seq ?_
        refine flow_region (dsts := [some 136, some 137, some 138, some 135, some 139, some 140, some 15, some 16]) (refs := [[.pre 3], [.res 0], [.res 1], [.res 2], [.res 3], [.res 3], [.res 4], [.res 5]]) (outs := [.res 6, .res 7, .pre 0, .pre 1, .pre 2, .pre 3, .pre 4, .pre 5]) (als := [false, false, false, false, false, false, false, false]) (posts := [.val (Lit (.int .i64 m)), .val (IsI m), .val (Tup [Lit (.int .u64 (if okU64 m then m else 0)), IsB (okU64 m)]), .val (Tup [Lit (.int .u64 (if okU64 m then m else 0)), IsB (okU64 m)]), .val (Lit (.int .u64 (if okU64 m then m else 0))), .val (IsB (okU64 m)), .val (Lit (.int .u64 (if okU64 m then m else 0))), .val (IsB (okU64 m))])
          (out := [(15, .val (Lit (.int .u64 (if okU64 m then m else 0)))), (16, .val (IsB (okU64 m))), (13, .val (Lit (.int .i64 m))), (14, .val (IsB true)), (12, .val (Lit (.int .i64 1))), (6, .val (Lit (.int .i64 m))), (7, .val (Lit (.int .i64 n))), (2, .val (IsB false))]) (nb := []) H26 8 [] rfl (by kernel_rfl) rfl rfl ?_ ?_
        · refine .cons (.plain rfl (ok_move (.tmp 0 rfl))) ?_
          refine .cons (.plain rfl (ok_call (con_from m hm) (.cons (.tmp 0 rfl) (.nil)))) ?_
          refine .cons (.plain rfl (ok_call (con_uint64 m) (.cons (.weak (.tmp 0 rfl) weakIN) (.nil)))) ?_
          refine .cons (.plain rfl (ok_move (.tmp 0 rfl))) ?_
          refine .cons (.plain rfl (ok_extract 0 (.tmp 0 rfl) rfl)) ?_
          refine .cons (.plain rfl (ok_extract 1 (.tmp 0 rfl) rfl)) ?_
          refine .cons (.plain rfl (ok_assign (.tmp 0 rfl))) ?_
          refine .cons (.plain rfl (ok_assign (.tmp 0 rfl))) ?_
          exact .nil
        clear H26 a26 w26 B26
        intro a27 w27 B27 H27
        refine ops_done ?_
        refine then_normal ?_
        refine wp_seq ?_
        refine flow_region (dsts := [some 141, some 142, some 143, some 144, some 145, some 146, some 147, some 148, some 149, some 150, some 151, some 152, some 153, some 154, some 155, some 156, some 157, some 158, some 159, some 160, some 161, some 162, some 163, some 164, some 165, some 166, some 167, some 168, some 169, some 170, some 171, some 172, some 173, some 174, some 2]) (refs := [[.pre 5], [.res 0], [.pre 6], [.res 2], [.res 1, .res 3], [.pre 4], [.res 4, .res 5], [.res 6], [.res 7, .pre 3], [.res 7, .res 8], [.res 9], [.res 10, .pre 2], [.res 10, .pre 5], [.res 10, .res 11, .res 12], [.res 10, .res 13], [.res 14], [.res 15, .pre 1], [.res 15, .pre 5], [.res 15, .res 17], [.res 15, .res 16, .res 18], [.res 15, .res 19], [.res 20], [.res 21, .pre 1], [.res 21, .res 22], [.res 21, .res 23], [.res 24, .pre 0], [.res 24, .pre 5], [.res 24, .res 26], [.res 24, .res 25, .res 27], [.res 21, .res 24, .res 28], [.res 21, .res 29], [.res 30], [.res 31], [.res 31, .res 32], [.res 33]]) (outs := [.res 34]) (als := [false, false, false, false, false, false, false, false, false, false, false, false, false, false, false, false, false, false, false, false, false, false, false, false, false, false, false, false, false, false, false, false, false, false, false]) (posts := [.val (Lit (.int .i64 m)), .val (IsI m), .val (Lit (.int .i64 n)), .val (IsI n), .val (Lit (.int .i64 (cmpI m n))), .val (Lit (.int .i64 1)), .val (IsB true), .val (IsB true), .val (IsB true), .val (IsB true), .val (IsB true), .val (Lit (.int .i64 m)), .val (Lit (.int .i64 m)), .val (IsB true), .val (IsB true), .val (IsB true), .val (IsB (okU64 m)), .val (Lit (.int .i64 m)), .val (IsB (decide (0 ≤ m))), .val (IsB true), .val (IsB true), .val (IsB true), .val (IsB (okU64 m)), .val (IsB (!(okU64 m))), .val (IsB (!(okU64 m))), .val (Grd ((!(okU64 m)) == false) (Lit (.int .u64 (if okU64 m then m else 0)))), .val (Grd ((!(okU64 m)) == false) (Lit (.int .i64 m))), .val (Grd ((!(okU64 m)) == false) (Lit (.int .u64 (IntKind.u64.wrap m)))), .val (Grd ((!(okU64 m)) == false) (IsB (decide ((if okU64 m then m else 0) = IntKind.u64.wrap m)))), .val (IsB true), .val (IsB true), .val (IsB true), .val (IsB true), .val (IsB true), .val (IsB true)])
          (out := [(2, .val (IsB true))]) (nb := []) H27 35 [] rfl (by kernel_rfl) rfl rfl ?_ ?_
        · refine .cons (.plain rfl (ok_move (.tmp 0 rfl))) ?_
          refine .cons (.plain rfl (ok_call (con_from m hm) (.cons (.tmp 0 rfl) (.nil)))) ?_
          refine .cons (.plain rfl (ok_move (.tmp 0 rfl))) ?_
          refine .cons (.plain rfl (ok_call (con_from n hn) (.cons (.tmp 0 rfl) (.nil)))) ?_
          refine .cons (.plain rfl (ok_call (con_cmp m n) (.cons (.weak (.tmp 0 rfl) weakIN) (.cons (.weak (.tmp 1 rfl) weakIN) (.nil))))) ?_
          refine .cons (.plain rfl (ok_move (.tmp 0 rfl))) ?_
          refine .cons (.plain rfl (ok_cmp (b := true) (.tmp 0 rfl) (.tmp 1 rfl) ((decide_eq_true (by have := cmp_spec m n; omega)).symm))) ?_
          refine .cons (.plain rfl (ok_move (.tmp 0 rfl))) ?_
          refine .cons (.wanted 7 true rfl rfl rfl 0 rfl (ok_move (.tmp 1 rfl))) ?_
          refine .cons (.plain rfl (ok_pickT (.tmp 0 rfl) (.tmp 1 rfl))) ?_
          refine .cons (.plain rfl (ok_move (.tmp 0 rfl))) ?_
          refine .cons (.wanted 10 true rfl rfl rfl 0 rfl (ok_move (.tmp 1 rfl))) ?_
          refine .cons (.wanted 10 true rfl rfl rfl 0 rfl (ok_move (.tmp 1 rfl))) ?_
          refine .cons (.wanted 10 true rfl rfl rfl 0 rfl (ok_cmp (b := true) (.tmp 1 rfl) (.tmp 2 rfl) ((decide_eq_true (rfl)).symm))) ?_
          refine .cons (.plain rfl (ok_pickT (.tmp 0 rfl) (.tmp 1 rfl))) ?_
          refine .cons (.plain rfl (ok_move (.tmp 0 rfl))) ?_
          refine .cons (.wanted 15 true rfl rfl rfl 0 rfl (ok_move (.tmp 1 rfl))) ?_
          refine .cons (.wanted 15 true rfl rfl rfl 0 rfl (ok_move (.tmp 1 rfl))) ?_
          refine .cons (.wanted 15 true rfl rfl rfl 0 rfl (ok_cmp (.tmp 1 rfl) (.lit) rfl)) ?_
          refine .cons (.wanted 15 true rfl rfl rfl 0 rfl (OpOk.eqB (b := (okU64 m) == (decide (0 ≤ m))) (ok_eqB Try.underlying4 (.tmp 1 rfl) (.tmp 2 rfl)) ((order_u64 m).resolve_right (by omega)))) ?_
          refine .cons (.plain rfl (ok_pickT (.tmp 0 rfl) (.tmp 1 rfl))) ?_
          refine .cons (.plain rfl (ok_move (.tmp 0 rfl))) ?_
          refine .cons (.wanted 21 true rfl rfl rfl 0 rfl (ok_move (.tmp 1 rfl))) ?_
          refine .cons (.wanted 21 true rfl rfl rfl 0 rfl (ok_not (b := okU64 m) (.tmp 1 rfl))) ?_
          refine .cons (.wanted 21 true rfl rfl rfl 0 rfl (ok_move (.tmp 1 rfl))) ?_
          refine .cons (.sym 24 false (!(okU64 m)) ((!(okU64 m)) == false) rfl rfl rfl 0 (need' := [(165, .val (IsB (!(okU64 m)))), (15, .val (Lit (.int .u64 (if okU64 m then m else 0))))]) rfl rfl (fun a w B e h => ⟨h.1, h.2.1, trivial⟩) (fun e => ok_move (.tmp 1 rfl))) ?_
          refine .cons (.sym 24 false (!(okU64 m)) ((!(okU64 m)) == false) rfl rfl rfl 0 (need' := [(165, .val (IsB (!(okU64 m)))), (6, .val (Lit (.int .i64 m)))]) rfl rfl (fun a w B e h => ⟨h.1, h.2.1, trivial⟩) (fun e => ok_move (.tmp 1 rfl))) ?_
          refine .cons (.sym 24 false (!(okU64 m)) ((!(okU64 m)) == false) rfl rfl rfl 0 (need' := [(165, .val (IsB (!(okU64 m)))), (167, .val (Lit (.int .i64 m)))]) rfl rfl (fun a w B e h => ⟨h.1, h.2.1.1 (e), trivial⟩) (fun e => ok_conv Try.underlying2 Try.underlying42 (r := (IntKind.u64.wrap m)) (.tmp 1 rfl) (rfl))) ?_
          refine .cons (.sym 24 false (!(okU64 m)) ((!(okU64 m)) == false) rfl rfl rfl 0 (need' := [(165, .val (IsB (!(okU64 m)))), (166, .val (Lit (.int .u64 (if okU64 m then m else 0)))), (168, .val (Lit (.int .u64 (IntKind.u64.wrap m))))]) rfl rfl (fun a w B e h => ⟨h.1, h.2.1.1 (e), h.2.2.1.1 (e), trivial⟩) (fun e => ok_cmp (.tmp 1 rfl) (.tmp 2 rfl) rfl)) ?_
          refine .cons (.wanted 21 true rfl rfl rfl 0 rfl (OpOk.eqB (b := (!(okU64 m)) || (decide ((if okU64 m then m else 0) = IntKind.u64.wrap m))) (ok_pickS (!(okU64 m)) (.tmp 1 rfl) (fun e => Opd.eqB (.lit) (by rw [e]; rfl)) (fun e => Opd.eqB (Opd.grd (.tmp 2 rfl) (by first | (rw [e]; rfl) | (simp only [e]; rfl) | (simp [*] at *; done))) (by rw [e]; rfl))) (order_uw m hm))) ?_
          refine .cons (.plain rfl (ok_pickT (.tmp 0 rfl) (.tmp 1 rfl))) ?_
          refine .cons (.plain rfl (ok_move (.tmp 0 rfl))) ?_
          refine .cons (.wanted 31 true rfl rfl rfl 0 rfl (ok_call (con_lives3) (.nil))) ?_
          refine .cons (.plain rfl (ok_pickT (.tmp 0 rfl) (.tmp 1 rfl))) ?_
          refine .cons (.plain rfl (ok_assign (.tmp 0 rfl))) ?_
          exact .nil
        clear H27 a27 w27 B27
        intro a28 w28 B28 H28
        refine ops_done ?_
        refine then_normal ?_
        refine wp_ret ?_
        exact f_ret H28 rfl 0 rfl (fun _ _ _ h => h)
      · intro hc24
        replace hc24 := of_decide_eq_false hc24
        refine wp_skip ?_
        refine then_normal ?_
        refine wp_seq ?_
        refine flow_region (dsts := [some 130, some 131, some 132, some 129, some 133, some 134, some 13, some 14]) (refs := [[.pre 2], [.res 0], [.res 1], [.res 2], [.res 3], [.res 3], [.res 4], [.res 5]]) (outs := [.res 6, .res 7, .pre 1, .pre 2, .pre 3, .pre 4]) (als := [false, false, false, false, false, false, false, false]) (posts := [.val (Lit (.int .i64 m)), .val (IsI m), .val (Tup [Lit (.int .i64 m), IsB true]), .val (Tup [Lit (.int .i64 m), IsB true]), .val (Lit (.int .i64 m)), .val (IsB true), .val (Lit (.int .i64 m)), .val (IsB true)])
          (out := [(13, .val (Lit (.int .i64 m))), (14, .val (IsB true)), (12, .val (Lit (.int .i64 0))), (6, .val (Lit (.int .i64 m))), (7, .val (Lit (.int .i64 n))), (2, .val (IsB false))]) (nb := []) H23 8 [] rfl (by kernel_rfl) rfl rfl ?_ ?_
        · refine .cons (.plain rfl (ok_move (.tmp 0 rfl))) ?_
          refine .cons (.plain rfl (ok_call (con_from m hm) (.cons (.tmp 0 rfl) (.nil)))) ?_
          refine .cons (.plain rfl (ok_call ((con_int64 m).weak (fun v w B h => by rw [i64_ok hm, if_pos rfl] at h; exact h)) (.cons (.weak (.tmp 0 rfl) weakIN) (.nil)))) ?_
          refine .cons (.plain rfl (ok_move (.tmp 0 rfl))) ?_
          refine .cons (.plain rfl (ok_extract 0 (.tmp 0 rfl) rfl)) ?_
          refine .cons (.plain rfl (ok_extract 1 (.tmp 0 rfl) rfl)) ?_
          refine .cons (.plain rfl (ok_assign (.tmp 0 rfl))) ?_
          refine .cons (.plain rfl (ok_assign (.tmp 0 rfl))) ?_
          exact .nil
        clear H23 a23 w23 B23
        intro a29 w29 B29 H29
        refine ops_done ?_
        refine then_normal ?_
        refine wp_seq ?_
        refine flow_region (dsts := [some 136, some 137, some 138, some 135, some 139, some 140, some 15, some 16]) (refs := [[.pre 3], [.res 0], [.res 1], [.res 2], [.res 3], [.res 3], [.res 4], [.res 5]]) (outs := [.res 6, .res 7, .pre 0, .pre 1, .pre 2, .pre 3, .pre 4, .pre 5]) (als := [false, false, false, false, false, false, false, false]) (posts := [.val (Lit (.int .i64 m)), .val (IsI m), .val (Tup [Lit (.int .u64 (if okU64 m then m else 0)), IsB (okU64 m)]), .val (Tup [Lit (.int .u64 (if okU64 m then m else 0)), IsB (okU64 m)]), .val (Lit (.int .u64 (if okU64 m then m else 0))), .val (IsB (okU64 m)), .val (Lit (.int .u64 (if okU64 m then m else 0))), .val (IsB (okU64 m))])
          (out := [(15, .val (Lit (.int .u64 (if okU64 m then m else 0)))), (16, .val (IsB (okU64 m))), (13, .val (Lit (.int .i64 m))), (14, .val (IsB true)), (12, .val (Lit (.int .i64 0))), (6, .val (Lit (.int .i64 m))), (7, .val (Lit (.int .i64 n))), (2, .val (IsB false))]) (nb := []) H29 8 [] rfl (by kernel_rfl) rfl rfl ?_ ?_
        · refine .cons (.plain rfl (ok_move (.tmp 0 rfl))) ?_
          refine .cons (.plain rfl (ok_call (con_from m hm) (.cons (.tmp 0 rfl) (.nil)))) ?_
          refine .cons (.plain rfl (ok_call (con_uint64 m) (.cons (.weak (.tmp 0 rfl) weakIN) (.nil)))) ?_
          refine .cons (.plain rfl (ok_move (.tmp 0 rfl))) ?_
          refine .cons (.plain rfl (ok_extract 0 (.tmp 0 rfl) rfl)) ?_
          refine .cons (.plain rfl (ok_extract 1 (.tmp 0 rfl) rfl)) ?_
          refine .cons (.plain rfl (ok_assign (.tmp 0 rfl))) ?_
          refine .cons (.plain rfl (ok_assign (.tmp 0 rfl))) ?_
          exact .nil
        clear H29 a29 w29 B29
        intro a30 w30 B30 H30
        refine ops_done ?_
        refine then_normal ?_
        refine wp_seq ?_
        refine flow_region (dsts := [some 141, some 142, some 143, some 144, some 145, some 146, some 147, some 148, some 149, some 150, some 151, some 152, some 153, some 154, some 155, some 156, some 157, some 158, some 159, some 160, some 161, some 162, some 163, some 164, some 165, some 166, some 167, some 168, some 169, some 170, some 171, some 172, some 173, some 174, some 2]) (refs := [[.pre 5], [.res 0], [.pre 6], [.res 2], [.res 1, .res 3], [.pre 4], [.res 4, .res 5], [.res 6], [.res 7, .pre 3], [.res 7, .res 8], [.res 9], [.res 10, .pre 2], [.res 10, .pre 5], [.res 10, .res 11, .res 12], [.res 10, .res 13], [.res 14], [.res 15, .pre 1], [.res 15, .pre 5], [.res 15, .res 17], [.res 15, .res 16, .res 18], [.res 15, .res 19], [.res 20], [.res 21, .pre 1], [.res 21, .res 22], [.res 21, .res 23], [.res 24, .pre 0], [.res 24, .pre 5], [.res 24, .res 26], [.res 24, .res 25, .res 27], [.res 21, .res 24, .res 28], [.res 21, .res 29], [.res 30], [.res 31], [.res 31, .res 32], [.res 33]]) (outs := [.res 34]) (als := [false, false, false, false, false, false, false, false, false, false, false, false, false, false, false, false, false, false, false, false, false, false, false, false, false, false, false, false, false, false, false, false, false, false, false]) (posts := [.val (Lit (.int .i64 m)), .val (IsI m), .val (Lit (.int .i64 n)), .val (IsI n), .val (Lit (.int .i64 (cmpI m n))), .val (Lit (.int .i64 0)), .val (IsB true), .val (IsB true), .val (IsB true), .val (IsB true), .val (IsB true), .val (Lit (.int .i64 m)), .val (Lit (.int .i64 m)), .val (IsB true), .val (IsB true), .val (IsB true), .val (IsB (okU64 m)), .val (Lit (.int .i64 m)), .val (IsB (decide (0 ≤ m))), .val (IsB true), .val (IsB true), .val (IsB true), .val (IsB (okU64 m)), .val (IsB (!(okU64 m))), .val (IsB (!(okU64 m))), .val (Grd ((!(okU64 m)) == false) (Lit (.int .u64 (if okU64 m then m else 0)))), .val (Grd ((!(okU64 m)) == false) (Lit (.int .i64 m))), .val (Grd ((!(okU64 m)) == false) (Lit (.int .u64 (IntKind.u64.wrap m)))), .val (Grd ((!(okU64 m)) == false) (IsB (decide ((if okU64 m then m else 0) = IntKind.u64.wrap m)))), .val (IsB true), .val (IsB true), .val (IsB true), .val (IsB true), .val (IsB true), .val (IsB true)])
          (out := [(2, .val (IsB true))]) (nb := []) H30 35 [] rfl (by kernel_rfl) rfl rfl ?_ ?_
        · refine .cons (.plain rfl (ok_move (.tmp 0 rfl))) ?_
          refine .cons (.plain rfl (ok_call (con_from m hm) (.cons (.tmp 0 rfl) (.nil)))) ?_
          refine .cons (.plain rfl (ok_move (.tmp 0 rfl))) ?_
          refine .cons (.plain rfl (ok_call (con_from n hn) (.cons (.tmp 0 rfl) (.nil)))) ?_
          refine .cons (.plain rfl (ok_call (con_cmp m n) (.cons (.weak (.tmp 0 rfl) weakIN) (.cons (.weak (.tmp 1 rfl) weakIN) (.nil))))) ?_
          refine .cons (.plain rfl (ok_move (.tmp 0 rfl))) ?_
          refine .cons (.plain rfl (ok_cmp (b := true) (.tmp 0 rfl) (.tmp 1 rfl) ((decide_eq_true (by have := cmp_spec m n; omega)).symm))) ?_
          refine .cons (.plain rfl (ok_move (.tmp 0 rfl))) ?_
          refine .cons (.wanted 7 true rfl rfl rfl 0 rfl (ok_move (.tmp 1 rfl))) ?_
          refine .cons (.plain rfl (ok_pickT (.tmp 0 rfl) (.tmp 1 rfl))) ?_
          refine .cons (.plain rfl (ok_move (.tmp 0 rfl))) ?_
          refine .cons (.wanted 10 true rfl rfl rfl 0 rfl (ok_move (.tmp 1 rfl))) ?_
          refine .cons (.wanted 10 true rfl rfl rfl 0 rfl (ok_move (.tmp 1 rfl))) ?_
          refine .cons (.wanted 10 true rfl rfl rfl 0 rfl (ok_cmp (b := true) (.tmp 1 rfl) (.tmp 2 rfl) ((decide_eq_true (rfl)).symm))) ?_
          refine .cons (.plain rfl (ok_pickT (.tmp 0 rfl) (.tmp 1 rfl))) ?_
          refine .cons (.plain rfl (ok_move (.tmp 0 rfl))) ?_
          refine .cons (.wanted 15 true rfl rfl rfl 0 rfl (ok_move (.tmp 1 rfl))) ?_
          refine .cons (.wanted 15 true rfl rfl rfl 0 rfl (ok_move (.tmp 1 rfl))) ?_
          refine .cons (.wanted 15 true rfl rfl rfl 0 rfl (ok_cmp (.tmp 1 rfl) (.lit) rfl)) ?_
          refine .cons (.wanted 15 true rfl rfl rfl 0 rfl (OpOk.eqB (b := (okU64 m) == (decide (0 ≤ m))) (ok_eqB Try.underlying4 (.tmp 1 rfl) (.tmp 2 rfl)) ((order_u64 m).resolve_right (by omega)))) ?_
          refine .cons (.plain rfl (ok_pickT (.tmp 0 rfl) (.tmp 1 rfl))) ?_
          refine .cons (.plain rfl (ok_move (.tmp 0 rfl))) ?_
          refine .cons (.wanted 21 true rfl rfl rfl 0 rfl (ok_move (.tmp 1 rfl))) ?_
          refine .cons (.wanted 21 true rfl rfl rfl 0 rfl (ok_not (b := okU64 m) (.tmp 1 rfl))) ?_
          refine .cons (.wanted 21 true rfl rfl rfl 0 rfl (ok_move (.tmp 1 rfl))) ?_
          refine .cons (.sym 24 false (!(okU64 m)) ((!(okU64 m)) == false) rfl rfl rfl 0 (need' := [(165, .val (IsB (!(okU64 m)))), (15, .val (Lit (.int .u64 (if okU64 m then m else 0))))]) rfl rfl (fun a w B e h => ⟨h.1, h.2.1, trivial⟩) (fun e => ok_move (.tmp 1 rfl))) ?_
          refine .cons (.sym 24 false (!(okU64 m)) ((!(okU64 m)) == false) rfl rfl rfl 0 (need' := [(165, .val (IsB (!(okU64 m)))), (6, .val (Lit (.int .i64 m)))]) rfl rfl (fun a w B e h => ⟨h.1, h.2.1, trivial⟩) (fun e => ok_move (.tmp 1 rfl))) ?_
          refine .cons (.sym 24 false (!(okU64 m)) ((!(okU64 m)) == false) rfl rfl rfl 0 (need' := [(165, .val (IsB (!(okU64 m)))), (167, .val (Lit (.int .i64 m)))]) rfl rfl (fun a w B e h => ⟨h.1, h.2.1.1 (e), trivial⟩) (fun e => ok_conv Try.underlying2 Try.underlying42 (r := (IntKind.u64.wrap m)) (.tmp 1 rfl) (rfl))) ?_
          refine .cons (.sym 24 false (!(okU64 m)) ((!(okU64 m)) == false) rfl rfl rfl 0 (need' := [(165, .val (IsB (!(okU64 m)))), (166, .val (Lit (.int .u64 (if okU64 m then m else 0)))), (168, .val (Lit (.int .u64 (IntKind.u64.wrap m))))]) rfl rfl (fun a w B e h => ⟨h.1, h.2.1.1 (e), h.2.2.1.1 (e), trivial⟩) (fun e => ok_cmp (.tmp 1 rfl) (.tmp 2 rfl) rfl)) ?_
          refine .cons (.wanted 21 true rfl rfl rfl 0 rfl (OpOk.eqB (b := (!(okU64 m)) || (decide ((if okU64 m then m else 0) = IntKind.u64.wrap m))) (ok_pickS (!(okU64 m)) (.tmp 1 rfl) (fun e => Opd.eqB (.lit) (by rw [e]; rfl)) (fun e => Opd.eqB (Opd.grd (.tmp 2 rfl) (by first | (rw [e]; rfl) | (simp only [e]; rfl) | (simp [*] at *; done))) (by rw [e]; rfl))) (order_uw m hm))) ?_
          refine .cons (.plain rfl (ok_pickT (.tmp 0 rfl) (.tmp 1 rfl))) ?_
          refine .cons (.plain rfl (ok_move (.tmp 0 rfl))) ?_
          refine .cons (.wanted 31 true rfl rfl rfl 0 rfl (ok_call (con_lives3) (.nil))) ?_
          refine .cons (.plain rfl (ok_pickT (.tmp 0 rfl) (.tmp 1 rfl))) ?_
          refine .cons (.plain rfl (ok_assign (.tmp 0 rfl))) ?_
          exact .nil
        clear H30 a30 w30 B30
        intro a31 w31 B31 H31
        refine ops_done ?_
        refine then_normal ?_
        refine wp_ret ?_
        exact f_ret H31 rfl 0 rfl (fun _ _ _ h => h)

theorem walk_WholeOrder (w : World) (ngx : Bool) (adx : Option Addr) (nx cx : Nat) (xx : List Int) (fx : Arg w adx nx cx xx) (yx : nx * 4 ≤ 140737488351232) (ngy : Bool) (ady : Option Addr) (ny cy : Nat) (xy : List Int) (fy : Arg w ady ny cy xy) (yy : ny * 4 ≤ 140737488351232) (ngz : Bool) (adz : Option Addr) (nz cz : Nat) (xz : List Int) (fz : Arg w adz nz cz xz) (yz : nz * 4 ≤ 140737488351232) (m : Int) (hm : -9223372036854775808 ≤ m ∧ m < 9223372036854775808) (n : Int) (hn : -9223372036854775808 ≤ n ∧ n < 9223372036854775808) :
    Calls Try.prog 13 #[.agg #[.bool ngx, .slice adx nx cx, .bool ngy, .slice ady ny cy, .bool ngz, .slice adz nz cz, .int .i64 m, .int .i64 n]] w (fun e w' => e = .returned (.bool true) ∧ Below w.heap.size w w') := by
  refine ((con_WholeOrder ngx ngy ngz nx ny nz xx xy xz yx yy yz m hm n hn).calls [.agg #[.bool ngx, .slice adx nx cx, .bool ngy, .slice ady ny cy, .bool ngz, .slice adz nz cz, .int .i64 m, .int .i64 n]] w (fun _ => False) (fun _ h => h.elim) ⟨⟨adx, cx, ady, cy, adz, cz, rfl, fx, fy, fz⟩, trivial⟩).mono ?_
  rintro e w' ⟨v, rfl, h, hb⟩
  obtain rfl := h
  exact ⟨rfl, hb⟩
end Go.Proofs.Ytgnophflogmmaaa
