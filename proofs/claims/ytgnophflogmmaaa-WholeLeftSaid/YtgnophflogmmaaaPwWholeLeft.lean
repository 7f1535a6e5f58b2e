/- The law WholeLeft: its walk. -/
import Derived.Test.YtgnophflogmmaaaPk23
import Derived.Test.YtgnophflogmmaaaPk25
set_option linter.unusedVariables false
set_option linter.unusedSimpArgs false
/- The law WholeLeft: its walk by what the slots hold. (Printed by flow03.py.) -/
namespace Go.Proofs.Ytgnophflogmmaaa
open Go Go.RowKit

theorem cmpI_zero {x y : Int} (h : cmpI x y = 0) : x = y := by unfold cmpI at h; split at h <;> (try split at h) <;> omega
theorem cmpI_ne {x y : Int} (h : ¬ cmpI x y = 0) : x ≠ y := fun e => h (cmpI_eq e)
theorem left_num (X Y : Int) (h : Y ≠ 0) : X.tdiv Y * Y + tremI X Y = X := by
  unfold tremI
  rw [if_neg h, Int.mul_comm]
  exact Int.mul_tdiv_add_tmod X Y
theorem left_abs (X Y : Int) (h : Y ≠ 0) : (tremI X Y).natAbs < Y.natAbs := by
  unfold tremI
  rw [if_neg h, Int.natAbs_tmod]
  exact Nat.mod_lt _ (by omega)
theorem left_sign (X Y : Int) (h : Y ≠ 0) : (decide (cmpI (tremI X Y) 0 = 0) || decide (cmpI (tremI X Y) 0 = cmpI X 0)) = true := by
  have key : tremI X Y = 0 ∨ (0 < tremI X Y ∧ 0 < X) ∨ (tremI X Y < 0 ∧ X < 0) := by
    unfold tremI
    rw [if_neg h]
    rcases Int.lt_trichotomy (X.tmod Y) 0 with h1 | h1 | h1
    · refine .inr (.inr ⟨h1, ?_⟩)
      rcases Int.lt_or_le X 0 with h2 | h2
      · exact h2
      · have := Int.tmod_nonneg Y h2; omega
    · exact .inl h1
    · refine .inr (.inl ⟨h1, ?_⟩)
      rcases Int.lt_or_le 0 X with h2 | h2
      · exact h2
      · have := Int.tmod_nonneg Y (show 0 ≤ -X by omega)
        rw [Int.neg_tmod] at this; omega
  rw [Bool.or_eq_true, decide_eq_true_eq, decide_eq_true_eq]
  rcases key with h1 | ⟨h1, h2⟩ | ⟨h1, h2⟩
  · exact .inl (cmpI_eq h1)
  · exact .inr (by rw [cmpI_gt h1, cmpI_gt h2])
  · exact .inr (by rw [cmpI_lt h1, cmpI_lt h2])
theorem cmpI_neg {x y : Int} (h : x < y) : cmpI x y < 0 := by rw [cmpI_lt h]; decide

set_option maxRecDepth 20000 in
set_option maxHeartbeats 4000000 in
theorem con_WholeLeft (ngx : Bool) (nx : Nat) (xx : List Int) (yx : nx * 4 ≤ 140737488351232) (ngy : Bool) (ny : Nat) (xy : List Int) (yy : ny * 4 ≤ 140737488351232) : Con Try.prog 7 [IsArg ngx nx xx, IsArg ngy ny xy] (IsB true) := by
  refine f_enter (N := 97) Try.ntmps7 (fun _ _ => by go_simp) Try.func7 rfl (by simp) ?_
  intro a0 w0 B0 H0
  replace H0 : St 97 w0 B0 a0 w0 B0 [(0, .val (IsArg ngx nx xx)), (1, .val (IsArg ngy ny xy))] [] := H0
  obtain ⟨X, hX⟩ : ∃ X, sI ngx (val 4294967296 xx) = X := ⟨_, rfl⟩
  have fX : FitK nx X := PArg.fit hX (H0.fc.get 0 rfl)
  obtain ⟨Y, hY⟩ : ∃ X, sI ngy (val 4294967296 xy) = X := ⟨_, rfl⟩
  have fY : FitK ny Y := PArg.fit hY (H0.fc.get 1 rfl)
  refine wp_seq ?_
  refine flow_region (dsts := [some 2, some 3, some 4]) (refs := [[.pre 0], [.pre 1], []]) (outs := [.res 0, .res 1, .res 2]) (als := [true, true, false]) (posts := [.box 25 2 (IsArg ngx nx xx), .box 25 2 (IsArg ngy ny xy), .val (IsB false)])
    (out := [(2, .box 25 2 (IsArg ngx nx xx)), (3, .box 25 2 (IsArg ngy ny xy)), (4, .val (IsB false))]) (nb := [2, 3]) H0 3 [] rfl (by kernel_rfl) rfl rfl ?_ ?_
  · refine .cons (.plain rfl (ok_box (.tmp 0 rfl) shape_Arg.two)) ?_
    refine .cons (.plain rfl (ok_box (.tmp 0 rfl) shape_Arg.two)) ?_
    refine .cons (.plain rfl (ok_assign (.lit))) ?_
    exact .nil
  clear H0
  intro a1 w1 B1 H1
  simp only [List.cons_append, List.nil_append] at H1
  refine ops_done ?_
  refine then_normal ?_
  refine wp_seq ?_
  refine wp_seq ?_
  refine flow_region (dsts := [some 11, some 12, some 13, some 14]) (refs := [[.pre 0], [.pre 1], [.res 0, .res 1], [.res 2]]) (outs := [.res 3, .pre 0, .pre 1, .pre 2]) (als := [false, false, false, false]) (posts := [.val (IsArg ngx nx xx), .val (IsArg ngy ny xy), .val (IsInts [nx, ny]), .val (IsIf True (∀ j : Nat, [nx, ny][j]?.getD 0 ≤ 1048576))])
    (out := [(14, .val (IsIf True (∀ j : Nat, [nx, ny][j]?.getD 0 ≤ 1048576))), (2, .box 25 2 (IsArg ngx nx xx)), (3, .box 25 2 (IsArg ngy ny xy)), (4, .val (IsB false))]) (nb := []) H1 4 [] rfl (by kernel_rfl) rfl rfl ?_ ?_
  · refine .cons (.plain rfl (ok_load tyI (.tmp 0 rfl))) ?_
    refine .cons (.plain rfl (ok_load tyI (.tmp 0 rfl))) ?_
    refine .cons (.plain rfl (ok_ints2 (.tmp 0 rfl) (.tmp 1 rfl))) ?_
    refine .cons (.plain rfl (ok_call (con_beyond [nx, ny] (by simp) (fun j => by rcases j with _ | _ | _ <;> simp <;> omega)) (.cons (.tmp 0 rfl) (.nil)))) ?_
    exact .nil
  clear H1 a1 w1 B1
  intro a2 w2 B2 H2
  refine ops_done ?_
  refine then_normal ?_
  refine f_condI H2 (.tmp 0 rfl) ?_ ?_
  · intro hc3
    refine wp_seq ?_
    refine flow_region (dsts := [some 4]) (refs := [[]]) (outs := [.res 0, .pre 1, .pre 2]) (als := [false]) (posts := [.val (IsB true)])
      (out := [(4, .val (IsB true)), (2, .box 25 2 (IsArg ngx nx xx)), (3, .box 25 2 (IsArg ngy ny xy))]) (nb := []) H2 1 [] rfl (by kernel_rfl) rfl rfl ?_ ?_
    · refine .cons (.plain rfl (ok_assign (.lit))) ?_
      exact .nil
    clear H2 a2 w2 B2
    intro a4 w4 B4 H4
    refine ops_done ?_
    refine then_normal ?_
    refine wp_ret ?_
    refine then_ret ?_
    exact f_ret H4 rfl 0 rfl (fun _ _ _ h => h)
  · intro hc3
    have lx : nx ≤ 1048576 := hc3 0
    have ly : ny ≤ 1048576 := hc3 1
    clear hc3
    refine wp_skip ?_
    refine then_normal ?_
    refine wp_seq ?_
    refine flow_region (dsts := [some 15, some 5]) (refs := [[], []]) (outs := [.res 0, .res 1, .pre 1, .pre 2, .pre 3]) (als := [false, true]) (posts := [.val (IsI 0), .box 25 2 (Zero2)])
      (out := [(15, .val (IsI 0)), (5, .box 25 2 (Zero2)), (2, .box 25 2 (IsArg ngx nx xx)), (3, .box 25 2 (IsArg ngy ny xy)), (4, .val (IsB false))]) (nb := [5]) H2 2 [2] rfl (by kernel_rfl) rfl rfl ?_ ?_
    · refine .cons (.plain rfl (ok_call (con_from 0 (by omega)) (.cons (.lit) (.nil)))) ?_
      refine .cons (.plain rfl (ok_alloc (D := Zero2) zeroI rfl (fun _ _ => rfl))) ?_
      exact .nil
    clear H2 a2 w2 B2
    intro a5 w5 B5 H5
    simp only [List.cons_append, List.nil_append] at H5
    refine ops_one ?_
    refine store_op (l' := [(15, .val (IsI 0)), (5, .box 25 2 (IsI 0)), (2, .box 25 2 (IsArg ngx nx xx)), (3, .box 25 2 (IsArg ngy ny xy)), (4, .val (IsB false))]) 1 H5 rfl tyI rfl (.tmp 0 rfl) shape_Z shape_I rfl rfl ?_
    clear H5 w5
    intro w6 H6
    refine ops_done ?_
    refine then_normal ?_
    refine wp_seq ?_
    refine flow_region (dsts := [some 17, some 18, some 19, some 16, some 20, some 21, some 22, some 6, some 7]) (refs := [[.pre 2], [.pre 3], [.res 0, .res 1], [.res 2], [.res 3], [.res 3], [.res 3], [], []]) (outs := [.res 4, .res 5, .res 6, .res 7, .res 8, .pre 1, .pre 2, .pre 3, .pre 4]) (als := [false, false, false, false, false, false, false, true, true]) (posts := [.val (IsArg ngx nx xx), .val (IsArg ngy ny xy), .val (Tup [IsI (X.tdiv Y), IsI (tremI X Y), IsB (decide (Y ≠ 0))]), .val (Tup [IsI (X.tdiv Y), IsI (tremI X Y), IsB (decide (Y ≠ 0))]), .val (IsI (X.tdiv Y)), .val (IsI (tremI X Y)), .val (IsB (decide (Y ≠ 0))), .box 25 2 (Zero2), .box 25 2 (Zero2)])
      (out := [(20, .val (IsI (X.tdiv Y))), (21, .val (IsI (tremI X Y))), (22, .val (IsB (decide (Y ≠ 0)))), (6, .box 25 2 (Zero2)), (7, .box 25 2 (Zero2)), (5, .box 25 2 (IsI 0)), (2, .box 25 2 (IsArg ngx nx xx)), (3, .box 25 2 (IsArg ngy ny xy)), (4, .val (IsB false))]) (nb := [6, 7]) H6 9 [9, 10, 11] rfl (by kernel_rfl) rfl rfl ?_ ?_
    · refine .cons (.plain rfl (ok_load tyI (.tmp 0 rfl))) ?_
      refine .cons (.plain rfl (ok_load tyI (.tmp 0 rfl))) ?_
      refine .cons (.plain rfl (ok_call (con_quo X Y) (.cons (.weak (.tmp 0 rfl) (weakAN (by omega) hX)) (.cons (.weak (.tmp 1 rfl) (weakAN (by omega) hY)) (.nil))))) ?_
      refine .cons (.plain rfl (ok_move (.tmp 0 rfl))) ?_
      refine .cons (.plain rfl (ok_extract 0 (.tmp 0 rfl) rfl)) ?_
      refine .cons (.plain rfl (ok_extract 1 (.tmp 0 rfl) rfl)) ?_
      refine .cons (.plain rfl (ok_extract 2 (.tmp 0 rfl) rfl)) ?_
      refine .cons (.plain rfl (ok_alloc (D := Zero2) zeroI rfl (fun _ _ => rfl))) ?_
      refine .cons (.plain rfl (ok_alloc (D := Zero2) zeroI rfl (fun _ _ => rfl))) ?_
      exact .nil
    clear H6 a5 w6 B5
    intro a7 w7 B7 H7
    simp only [List.cons_append, List.nil_append] at H7
    refine ops_one ?_
    refine store_op (l' := [(20, .val (IsI (X.tdiv Y))), (21, .val (IsI (tremI X Y))), (22, .val (IsB (decide (Y ≠ 0)))), (6, .box 25 2 (IsI (X.tdiv Y))), (7, .box 25 2 (Zero2)), (5, .box 25 2 (IsI 0)), (2, .box 25 2 (IsArg ngx nx xx)), (3, .box 25 2 (IsArg ngy ny xy)), (4, .val (IsB false))]) 3 H7 rfl tyI rfl (.tmp 0 rfl) shape_Z shape_I rfl rfl ?_
    clear H7 w7
    intro w8 H8
    refine ops_one ?_
    refine store_op (l' := [(20, .val (IsI (X.tdiv Y))), (21, .val (IsI (tremI X Y))), (22, .val (IsB (decide (Y ≠ 0)))), (6, .box 25 2 (IsI (X.tdiv Y))), (7, .box 25 2 (IsI (tremI X Y))), (5, .box 25 2 (IsI 0)), (2, .box 25 2 (IsArg ngx nx xx)), (3, .box 25 2 (IsArg ngy ny xy)), (4, .val (IsB false))]) 4 H8 rfl tyI rfl (.tmp 1 rfl) shape_Z shape_I rfl rfl ?_
    clear H8 w8
    intro w9 H9
    refine ops_one ?_
    refine tail_op (D := .val (IsB (decide (Y ≠ 0)))) (l' := [(8, .val (IsB (decide (Y ≠ 0)))), (20, .val (IsI (X.tdiv Y))), (21, .val (IsI (tremI X Y))), (22, .val (IsB (decide (Y ≠ 0)))), (6, .box 25 2 (IsI (X.tdiv Y))), (7, .box 25 2 (IsI (tremI X Y))), (5, .box 25 2 (IsI 0)), (2, .box 25 2 (IsArg ngx nx xx)), (3, .box 25 2 (IsArg ngy ny xy)), (4, .val (IsB false))]) H9 rfl rfl rfl (.plain rfl (ok_assign (.tmp 2 rfl))) rfl rfl ?_
    clear H9 a7 w9 B7
    intro a10 w10 B10 H10
    refine ops_done ?_
    refine then_normal ?_
    refine wp_seq ?_
    refine wp_seq ?_
    refine flow_region (dsts := [some 23, some 24, some 25, some 26]) (refs := [[.pre 8], [.pre 6], [.res 0, .res 1], [.res 2]]) (outs := [.res 3, .pre 0, .pre 4, .pre 5, .pre 6, .pre 7, .pre 8, .pre 9]) (als := [false, false, false, false]) (posts := [.val (IsArg ngy ny xy), .val (IsI 0), .val (Lit (.int .i64 (cmpI Y 0))), .val (IsB (decide (cmpI Y 0 = 0)))])
      (out := [(26, .val (IsB (decide (cmpI Y 0 = 0)))), (8, .val (IsB (decide (Y ≠ 0)))), (6, .box 25 2 (IsI (X.tdiv Y))), (7, .box 25 2 (IsI (tremI X Y))), (5, .box 25 2 (IsI 0)), (2, .box 25 2 (IsArg ngx nx xx)), (3, .box 25 2 (IsArg ngy ny xy)), (4, .val (IsB false))]) (nb := []) H10 4 [] rfl (by kernel_rfl) rfl rfl ?_ ?_
    · refine .cons (.plain rfl (ok_load tyI (.tmp 0 rfl))) ?_
      refine .cons (.plain rfl (ok_load tyI (.tmp 0 rfl))) ?_
      refine .cons (.plain rfl (ok_call (con_cmp Y 0) (.cons (.weak (.tmp 0 rfl) (weakAN (by omega) hY)) (.cons (.weak (.tmp 1 rfl) weakIN) (.nil))))) ?_
      refine .cons (.plain rfl (ok_cmp (.tmp 0 rfl) (.lit) rfl)) ?_
      exact .nil
    clear H10 a10 w10 B10
    intro a11 w11 B11 H11
    refine ops_done ?_
    refine then_normal ?_
    refine f_cond H11 (.tmp 0 rfl) ?_ ?_
    · intro hc12
      replace hc12 := of_decide_eq_true hc12
      have hy0 : Y = 0 := cmpI_zero hc12
      have eb13 : (decide (Y ≠ 0)) = false := decide_eq_false (fun h => h hy0)
      rw [eb13] at H11
      refine wp_seq ?_
      refine flow_region (dsts := [some 27, some 28, some 29, some 30, some 31, some 32, some 33, some 34, some 35, some 36, some 37, some 38, some 39, some 40, some 41, some 4]) (refs := [[.pre 1], [.res 0], [.res 1], [.res 2, .pre 2], [.res 2], [.res 2, .res 3, .res 4], [.res 2, .res 5], [.res 6], [.res 7, .pre 3], [.res 7], [.res 7, .res 8, .res 9], [.res 7, .res 10], [.res 11], [.res 12], [.res 12, .res 13], [.res 14]]) (outs := [.res 15, .pre 1, .pre 2, .pre 3, .pre 4, .pre 5, .pre 6]) (als := [false, false, false, false, false, false, false, false, false, false, false, false, false, false, false, false]) (posts := [.val (IsB false), .val (IsB true), .val (IsB true), .val (IsI (X.tdiv Y)), .val (Zero2), .val (IsB true), .val (IsB true), .val (IsB true), .val (IsI (tremI X Y)), .val (Zero2), .val (IsB true), .val (IsB true), .val (IsB true), .val (IsB true), .val (IsB true), .val (IsB true)])
        (out := [(4, .val (IsB true)), (8, .val (IsB false)), (6, .box 25 2 (IsI (X.tdiv Y))), (7, .box 25 2 (IsI (tremI X Y))), (5, .box 25 2 (IsI 0)), (2, .box 25 2 (IsArg ngx nx xx)), (3, .box 25 2 (IsArg ngy ny xy))]) (nb := []) H11 16 [] rfl (by kernel_rfl) rfl rfl ?_ ?_
      · refine .cons (.plain rfl (ok_move (.tmp 0 rfl))) ?_
        refine .cons (.plain rfl (ok_not (b := false) (.tmp 0 rfl))) ?_
        refine .cons (.plain rfl (ok_move (.tmp 0 rfl))) ?_
        refine .cons (.wanted 2 true rfl rfl rfl 0 rfl (ok_load tyI (.tmp 1 rfl))) ?_
        refine .cons (.wanted 2 true rfl rfl rfl 0 rfl (ok_build0)) ?_
        refine .cons (.wanted 2 true rfl rfl rfl 0 rfl (ok_call (con_sameT (X := (X.tdiv Y)) (Y := 0) (by rw [hy0]; exact Int.tdiv_zero _)) (.cons (.tmp 1 rfl) (.cons (.weak (.tmp 2 rfl) weakZI) (.nil))))) ?_
        refine .cons (.plain rfl (ok_pickT (.tmp 0 rfl) (.tmp 1 rfl))) ?_
        refine .cons (.plain rfl (ok_move (.tmp 0 rfl))) ?_
        refine .cons (.wanted 7 true rfl rfl rfl 0 rfl (ok_load tyI (.tmp 1 rfl))) ?_
        refine .cons (.wanted 7 true rfl rfl rfl 0 rfl (ok_build0)) ?_
        refine .cons (.wanted 7 true rfl rfl rfl 0 rfl (ok_call (con_sameT (X := (tremI X Y)) (Y := 0) (by unfold tremI; rw [if_pos hy0])) (.cons (.tmp 1 rfl) (.cons (.weak (.tmp 2 rfl) weakZI) (.nil))))) ?_
        refine .cons (.plain rfl (ok_pickT (.tmp 0 rfl) (.tmp 1 rfl))) ?_
        refine .cons (.plain rfl (ok_move (.tmp 0 rfl))) ?_
        refine .cons (.wanted 12 true rfl rfl rfl 0 rfl (ok_call (con_lives3) (.nil))) ?_
        refine .cons (.plain rfl (ok_pickT (.tmp 0 rfl) (.tmp 1 rfl))) ?_
        refine .cons (.plain rfl (ok_assign (.tmp 0 rfl))) ?_
        exact .nil
      clear H11 a11 w11 B11
      intro a14 w14 B14 H14
      refine ops_done ?_
      refine then_normal ?_
      refine wp_ret ?_
      refine then_ret ?_
      exact f_ret H14 rfl 0 rfl (fun _ _ _ h => h)
    · intro hc12
      replace hc12 := of_decide_eq_false hc12
      have hy0 : Y ≠ 0 := cmpI_ne hc12
      have eb15 : (decide (Y ≠ 0)) = true := decide_eq_true hy0
      rw [eb15] at H11
      have q1 := left_num X Y hy0
      have q2 := left_abs X Y hy0
      have q3 := left_sign X Y hy0
      refine wp_skip ?_
      refine then_normal ?_
      refine wp_seq ?_
      refine wp_seq ?_
      refine flow_drawT (dsts := [some 42, some 43, some 44, some 45, some 46, some 47, some 48, some 49, some 50, some 51, some 52, some 53, some 54, some 55, some 56, some 57, some 58, some 59, some 60, some 61, some 62, some 63]) (refs := [[.pre 1], [.res 0], [.res 1], [.res 2, .pre 2], [.res 2, .res 3], [.res 2, .res 4], [.res 2, .res 5], [.res 6], [.res 7, .pre 3], [.res 7, .res 8], [.res 7, .res 9], [.res 7, .res 10], [.res 11], [.res 12, .pre 2], [.res 12, .pre 6], [.res 12, .res 13, .res 14], [.res 12, .pre 3], [.res 12, .res 15, .res 16], [.res 12, .pre 5], [.res 12, .res 17, .res 18], [.res 12, .res 19], [.res 12, .res 20]]) (outs := [.res 21, .pre 3, .pre 4, .pre 5, .pre 6, .pre 7]) (als := [false, false, false, false, false, false, false, false, false, false, false, false, false, false, false, false, false, false, false, false, false, false]) (posts := [.val (IsB true), .val (IsB false), .val (IsB false), .val (IsI (X.tdiv Y)), .val (IsB true), .val (IsB false), .val (IsB false), .val (IsB false), .val (IsI (tremI X Y)), .val (IsB true), .val (IsB false), .val (IsB false), .val (IsB false), .val (IsI (X.tdiv Y)), .val (IsArg ngy ny xy), .val (IsI ((X.tdiv Y) * Y)), .val (IsI (tremI X Y)), .val (IsI (((X.tdiv Y) * Y) + (tremI X Y))), .val (IsArg ngx nx xx), .val (Lit (.int .i64 (cmpI (((X.tdiv Y) * Y) + (tremI X Y)) X))), .val (IsB false), .val (IsB false)])
        (out := [(63, .val (IsB false)), (7, .box 25 2 (IsI (tremI X Y))), (5, .box 25 2 (IsI 0)), (2, .box 25 2 (IsArg ngx nx xx)), (3, .box 25 2 (IsArg ngy ny xy)), (4, .val (IsB false))]) (nb := []) H11 (by kernel_rfl) 22 0 #[true, true, true, true, true, true, true, true, true, true, true, true, true, true, true, true, true, true, true, true, true, true] (by kernel_rfl) (by kernel_rfl) rfl rfl ?_ ?_
      · refine .cons (.plain rfl (ok_move (.tmp 0 rfl))) ?_
        refine .cons (.plain rfl (ok_not (b := true) (.tmp 0 rfl))) ?_
        refine .cons (.plain rfl (ok_move (.tmp 0 rfl))) ?_
        refine .cons (.wanted 2 false rfl rfl rfl 0 rfl (ok_load tyI (.tmp 1 rfl))) ?_
        refine .cons (.wanted 2 false rfl rfl rfl 0 rfl (ok_call (con_normal (X.tdiv Y)) (.cons (.tmp 1 rfl) (.nil)))) ?_
        refine .cons (.wanted 2 false rfl rfl rfl 0 rfl (ok_not (b := true) (.tmp 1 rfl))) ?_
        refine .cons (.plain rfl (ok_pickF (.tmp 0 rfl) (.tmp 1 rfl))) ?_
        refine .cons (.plain rfl (ok_move (.tmp 0 rfl))) ?_
        refine .cons (.wanted 7 false rfl rfl rfl 0 rfl (ok_load tyI (.tmp 1 rfl))) ?_
        refine .cons (.wanted 7 false rfl rfl rfl 0 rfl (ok_call (con_normal (tremI X Y)) (.cons (.tmp 1 rfl) (.nil)))) ?_
        refine .cons (.wanted 7 false rfl rfl rfl 0 rfl (ok_not (b := true) (.tmp 1 rfl))) ?_
        refine .cons (.plain rfl (ok_pickF (.tmp 0 rfl) (.tmp 1 rfl))) ?_
        refine .cons (.plain rfl (ok_move (.tmp 0 rfl))) ?_
        refine .cons (.wanted 12 false rfl rfl rfl 0 rfl (ok_load tyI (.tmp 1 rfl))) ?_
        refine .cons (.wanted 12 false rfl rfl rfl 0 rfl (ok_load tyI (.tmp 1 rfl))) ?_
        refine .cons (.wanted 12 false rfl rfl rfl 0 rfl (ok_call (con_mul (X.tdiv Y) Y ((((fX.le (tdiv_abs _ _)).mul fY)).fits (by omega))) (.cons (.weak (.tmp 1 rfl) weakIN) (.cons (.weak (.tmp 2 rfl) (weakAN (by omega) hY)) (.nil))))) ?_
        refine .cons (.wanted 12 false rfl rfl rfl 0 rfl (ok_load tyI (.tmp 1 rfl))) ?_
        refine .cons (.wanted 12 false rfl rfl rfl 0 rfl (ok_call (con_add ((X.tdiv Y) * Y) (tremI X Y) (((((fX.le (tdiv_abs _ _)).mul fY).add (fX.le (trem_abs _ _)))).fits (by omega))) (.cons (.weak (.tmp 1 rfl) weakIN) (.cons (.weak (.tmp 2 rfl) weakIN) (.nil))))) ?_
        refine .cons (.wanted 12 false rfl rfl rfl 0 rfl (ok_load tyI (.tmp 1 rfl))) ?_
        refine .cons (.wanted 12 false rfl rfl rfl 0 rfl (ok_call (con_cmp (((X.tdiv Y) * Y) + (tremI X Y)) X) (.cons (.weak (.tmp 1 rfl) weakIN) (.cons (.weak (.tmp 2 rfl) (weakAN (by omega) hX)) (.nil))))) ?_
        refine .cons (.wanted 12 false rfl rfl rfl 0 rfl (ok_cmp (b := false) (.tmp 1 rfl) (.lit) ((decide_eq_false (fun h => h (cmpI_eq q1))).symm))) ?_
        refine .cons (.plain rfl (ok_pickF (.tmp 0 rfl) (.tmp 1 rfl))) ?_
        exact .nil
      clear H11 a11 w11 B11
      intro a16 w16 B16 H16
      refine any_done (by kernel_rfl) ?_
      refine then_normal ?_
      refine f_condF H16 (.tmp 0 rfl) ?_
      refine wp_skip ?_
      refine then_normal ?_
      refine wp_seq ?_
      refine flow_drawT (dsts := [some 64, some 65, some 66, some 9, some 10]) (refs := [[.pre 1], [.pre 4], [.res 1], [], []]) (outs := [.res 0, .res 2, .res 3, .res 4, .pre 1, .pre 2, .pre 3, .pre 5]) (als := [false, false, false, true, true]) (posts := [.val (IsI (tremI X Y)), .val (IsArg ngy ny xy), .val (IsI Y), .box 25 2 (Zero2), .box 25 2 (Zero2)])
        (out := [(64, .val (IsI (tremI X Y))), (66, .val (IsI Y)), (9, .box 25 2 (Zero2)), (10, .box 25 2 (Zero2)), (7, .box 25 2 (IsI (tremI X Y))), (5, .box 25 2 (IsI 0)), (2, .box 25 2 (IsArg ngx nx xx)), (4, .val (IsB false))]) (nb := [9, 10]) H16 (by kernel_rfl) 5 2 #[true, true, true, true, true, false, false] (by kernel_rfl) (by kernel_rfl) rfl rfl ?_ ?_
      · refine .cons (.plain rfl (ok_load tyI (.tmp 0 rfl))) ?_
        refine .cons (.plain rfl (ok_load tyI (.tmp 0 rfl))) ?_
        refine .cons (.plain rfl (ok_call (con_norm Y) (.cons (.weak (.tmp 0 rfl) (weakAN (by omega) hY)) (.nil)))) ?_
        refine .cons (.plain rfl (ok_alloc (D := Zero2) zeroI rfl (fun _ _ => rfl))) ?_
        refine .cons (.plain rfl (ok_alloc (D := Zero2) zeroI rfl (fun _ _ => rfl))) ?_
        exact .nil
      clear H16 a16 w16 B16
      intro a17 w17 B17 H17
      simp only [List.cons_append, List.nil_append] at H17
      refine any_oneT (l' := #[true, true, true, true, true, true, false]) 5 (by kernel_rfl) ?_
      refine store_op (l' := [(64, .val (IsI (tremI X Y))), (66, .val (IsI Y)), (9, .box 25 2 (IsI (tremI X Y))), (10, .box 25 2 (Zero2)), (7, .box 25 2 (IsI (tremI X Y))), (5, .box 25 2 (IsI 0)), (2, .box 25 2 (IsArg ngx nx xx)), (4, .val (IsB false))]) 2 H17 rfl tyI rfl (.tmp 0 rfl) shape_Z shape_I rfl rfl ?_
      clear H17 w17
      intro w18 H18
      refine any_oneT (l' := #[true, true, true, true, true, true, true]) 6 (by kernel_rfl) ?_
      refine store_op (l' := [(64, .val (IsI (tremI X Y))), (66, .val (IsI Y)), (9, .box 25 2 (IsI (tremI X Y))), (10, .box 25 2 (IsI Y)), (7, .box 25 2 (IsI (tremI X Y))), (5, .box 25 2 (IsI 0)), (2, .box 25 2 (IsArg ngx nx xx)), (4, .val (IsB false))]) 3 H18 rfl tyI rfl (.tmp 1 rfl) shape_Z shape_I rfl rfl ?_
      clear H18 w18
      intro w19 H19
      refine any_done (by kernel_rfl) ?_
      refine then_normal ?_
      refine wp_seq ?_
      refine wp_seq ?_
      refine flow_region (dsts := [some 67, some 68]) (refs := [[.pre 2], [.res 0]]) (outs := [.res 1, .pre 2, .pre 3, .pre 4, .pre 5, .pre 6, .pre 7]) (als := [false, false]) (posts := [.ptr 25 2 (IsI (tremI X Y)) 0, .val (IsB (decide (tremI X Y < 0)))])
        (out := [(68, .val (IsB (decide (tremI X Y < 0)))), (9, .box 25 2 (IsI (tremI X Y))), (10, .box 25 2 (IsI Y)), (7, .box 25 2 (IsI (tremI X Y))), (5, .box 25 2 (IsI 0)), (2, .box 25 2 (IsArg ngx nx xx)), (4, .val (IsB false))]) (nb := []) H19 2 [] rfl (by kernel_rfl) rfl rfl ?_ ?_
      · refine .cons (.plain rfl (ok_addrI0 (.tmp 0 rfl))) ?_
        refine .cons (.plain rfl (ok_loadNegI (.tmp 0 rfl))) ?_
        exact .nil
      clear H19 a17 w19 B17
      intro a20 w20 B20 H20
      refine ops_done ?_
      refine then_normal ?_
      refine f_cond H20 (.tmp 0 rfl) ?_ ?_
      · intro hc21
        replace hc21 := of_decide_eq_true hc21
        refine flow_region (dsts := [some 69, some 70]) (refs := [[.pre 1], [.res 0]]) (outs := [.res 1, .pre 1, .pre 2, .pre 3, .pre 4, .pre 5, .pre 6]) (als := [false, false]) (posts := [.val (IsI (tremI X Y)), .val (IsI (-(tremI X Y)))])
          (out := [(70, .val (IsI (-(tremI X Y)))), (9, .box 25 2 (IsI (tremI X Y))), (10, .box 25 2 (IsI Y)), (7, .box 25 2 (IsI (tremI X Y))), (5, .box 25 2 (IsI 0)), (2, .box 25 2 (IsArg ngx nx xx)), (4, .val (IsB false))]) (nb := []) H20 2 [2] rfl (by kernel_rfl) rfl rfl ?_ ?_
        · refine .cons (.plain rfl (ok_load tyI (.tmp 0 rfl))) ?_
          refine .cons (.plain rfl (ok_call (con_neg (tremI X Y)) (.cons (.weak (.tmp 0 rfl) weakIN) (.nil)))) ?_
          exact .nil
        clear H20 a20 w20 B20
        intro a22 w22 B22 H22
        refine ops_one ?_
        refine store_op (l' := [(70, .val (IsI (-(tremI X Y)))), (9, .box 25 2 (IsI (-(tremI X Y)))), (10, .box 25 2 (IsI Y)), (7, .box 25 2 (IsI (tremI X Y))), (5, .box 25 2 (IsI 0)), (2, .box 25 2 (IsArg ngx nx xx)), (4, .val (IsB false))]) 1 H22 rfl tyI rfl (.tmp 0 rfl) shape_I shape_I rfl rfl ?_
        clear H22 w22
        intro w23 H23
        refine ops_done ?_
        refine then_normal ?_
        refine wp_seq ?_
        refine wp_seq ?_
        refine flow_region (dsts := [some 71, some 72]) (refs := [[.pre 2], [.res 0]]) (outs := [.res 1, .pre 1, .pre 2, .pre 3, .pre 4, .pre 5, .pre 6]) (als := [false, false]) (posts := [.ptr 25 2 (IsI Y) 0, .val (IsB (decide (Y < 0)))])
          (out := [(72, .val (IsB (decide (Y < 0)))), (9, .box 25 2 (IsI (-(tremI X Y)))), (10, .box 25 2 (IsI Y)), (7, .box 25 2 (IsI (tremI X Y))), (5, .box 25 2 (IsI 0)), (2, .box 25 2 (IsArg ngx nx xx)), (4, .val (IsB false))]) (nb := []) H23 2 [] rfl (by kernel_rfl) rfl rfl ?_ ?_
        · refine .cons (.plain rfl (ok_addrI0 (.tmp 0 rfl))) ?_
          refine .cons (.plain rfl (ok_loadNegI (.tmp 0 rfl))) ?_
          exact .nil
        clear H23 a22 w23 B22
        intro a24 w24 B24 H24
        refine ops_done ?_
        refine then_normal ?_
        refine f_cond H24 (.tmp 0 rfl) ?_ ?_
        · intro hc25
          replace hc25 := of_decide_eq_true hc25
          refine flow_region (dsts := [some 73, some 74]) (refs := [[.pre 2], [.res 0]]) (outs := [.res 1, .pre 1, .pre 2, .pre 3, .pre 4, .pre 5, .pre 6]) (als := [false, false]) (posts := [.val (IsI Y), .val (IsI (-Y))])
            (out := [(74, .val (IsI (-Y))), (9, .box 25 2 (IsI (-(tremI X Y)))), (10, .box 25 2 (IsI Y)), (7, .box 25 2 (IsI (tremI X Y))), (5, .box 25 2 (IsI 0)), (2, .box 25 2 (IsArg ngx nx xx)), (4, .val (IsB false))]) (nb := []) H24 2 [2] rfl (by kernel_rfl) rfl rfl ?_ ?_
          · refine .cons (.plain rfl (ok_load tyI (.tmp 0 rfl))) ?_
            refine .cons (.plain rfl (ok_call (con_neg Y) (.cons (.weak (.tmp 0 rfl) weakIN) (.nil)))) ?_
            exact .nil
          clear H24 a24 w24 B24
          intro a26 w26 B26 H26
          refine ops_one ?_
          refine store_op (l' := [(74, .val (IsI (-Y))), (9, .box 25 2 (IsI (-(tremI X Y)))), (10, .box 25 2 (IsI (-Y))), (7, .box 25 2 (IsI (tremI X Y))), (5, .box 25 2 (IsI 0)), (2, .box 25 2 (IsArg ngx nx xx)), (4, .val (IsB false))]) 2 H26 rfl tyI rfl (.tmp 0 rfl) shape_I shape_I rfl rfl ?_
          clear H26 w26
          intro w27 H27
          refine ops_done ?_
          refine then_normal ?_
          refine wp_seq ?_
          refine flow_drawT (dsts := [some 75, some 76, some 77, some 78, some 79, some 80, some 81, some 82, some 83, some 84, some 85, some 86, some 87, some 88, some 89, some 90, some 91, some 92, some 93, some 94, some 95, some 96, some 4]) (refs := [[.pre 1], [.pre 2], [.res 0, .res 1], [.res 2], [.res 3], [.res 4, .pre 3], [.res 4, .pre 4], [.res 4, .res 5, .res 6], [.res 4, .res 7], [.res 4, .res 8], [.res 9, .pre 3], [.res 9, .pre 4], [.res 9, .res 10, .res 11], [.res 9, .pre 5], [.res 9, .pre 4], [.res 9, .res 13, .res 14], [.res 9, .res 12, .res 15], [.res 4, .res 9, .res 16], [.res 4, .res 17], [.res 18], [.res 19], [.res 19, .res 20], [.res 21]]) (outs := [.res 22]) (als := [false, false, false, false, false, false, false, false, false, false, false, false, false, false, false, false, false, false, false, false, false, false, false]) (posts := [.val (IsI (-(tremI X Y))), .val (IsI (-Y)), .val (Lit (.int .i64 (cmpI (-(tremI X Y)) (-Y)))), .val (IsB true), .val (IsB true), .val (IsI (tremI X Y)), .val (IsI 0), .val (Lit (.int .i64 (cmpI (tremI X Y) 0))), .val (IsB (decide (cmpI (tremI X Y) 0 = 0))), .val (IsB (decide (cmpI (tremI X Y) 0 = 0))), .val (Grd ((decide (cmpI (tremI X Y) 0 = 0)) == false) (IsI (tremI X Y))), .val (Grd ((decide (cmpI (tremI X Y) 0 = 0)) == false) (IsI 0)), .val (Grd ((decide (cmpI (tremI X Y) 0 = 0)) == false) (Lit (.int .i64 (cmpI (tremI X Y) 0)))), .val (Grd ((decide (cmpI (tremI X Y) 0 = 0)) == false) (IsArg ngx nx xx)), .val (Grd ((decide (cmpI (tremI X Y) 0 = 0)) == false) (IsI 0)), .val (Grd ((decide (cmpI (tremI X Y) 0 = 0)) == false) (Lit (.int .i64 (cmpI X 0)))), .val (Grd ((decide (cmpI (tremI X Y) 0 = 0)) == false) (IsB (decide (cmpI (tremI X Y) 0 = cmpI X 0)))), .val (IsB true), .val (IsB true), .val (IsB true), .val (IsB true), .val (IsB true), .val (IsB true)])
            (out := [(4, .val (IsB true))]) (nb := []) H27 (by kernel_rfl) 23 0 #[true, true, true, true, true, true, true, true, true, true, true, true, true, true, true, true, true, true, true, true, true, true, true] (by kernel_rfl) (by kernel_rfl) rfl rfl ?_ ?_
          · refine .cons (.plain rfl (ok_load tyI (.tmp 0 rfl))) ?_
            refine .cons (.plain rfl (ok_load tyI (.tmp 0 rfl))) ?_
            refine .cons (.plain rfl (ok_call (con_cmp (-(tremI X Y)) (-Y)) (.cons (.weak (.tmp 0 rfl) weakIN) (.cons (.weak (.tmp 1 rfl) weakIN) (.nil))))) ?_
            refine .cons (.plain rfl (ok_cmp (b := true) (.tmp 0 rfl) (.lit) ((decide_eq_true (cmpI_neg (by omega))).symm))) ?_
            refine .cons (.plain rfl (ok_move (.tmp 0 rfl))) ?_
            refine .cons (.wanted 4 true rfl rfl rfl 0 rfl (ok_load tyI (.tmp 1 rfl))) ?_
            refine .cons (.wanted 4 true rfl rfl rfl 0 rfl (ok_load tyI (.tmp 1 rfl))) ?_
            refine .cons (.wanted 4 true rfl rfl rfl 0 rfl (ok_call (con_cmp (tremI X Y) 0) (.cons (.weak (.tmp 1 rfl) weakIN) (.cons (.weak (.tmp 2 rfl) weakIN) (.nil))))) ?_
            refine .cons (.wanted 4 true rfl rfl rfl 0 rfl (ok_cmp (.tmp 1 rfl) (.lit) rfl)) ?_
            refine .cons (.wanted 4 true rfl rfl rfl 0 rfl (ok_move (.tmp 1 rfl))) ?_
            refine .cons (.sym 9 false (decide (cmpI (tremI X Y) 0 = 0)) ((decide (cmpI (tremI X Y) 0 = 0)) == false) rfl rfl rfl 0 (need' := [(84, .val (IsB (decide (cmpI (tremI X Y) 0 = 0)))), (7, .box 25 2 (IsI (tremI X Y)))]) rfl rfl (fun a w B e h => ⟨h.1, h.2.1, trivial⟩) (fun e => ok_load tyI (.tmp 1 rfl))) ?_
            refine .cons (.sym 9 false (decide (cmpI (tremI X Y) 0 = 0)) ((decide (cmpI (tremI X Y) 0 = 0)) == false) rfl rfl rfl 0 (need' := [(84, .val (IsB (decide (cmpI (tremI X Y) 0 = 0)))), (5, .box 25 2 (IsI 0))]) rfl rfl (fun a w B e h => ⟨h.1, h.2.1, trivial⟩) (fun e => ok_load tyI (.tmp 1 rfl))) ?_
            refine .cons (.sym 9 false (decide (cmpI (tremI X Y) 0 = 0)) ((decide (cmpI (tremI X Y) 0 = 0)) == false) rfl rfl rfl 0 (need' := [(84, .val (IsB (decide (cmpI (tremI X Y) 0 = 0)))), (85, .val (IsI (tremI X Y))), (86, .val (IsI 0))]) rfl rfl (fun a w B e h => ⟨h.1, h.2.1.1 (e), h.2.2.1.1 (e), trivial⟩) (fun e => ok_call (con_cmp (tremI X Y) 0) (.cons (.weak (.tmp 1 rfl) weakIN) (.cons (.weak (.tmp 2 rfl) weakIN) (.nil))))) ?_
            refine .cons (.sym 9 false (decide (cmpI (tremI X Y) 0 = 0)) ((decide (cmpI (tremI X Y) 0 = 0)) == false) rfl rfl rfl 0 (need' := [(84, .val (IsB (decide (cmpI (tremI X Y) 0 = 0)))), (2, .box 25 2 (IsArg ngx nx xx))]) rfl rfl (fun a w B e h => ⟨h.1, h.2.1, trivial⟩) (fun e => ok_load tyI (.tmp 1 rfl))) ?_
            refine .cons (.sym 9 false (decide (cmpI (tremI X Y) 0 = 0)) ((decide (cmpI (tremI X Y) 0 = 0)) == false) rfl rfl rfl 0 (need' := [(84, .val (IsB (decide (cmpI (tremI X Y) 0 = 0)))), (5, .box 25 2 (IsI 0))]) rfl rfl (fun a w B e h => ⟨h.1, h.2.1, trivial⟩) (fun e => ok_load tyI (.tmp 1 rfl))) ?_
            refine .cons (.sym 9 false (decide (cmpI (tremI X Y) 0 = 0)) ((decide (cmpI (tremI X Y) 0 = 0)) == false) rfl rfl rfl 0 (need' := [(84, .val (IsB (decide (cmpI (tremI X Y) 0 = 0)))), (88, .val (IsArg ngx nx xx)), (89, .val (IsI 0))]) rfl rfl (fun a w B e h => ⟨h.1, h.2.1.1 (e), h.2.2.1.1 (e), trivial⟩) (fun e => ok_call (con_cmp X 0) (.cons (.weak (.tmp 1 rfl) (weakAN (by omega) hX)) (.cons (.weak (.tmp 2 rfl) weakIN) (.nil))))) ?_
            refine .cons (.sym 9 false (decide (cmpI (tremI X Y) 0 = 0)) ((decide (cmpI (tremI X Y) 0 = 0)) == false) rfl rfl rfl 0 (need' := [(84, .val (IsB (decide (cmpI (tremI X Y) 0 = 0)))), (87, .val (Lit (.int .i64 (cmpI (tremI X Y) 0)))), (90, .val (Lit (.int .i64 (cmpI X 0))))]) rfl rfl (fun a w B e h => ⟨h.1, h.2.1.1 (e), h.2.2.1.1 (e), trivial⟩) (fun e => ok_cmp (.tmp 1 rfl) (.tmp 2 rfl) rfl)) ?_
            refine .cons (.wanted 4 true rfl rfl rfl 0 rfl (OpOk.eqB (b := (decide (cmpI (tremI X Y) 0 = 0)) || (decide (cmpI (tremI X Y) 0 = cmpI X 0))) (ok_pickS (decide (cmpI (tremI X Y) 0 = 0)) (.tmp 1 rfl) (fun e => Opd.eqB (.lit) (by rw [e]; rfl)) (fun e => Opd.eqB (Opd.grd (.tmp 2 rfl) (by first | (rw [e]; rfl) | (simp only [e]; rfl) | (simp [*] at *; done))) (by rw [e]; rfl))) (q3))) ?_
            refine .cons (.plain rfl (ok_pickT (.tmp 0 rfl) (.tmp 1 rfl))) ?_
            refine .cons (.plain rfl (ok_move (.tmp 0 rfl))) ?_
            refine .cons (.wanted 19 true rfl rfl rfl 0 rfl (ok_call (con_lives3) (.nil))) ?_
            refine .cons (.plain rfl (ok_pickT (.tmp 0 rfl) (.tmp 1 rfl))) ?_
            refine .cons (.plain rfl (ok_assign (.tmp 0 rfl))) ?_
            exact .nil
          clear H27 a26 w27 B26
          intro a28 w28 B28 H28
          refine any_done (by kernel_rfl) ?_
          refine then_normal ?_
          refine wp_ret ?_
          exact f_ret H28 rfl 0 rfl (fun _ _ _ h => h)
        · intro hc25
          replace hc25 := of_decide_eq_false hc25
          refine wp_skip ?_
          refine then_normal ?_
          refine wp_seq ?_
          refine flow_drawT (dsts := [some 75, some 76, some 77, some 78, some 79, some 80, some 81, some 82, some 83, some 84, some 85, some 86, some 87, some 88, some 89, some 90, some 91, some 92, some 93, some 94, some 95, some 96, some 4]) (refs := [[.pre 1], [.pre 2], [.res 0, .res 1], [.res 2], [.res 3], [.res 4, .pre 3], [.res 4, .pre 4], [.res 4, .res 5, .res 6], [.res 4, .res 7], [.res 4, .res 8], [.res 9, .pre 3], [.res 9, .pre 4], [.res 9, .res 10, .res 11], [.res 9, .pre 5], [.res 9, .pre 4], [.res 9, .res 13, .res 14], [.res 9, .res 12, .res 15], [.res 4, .res 9, .res 16], [.res 4, .res 17], [.res 18], [.res 19], [.res 19, .res 20], [.res 21]]) (outs := [.res 22]) (als := [false, false, false, false, false, false, false, false, false, false, false, false, false, false, false, false, false, false, false, false, false, false, false]) (posts := [.val (IsI (-(tremI X Y))), .val (IsI Y), .val (Lit (.int .i64 (cmpI (-(tremI X Y)) Y))), .val (IsB true), .val (IsB true), .val (IsI (tremI X Y)), .val (IsI 0), .val (Lit (.int .i64 (cmpI (tremI X Y) 0))), .val (IsB (decide (cmpI (tremI X Y) 0 = 0))), .val (IsB (decide (cmpI (tremI X Y) 0 = 0))), .val (Grd ((decide (cmpI (tremI X Y) 0 = 0)) == false) (IsI (tremI X Y))), .val (Grd ((decide (cmpI (tremI X Y) 0 = 0)) == false) (IsI 0)), .val (Grd ((decide (cmpI (tremI X Y) 0 = 0)) == false) (Lit (.int .i64 (cmpI (tremI X Y) 0)))), .val (Grd ((decide (cmpI (tremI X Y) 0 = 0)) == false) (IsArg ngx nx xx)), .val (Grd ((decide (cmpI (tremI X Y) 0 = 0)) == false) (IsI 0)), .val (Grd ((decide (cmpI (tremI X Y) 0 = 0)) == false) (Lit (.int .i64 (cmpI X 0)))), .val (Grd ((decide (cmpI (tremI X Y) 0 = 0)) == false) (IsB (decide (cmpI (tremI X Y) 0 = cmpI X 0)))), .val (IsB true), .val (IsB true), .val (IsB true), .val (IsB true), .val (IsB true), .val (IsB true)])
            (out := [(4, .val (IsB true))]) (nb := []) H24 (by kernel_rfl) 23 0 #[true, true, true, true, true, true, true, true, true, true, true, true, true, true, true, true, true, true, true, true, true, true, true] (by kernel_rfl) (by kernel_rfl) rfl rfl ?_ ?_
          · refine .cons (.plain rfl (ok_load tyI (.tmp 0 rfl))) ?_
            refine .cons (.plain rfl (ok_load tyI (.tmp 0 rfl))) ?_
            refine .cons (.plain rfl (ok_call (con_cmp (-(tremI X Y)) Y) (.cons (.weak (.tmp 0 rfl) weakIN) (.cons (.weak (.tmp 1 rfl) weakIN) (.nil))))) ?_
            refine .cons (.plain rfl (ok_cmp (b := true) (.tmp 0 rfl) (.lit) ((decide_eq_true (cmpI_neg (by omega))).symm))) ?_
            refine .cons (.plain rfl (ok_move (.tmp 0 rfl))) ?_
            refine .cons (.wanted 4 true rfl rfl rfl 0 rfl (ok_load tyI (.tmp 1 rfl))) ?_
            refine .cons (.wanted 4 true rfl rfl rfl 0 rfl (ok_load tyI (.tmp 1 rfl))) ?_
            refine .cons (.wanted 4 true rfl rfl rfl 0 rfl (ok_call (con_cmp (tremI X Y) 0) (.cons (.weak (.tmp 1 rfl) weakIN) (.cons (.weak (.tmp 2 rfl) weakIN) (.nil))))) ?_
            refine .cons (.wanted 4 true rfl rfl rfl 0 rfl (ok_cmp (.tmp 1 rfl) (.lit) rfl)) ?_
            refine .cons (.wanted 4 true rfl rfl rfl 0 rfl (ok_move (.tmp 1 rfl))) ?_
            refine .cons (.sym 9 false (decide (cmpI (tremI X Y) 0 = 0)) ((decide (cmpI (tremI X Y) 0 = 0)) == false) rfl rfl rfl 0 (need' := [(84, .val (IsB (decide (cmpI (tremI X Y) 0 = 0)))), (7, .box 25 2 (IsI (tremI X Y)))]) rfl rfl (fun a w B e h => ⟨h.1, h.2.1, trivial⟩) (fun e => ok_load tyI (.tmp 1 rfl))) ?_
            refine .cons (.sym 9 false (decide (cmpI (tremI X Y) 0 = 0)) ((decide (cmpI (tremI X Y) 0 = 0)) == false) rfl rfl rfl 0 (need' := [(84, .val (IsB (decide (cmpI (tremI X Y) 0 = 0)))), (5, .box 25 2 (IsI 0))]) rfl rfl (fun a w B e h => ⟨h.1, h.2.1, trivial⟩) (fun e => ok_load tyI (.tmp 1 rfl))) ?_
            refine .cons (.sym 9 false (decide (cmpI (tremI X Y) 0 = 0)) ((decide (cmpI (tremI X Y) 0 = 0)) == false) rfl rfl rfl 0 (need' := [(84, .val (IsB (decide (cmpI (tremI X Y) 0 = 0)))), (85, .val (IsI (tremI X Y))), (86, .val (IsI 0))]) rfl rfl (fun a w B e h => ⟨h.1, h.2.1.1 (e), h.2.2.1.1 (e), trivial⟩) (fun e => ok_call (con_cmp (tremI X Y) 0) (.cons (.weak (.tmp 1 rfl) weakIN) (.cons (.weak (.tmp 2 rfl) weakIN) (.nil))))) ?_
            refine .cons (.sym 9 false (decide (cmpI (tremI X Y) 0 = 0)) ((decide (cmpI (tremI X Y) 0 = 0)) == false) rfl rfl rfl 0 (need' := [(84, .val (IsB (decide (cmpI (tremI X Y) 0 = 0)))), (2, .box 25 2 (IsArg ngx nx xx))]) rfl rfl (fun a w B e h => ⟨h.1, h.2.1, trivial⟩) (fun e => ok_load tyI (.tmp 1 rfl))) ?_
            refine .cons (.sym 9 false (decide (cmpI (tremI X Y) 0 = 0)) ((decide (cmpI (tremI X Y) 0 = 0)) == false) rfl rfl rfl 0 (need' := [(84, .val (IsB (decide (cmpI (tremI X Y) 0 = 0)))), (5, .box 25 2 (IsI 0))]) rfl rfl (fun a w B e h => ⟨h.1, h.2.1, trivial⟩) (fun e => ok_load tyI (.tmp 1 rfl))) ?_
            refine .cons (.sym 9 false (decide (cmpI (tremI X Y) 0 = 0)) ((decide (cmpI (tremI X Y) 0 = 0)) == false) rfl rfl rfl 0 (need' := [(84, .val (IsB (decide (cmpI (tremI X Y) 0 = 0)))), (88, .val (IsArg ngx nx xx)), (89, .val (IsI 0))]) rfl rfl (fun a w B e h => ⟨h.1, h.2.1.1 (e), h.2.2.1.1 (e), trivial⟩) (fun e => ok_call (con_cmp X 0) (.cons (.weak (.tmp 1 rfl) (weakAN (by omega) hX)) (.cons (.weak (.tmp 2 rfl) weakIN) (.nil))))) ?_
            refine .cons (.sym 9 false (decide (cmpI (tremI X Y) 0 = 0)) ((decide (cmpI (tremI X Y) 0 = 0)) == false) rfl rfl rfl 0 (need' := [(84, .val (IsB (decide (cmpI (tremI X Y) 0 = 0)))), (87, .val (Lit (.int .i64 (cmpI (tremI X Y) 0)))), (90, .val (Lit (.int .i64 (cmpI X 0))))]) rfl rfl (fun a w B e h => ⟨h.1, h.2.1.1 (e), h.2.2.1.1 (e), trivial⟩) (fun e => ok_cmp (.tmp 1 rfl) (.tmp 2 rfl) rfl)) ?_
            refine .cons (.wanted 4 true rfl rfl rfl 0 rfl (OpOk.eqB (b := (decide (cmpI (tremI X Y) 0 = 0)) || (decide (cmpI (tremI X Y) 0 = cmpI X 0))) (ok_pickS (decide (cmpI (tremI X Y) 0 = 0)) (.tmp 1 rfl) (fun e => Opd.eqB (.lit) (by rw [e]; rfl)) (fun e => Opd.eqB (Opd.grd (.tmp 2 rfl) (by first | (rw [e]; rfl) | (simp only [e]; rfl) | (simp [*] at *; done))) (by rw [e]; rfl))) (q3))) ?_
            refine .cons (.plain rfl (ok_pickT (.tmp 0 rfl) (.tmp 1 rfl))) ?_
            refine .cons (.plain rfl (ok_move (.tmp 0 rfl))) ?_
            refine .cons (.wanted 19 true rfl rfl rfl 0 rfl (ok_call (con_lives3) (.nil))) ?_
            refine .cons (.plain rfl (ok_pickT (.tmp 0 rfl) (.tmp 1 rfl))) ?_
            refine .cons (.plain rfl (ok_assign (.tmp 0 rfl))) ?_
            exact .nil
          clear H24 a24 w24 B24
          intro a29 w29 B29 H29
          refine any_done (by kernel_rfl) ?_
          refine then_normal ?_
          refine wp_ret ?_
          exact f_ret H29 rfl 0 rfl (fun _ _ _ h => h)
      · intro hc21
        replace hc21 := of_decide_eq_false hc21
        refine wp_skip ?_
        refine then_normal ?_
        refine wp_seq ?_
        refine wp_seq ?_
        refine flow_region (dsts := [some 71, some 72]) (refs := [[.pre 2], [.res 0]]) (outs := [.res 1, .pre 1, .pre 2, .pre 3, .pre 4, .pre 5, .pre 6]) (als := [false, false]) (posts := [.ptr 25 2 (IsI Y) 0, .val (IsB (decide (Y < 0)))])
          (out := [(72, .val (IsB (decide (Y < 0)))), (9, .box 25 2 (IsI (tremI X Y))), (10, .box 25 2 (IsI Y)), (7, .box 25 2 (IsI (tremI X Y))), (5, .box 25 2 (IsI 0)), (2, .box 25 2 (IsArg ngx nx xx)), (4, .val (IsB false))]) (nb := []) H20 2 [] rfl (by kernel_rfl) rfl rfl ?_ ?_
        · refine .cons (.plain rfl (ok_addrI0 (.tmp 0 rfl))) ?_
          refine .cons (.plain rfl (ok_loadNegI (.tmp 0 rfl))) ?_
          exact .nil
        clear H20 a20 w20 B20
        intro a30 w30 B30 H30
        refine ops_done ?_
        refine then_normal ?_
        refine f_cond H30 (.tmp 0 rfl) ?_ ?_
        · intro hc31
          replace hc31 := of_decide_eq_true hc31
          refine flow_region (dsts := [some 73, some 74]) (refs := [[.pre 2], [.res 0]]) (outs := [.res 1, .pre 1, .pre 2, .pre 3, .pre 4, .pre 5, .pre 6]) (als := [false, false]) (posts := [.val (IsI Y), .val (IsI (-Y))])
            (out := [(74, .val (IsI (-Y))), (9, .box 25 2 (IsI (tremI X Y))), (10, .box 25 2 (IsI Y)), (7, .box 25 2 (IsI (tremI X Y))), (5, .box 25 2 (IsI 0)), (2, .box 25 2 (IsArg ngx nx xx)), (4, .val (IsB false))]) (nb := []) H30 2 [2] rfl (by kernel_rfl) rfl rfl ?_ ?_
          · refine .cons (.plain rfl (ok_load tyI (.tmp 0 rfl))) ?_
            refine .cons (.plain rfl (ok_call (con_neg Y) (.cons (.weak (.tmp 0 rfl) weakIN) (.nil)))) ?_
            exact .nil
          clear H30 a30 w30 B30
          intro a32 w32 B32 H32
          refine ops_one ?_
          refine store_op (l' := [(74, .val (IsI (-Y))), (9, .box 25 2 (IsI (tremI X Y))), (10, .box 25 2 (IsI (-Y))), (7, .box 25 2 (IsI (tremI X Y))), (5, .box 25 2 (IsI 0)), (2, .box 25 2 (IsArg ngx nx xx)), (4, .val (IsB false))]) 2 H32 rfl tyI rfl (.tmp 0 rfl) shape_I shape_I rfl rfl ?_
          clear H32 w32
          intro w33 H33
          refine ops_done ?_
          refine then_normal ?_
          refine wp_seq ?_
          refine flow_drawT (dsts := [some 75, some 76, some 77, some 78, some 79, some 80, some 81, some 82, some 83, some 84, some 85, some 86, some 87, some 88, some 89, some 90, some 91, some 92, some 93, some 94, some 95, some 96, some 4]) (refs := [[.pre 1], [.pre 2], [.res 0, .res 1], [.res 2], [.res 3], [.res 4, .pre 3], [.res 4, .pre 4], [.res 4, .res 5, .res 6], [.res 4, .res 7], [.res 4, .res 8], [.res 9, .pre 3], [.res 9, .pre 4], [.res 9, .res 10, .res 11], [.res 9, .pre 5], [.res 9, .pre 4], [.res 9, .res 13, .res 14], [.res 9, .res 12, .res 15], [.res 4, .res 9, .res 16], [.res 4, .res 17], [.res 18], [.res 19], [.res 19, .res 20], [.res 21]]) (outs := [.res 22]) (als := [false, false, false, false, false, false, false, false, false, false, false, false, false, false, false, false, false, false, false, false, false, false, false]) (posts := [.val (IsI (tremI X Y)), .val (IsI (-Y)), .val (Lit (.int .i64 (cmpI (tremI X Y) (-Y)))), .val (IsB true), .val (IsB true), .val (IsI (tremI X Y)), .val (IsI 0), .val (Lit (.int .i64 (cmpI (tremI X Y) 0))), .val (IsB (decide (cmpI (tremI X Y) 0 = 0))), .val (IsB (decide (cmpI (tremI X Y) 0 = 0))), .val (Grd ((decide (cmpI (tremI X Y) 0 = 0)) == false) (IsI (tremI X Y))), .val (Grd ((decide (cmpI (tremI X Y) 0 = 0)) == false) (IsI 0)), .val (Grd ((decide (cmpI (tremI X Y) 0 = 0)) == false) (Lit (.int .i64 (cmpI (tremI X Y) 0)))), .val (Grd ((decide (cmpI (tremI X Y) 0 = 0)) == false) (IsArg ngx nx xx)), .val (Grd ((decide (cmpI (tremI X Y) 0 = 0)) == false) (IsI 0)), .val (Grd ((decide (cmpI (tremI X Y) 0 = 0)) == false) (Lit (.int .i64 (cmpI X 0)))), .val (Grd ((decide (cmpI (tremI X Y) 0 = 0)) == false) (IsB (decide (cmpI (tremI X Y) 0 = cmpI X 0)))), .val (IsB true), .val (IsB true), .val (IsB true), .val (IsB true), .val (IsB true), .val (IsB true)])
            (out := [(4, .val (IsB true))]) (nb := []) H33 (by kernel_rfl) 23 0 #[true, true, true, true, true, true, true, true, true, true, true, true, true, true, true, true, true, true, true, true, true, true, true] (by kernel_rfl) (by kernel_rfl) rfl rfl ?_ ?_
          · refine .cons (.plain rfl (ok_load tyI (.tmp 0 rfl))) ?_
            refine .cons (.plain rfl (ok_load tyI (.tmp 0 rfl))) ?_
            refine .cons (.plain rfl (ok_call (con_cmp (tremI X Y) (-Y)) (.cons (.weak (.tmp 0 rfl) weakIN) (.cons (.weak (.tmp 1 rfl) weakIN) (.nil))))) ?_
            refine .cons (.plain rfl (ok_cmp (b := true) (.tmp 0 rfl) (.lit) ((decide_eq_true (cmpI_neg (by omega))).symm))) ?_
            refine .cons (.plain rfl (ok_move (.tmp 0 rfl))) ?_
            refine .cons (.wanted 4 true rfl rfl rfl 0 rfl (ok_load tyI (.tmp 1 rfl))) ?_
            refine .cons (.wanted 4 true rfl rfl rfl 0 rfl (ok_load tyI (.tmp 1 rfl))) ?_
            refine .cons (.wanted 4 true rfl rfl rfl 0 rfl (ok_call (con_cmp (tremI X Y) 0) (.cons (.weak (.tmp 1 rfl) weakIN) (.cons (.weak (.tmp 2 rfl) weakIN) (.nil))))) ?_
            refine .cons (.wanted 4 true rfl rfl rfl 0 rfl (ok_cmp (.tmp 1 rfl) (.lit) rfl)) ?_
            refine .cons (.wanted 4 true rfl rfl rfl 0 rfl (ok_move (.tmp 1 rfl))) ?_
            refine .cons (.sym 9 false (decide (cmpI (tremI X Y) 0 = 0)) ((decide (cmpI (tremI X Y) 0 = 0)) == false) rfl rfl rfl 0 (need' := [(84, .val (IsB (decide (cmpI (tremI X Y) 0 = 0)))), (7, .box 25 2 (IsI (tremI X Y)))]) rfl rfl (fun a w B e h => ⟨h.1, h.2.1, trivial⟩) (fun e => ok_load tyI (.tmp 1 rfl))) ?_
            refine .cons (.sym 9 false (decide (cmpI (tremI X Y) 0 = 0)) ((decide (cmpI (tremI X Y) 0 = 0)) == false) rfl rfl rfl 0 (need' := [(84, .val (IsB (decide (cmpI (tremI X Y) 0 = 0)))), (5, .box 25 2 (IsI 0))]) rfl rfl (fun a w B e h => ⟨h.1, h.2.1, trivial⟩) (fun e => ok_load tyI (.tmp 1 rfl))) ?_
            refine .cons (.sym 9 false (decide (cmpI (tremI X Y) 0 = 0)) ((decide (cmpI (tremI X Y) 0 = 0)) == false) rfl rfl rfl 0 (need' := [(84, .val (IsB (decide (cmpI (tremI X Y) 0 = 0)))), (85, .val (IsI (tremI X Y))), (86, .val (IsI 0))]) rfl rfl (fun a w B e h => ⟨h.1, h.2.1.1 (e), h.2.2.1.1 (e), trivial⟩) (fun e => ok_call (con_cmp (tremI X Y) 0) (.cons (.weak (.tmp 1 rfl) weakIN) (.cons (.weak (.tmp 2 rfl) weakIN) (.nil))))) ?_
            refine .cons (.sym 9 false (decide (cmpI (tremI X Y) 0 = 0)) ((decide (cmpI (tremI X Y) 0 = 0)) == false) rfl rfl rfl 0 (need' := [(84, .val (IsB (decide (cmpI (tremI X Y) 0 = 0)))), (2, .box 25 2 (IsArg ngx nx xx))]) rfl rfl (fun a w B e h => ⟨h.1, h.2.1, trivial⟩) (fun e => ok_load tyI (.tmp 1 rfl))) ?_
            refine .cons (.sym 9 false (decide (cmpI (tremI X Y) 0 = 0)) ((decide (cmpI (tremI X Y) 0 = 0)) == false) rfl rfl rfl 0 (need' := [(84, .val (IsB (decide (cmpI (tremI X Y) 0 = 0)))), (5, .box 25 2 (IsI 0))]) rfl rfl (fun a w B e h => ⟨h.1, h.2.1, trivial⟩) (fun e => ok_load tyI (.tmp 1 rfl))) ?_
            refine .cons (.sym 9 false (decide (cmpI (tremI X Y) 0 = 0)) ((decide (cmpI (tremI X Y) 0 = 0)) == false) rfl rfl rfl 0 (need' := [(84, .val (IsB (decide (cmpI (tremI X Y) 0 = 0)))), (88, .val (IsArg ngx nx xx)), (89, .val (IsI 0))]) rfl rfl (fun a w B e h => ⟨h.1, h.2.1.1 (e), h.2.2.1.1 (e), trivial⟩) (fun e => ok_call (con_cmp X 0) (.cons (.weak (.tmp 1 rfl) (weakAN (by omega) hX)) (.cons (.weak (.tmp 2 rfl) weakIN) (.nil))))) ?_
            refine .cons (.sym 9 false (decide (cmpI (tremI X Y) 0 = 0)) ((decide (cmpI (tremI X Y) 0 = 0)) == false) rfl rfl rfl 0 (need' := [(84, .val (IsB (decide (cmpI (tremI X Y) 0 = 0)))), (87, .val (Lit (.int .i64 (cmpI (tremI X Y) 0)))), (90, .val (Lit (.int .i64 (cmpI X 0))))]) rfl rfl (fun a w B e h => ⟨h.1, h.2.1.1 (e), h.2.2.1.1 (e), trivial⟩) (fun e => ok_cmp (.tmp 1 rfl) (.tmp 2 rfl) rfl)) ?_
            refine .cons (.wanted 4 true rfl rfl rfl 0 rfl (OpOk.eqB (b := (decide (cmpI (tremI X Y) 0 = 0)) || (decide (cmpI (tremI X Y) 0 = cmpI X 0))) (ok_pickS (decide (cmpI (tremI X Y) 0 = 0)) (.tmp 1 rfl) (fun e => Opd.eqB (.lit) (by rw [e]; rfl)) (fun e => Opd.eqB (Opd.grd (.tmp 2 rfl) (by first | (rw [e]; rfl) | (simp only [e]; rfl) | (simp [*] at *; done))) (by rw [e]; rfl))) (q3))) ?_
            refine .cons (.plain rfl (ok_pickT (.tmp 0 rfl) (.tmp 1 rfl))) ?_
            refine .cons (.plain rfl (ok_move (.tmp 0 rfl))) ?_
            refine .cons (.wanted 19 true rfl rfl rfl 0 rfl (ok_call (con_lives3) (.nil))) ?_
            refine .cons (.plain rfl (ok_pickT (.tmp 0 rfl) (.tmp 1 rfl))) ?_
            refine .cons (.plain rfl (ok_assign (.tmp 0 rfl))) ?_
            exact .nil
          clear H33 a32 w33 B32
          intro a34 w34 B34 H34
          refine any_done (by kernel_rfl) ?_
          refine then_normal ?_
          refine wp_ret ?_
          exact f_ret H34 rfl 0 rfl (fun _ _ _ h => h)
        · intro hc31
          replace hc31 := of_decide_eq_false hc31
          refine wp_skip ?_
          refine then_normal ?_
          refine wp_seq ?_
          refine flow_drawT (dsts := [some 75, some 76, some 77, some 78, some 79, some 80, some 81, some 82, some 83, some 84, some 85, some 86, some 87, some 88, some 89, some 90, some 91, some 92, some 93, some 94, some 95, some 96, some 4]) (refs := [[.pre 1], [.pre 2], [.res 0, .res 1], [.res 2], [.res 3], [.res 4, .pre 3], [.res 4, .pre 4], [.res 4, .res 5, .res 6], [.res 4, .res 7], [.res 4, .res 8], [.res 9, .pre 3], [.res 9, .pre 4], [.res 9, .res 10, .res 11], [.res 9, .pre 5], [.res 9, .pre 4], [.res 9, .res 13, .res 14], [.res 9, .res 12, .res 15], [.res 4, .res 9, .res 16], [.res 4, .res 17], [.res 18], [.res 19], [.res 19, .res 20], [.res 21]]) (outs := [.res 22]) (als := [false, false, false, false, false, false, false, false, false, false, false, false, false, false, false, false, false, false, false, false, false, false, false]) (posts := [.val (IsI (tremI X Y)), .val (IsI Y), .val (Lit (.int .i64 (cmpI (tremI X Y) Y))), .val (IsB true), .val (IsB true), .val (IsI (tremI X Y)), .val (IsI 0), .val (Lit (.int .i64 (cmpI (tremI X Y) 0))), .val (IsB (decide (cmpI (tremI X Y) 0 = 0))), .val (IsB (decide (cmpI (tremI X Y) 0 = 0))), .val (Grd ((decide (cmpI (tremI X Y) 0 = 0)) == false) (IsI (tremI X Y))), .val (Grd ((decide (cmpI (tremI X Y) 0 = 0)) == false) (IsI 0)), .val (Grd ((decide (cmpI (tremI X Y) 0 = 0)) == false) (Lit (.int .i64 (cmpI (tremI X Y) 0)))), .val (Grd ((decide (cmpI (tremI X Y) 0 = 0)) == false) (IsArg ngx nx xx)), .val (Grd ((decide (cmpI (tremI X Y) 0 = 0)) == false) (IsI 0)), .val (Grd ((decide (cmpI (tremI X Y) 0 = 0)) == false) (Lit (.int .i64 (cmpI X 0)))), .val (Grd ((decide (cmpI (tremI X Y) 0 = 0)) == false) (IsB (decide (cmpI (tremI X Y) 0 = cmpI X 0)))), .val (IsB true), .val (IsB true), .val (IsB true), .val (IsB true), .val (IsB true), .val (IsB true)])
            (out := [(4, .val (IsB true))]) (nb := []) H30 (by kernel_rfl) 23 0 #[true, true, true, true, true, true, true, true, true, true, true, true, true, true, true, true, true, true, true, true, true, true, true] (by kernel_rfl) (by kernel_rfl) rfl rfl ?_ ?_
          · refine .cons (.plain rfl (ok_load tyI (.tmp 0 rfl))) ?_
            refine .cons (.plain rfl (ok_load tyI (.tmp 0 rfl))) ?_
            refine .cons (.plain rfl (ok_call (con_cmp (tremI X Y) Y) (.cons (.weak (.tmp 0 rfl) weakIN) (.cons (.weak (.tmp 1 rfl) weakIN) (.nil))))) ?_
            refine .cons (.plain rfl (ok_cmp (b := true) (.tmp 0 rfl) (.lit) ((decide_eq_true (cmpI_neg (by omega))).symm))) ?_
            refine .cons (.plain rfl (ok_move (.tmp 0 rfl))) ?_
            refine .cons (.wanted 4 true rfl rfl rfl 0 rfl (ok_load tyI (.tmp 1 rfl))) ?_
            refine .cons (.wanted 4 true rfl rfl rfl 0 rfl (ok_load tyI (.tmp 1 rfl))) ?_
            refine .cons (.wanted 4 true rfl rfl rfl 0 rfl (ok_call (con_cmp (tremI X Y) 0) (.cons (.weak (.tmp 1 rfl) weakIN) (.cons (.weak (.tmp 2 rfl) weakIN) (.nil))))) ?_
            refine .cons (.wanted 4 true rfl rfl rfl 0 rfl (ok_cmp (.tmp 1 rfl) (.lit) rfl)) ?_
            refine .cons (.wanted 4 true rfl rfl rfl 0 rfl (ok_move (.tmp 1 rfl))) ?_
            refine .cons (.sym 9 false (decide (cmpI (tremI X Y) 0 = 0)) ((decide (cmpI (tremI X Y) 0 = 0)) == false) rfl rfl rfl 0 (need' := [(84, .val (IsB (decide (cmpI (tremI X Y) 0 = 0)))), (7, .box 25 2 (IsI (tremI X Y)))]) rfl rfl (fun a w B e h => ⟨h.1, h.2.1, trivial⟩) (fun e => ok_load tyI (.tmp 1 rfl))) ?_
            refine .cons (.sym 9 false (decide (cmpI (tremI X Y) 0 = 0)) ((decide (cmpI (tremI X Y) 0 = 0)) == false) rfl rfl rfl 0 (need' := [(84, .val (IsB (decide (cmpI (tremI X Y) 0 = 0)))), (5, .box 25 2 (IsI 0))]) rfl rfl (fun a w B e h => ⟨h.1, h.2.1, trivial⟩) (fun e => ok_load tyI (.tmp 1 rfl))) ?_
            refine .cons (.sym 9 false (decide (cmpI (tremI X Y) 0 = 0)) ((decide (cmpI (tremI X Y) 0 = 0)) == false) rfl rfl rfl 0 (need' := [(84, .val (IsB (decide (cmpI (tremI X Y) 0 = 0)))), (85, .val (IsI (tremI X Y))), (86, .val (IsI 0))]) rfl rfl (fun a w B e h => ⟨h.1, h.2.1.1 (e), h.2.2.1.1 (e), trivial⟩) (fun e => ok_call (con_cmp (tremI X Y) 0) (.cons (.weak (.tmp 1 rfl) weakIN) (.cons (.weak (.tmp 2 rfl) weakIN) (.nil))))) ?_
            refine .cons (.sym 9 false (decide (cmpI (tremI X Y) 0 = 0)) ((decide (cmpI (tremI X Y) 0 = 0)) == false) rfl rfl rfl 0 (need' := [(84, .val (IsB (decide (cmpI (tremI X Y) 0 = 0)))), (2, .box 25 2 (IsArg ngx nx xx))]) rfl rfl (fun a w B e h => ⟨h.1, h.2.1, trivial⟩) (fun e => ok_load tyI (.tmp 1 rfl))) ?_
            refine .cons (.sym 9 false (decide (cmpI (tremI X Y) 0 = 0)) ((decide (cmpI (tremI X Y) 0 = 0)) == false) rfl rfl rfl 0 (need' := [(84, .val (IsB (decide (cmpI (tremI X Y) 0 = 0)))), (5, .box 25 2 (IsI 0))]) rfl rfl (fun a w B e h => ⟨h.1, h.2.1, trivial⟩) (fun e => ok_load tyI (.tmp 1 rfl))) ?_
            refine .cons (.sym 9 false (decide (cmpI (tremI X Y) 0 = 0)) ((decide (cmpI (tremI X Y) 0 = 0)) == false) rfl rfl rfl 0 (need' := [(84, .val (IsB (decide (cmpI (tremI X Y) 0 = 0)))), (88, .val (IsArg ngx nx xx)), (89, .val (IsI 0))]) rfl rfl (fun a w B e h => ⟨h.1, h.2.1.1 (e), h.2.2.1.1 (e), trivial⟩) (fun e => ok_call (con_cmp X 0) (.cons (.weak (.tmp 1 rfl) (weakAN (by omega) hX)) (.cons (.weak (.tmp 2 rfl) weakIN) (.nil))))) ?_
            refine .cons (.sym 9 false (decide (cmpI (tremI X Y) 0 = 0)) ((decide (cmpI (tremI X Y) 0 = 0)) == false) rfl rfl rfl 0 (need' := [(84, .val (IsB (decide (cmpI (tremI X Y) 0 = 0)))), (87, .val (Lit (.int .i64 (cmpI (tremI X Y) 0)))), (90, .val (Lit (.int .i64 (cmpI X 0))))]) rfl rfl (fun a w B e h => ⟨h.1, h.2.1.1 (e), h.2.2.1.1 (e), trivial⟩) (fun e => ok_cmp (.tmp 1 rfl) (.tmp 2 rfl) rfl)) ?_
            refine .cons (.wanted 4 true rfl rfl rfl 0 rfl (OpOk.eqB (b := (decide (cmpI (tremI X Y) 0 = 0)) || (decide (cmpI (tremI X Y) 0 = cmpI X 0))) (ok_pickS (decide (cmpI (tremI X Y) 0 = 0)) (.tmp 1 rfl) (fun e => Opd.eqB (.lit) (by rw [e]; rfl)) (fun e => Opd.eqB (Opd.grd (.tmp 2 rfl) (by first | (rw [e]; rfl) | (simp only [e]; rfl) | (simp [*] at *; done))) (by rw [e]; rfl))) (q3))) ?_
            refine .cons (.plain rfl (ok_pickT (.tmp 0 rfl) (.tmp 1 rfl))) ?_
            refine .cons (.plain rfl (ok_move (.tmp 0 rfl))) ?_
            refine .cons (.wanted 19 true rfl rfl rfl 0 rfl (ok_call (con_lives3) (.nil))) ?_
            refine .cons (.plain rfl (ok_pickT (.tmp 0 rfl) (.tmp 1 rfl))) ?_
            refine .cons (.plain rfl (ok_assign (.tmp 0 rfl))) ?_
            exact .nil
          clear H30 a30 w30 B30
          intro a35 w35 B35 H35
          refine any_done (by kernel_rfl) ?_
          refine then_normal ?_
          refine wp_ret ?_
          exact f_ret H35 rfl 0 rfl (fun _ _ _ h => h)

theorem walk_WholeLeft (w : World) (ngx : Bool) (adx : Option Addr) (nx cx : Nat) (xx : List Int) (fx : Arg w adx nx cx xx) (yx : nx * 4 ≤ 140737488351232) (ngy : Bool) (ady : Option Addr) (ny cy : Nat) (xy : List Int) (fy : Arg w ady ny cy xy) (yy : ny * 4 ≤ 140737488351232) :
    Calls Try.prog 7 #[.agg #[.bool ngx, .slice adx nx cx], .agg #[.bool ngy, .slice ady ny cy]] w (fun e w' => e = .returned (.bool true) ∧ Below w.heap.size w w') := by
  refine ((con_WholeLeft ngx nx xx yx ngy ny xy yy).calls [.agg #[.bool ngx, .slice adx nx cx], .agg #[.bool ngy, .slice ady ny cy]] w (fun _ => False) (fun _ h => h.elim) ⟨⟨adx, cx, rfl, fx⟩, ⟨ady, cy, rfl, fy⟩, trivial⟩).mono ?_
  rintro e w' ⟨v, rfl, h, hb⟩
  obtain rfl := h
  exact ⟨rfl, hb⟩
end Go.Proofs.Ytgnophflogmmaaa
