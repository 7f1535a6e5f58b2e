/- The law WholeQuotients: its walk. -/
import Derived.Test.YtgnophflogmmaaaPk23
import Derived.Test.YtgnophflogmmaaaPk48
set_option linter.unusedVariables false
set_option linter.unusedSimpArgs false
/- The law WholeQuotients: its walk by what the slots hold. (Printed by flow03.py.) -/
namespace Go.Proofs.Ytgnophflogmmaaa
open Go Go.RowKit


set_option maxRecDepth 20000 in
set_option maxHeartbeats 4000000 in
theorem con_WholeQuotients (ngx : Bool) (nx : Nat) (xx : List Int) (yx : nx * 4 ≤ 140737488351232) (ngy : Bool) (ny : Nat) (xy : List Int) (yy : ny * 4 ≤ 140737488351232) : Con Try.prog 3 [IsArg ngx nx xx, IsArg ngy ny xy] (IsB true) := by
  refine f_enter (N := 61) Try.ntmps3 (fun _ _ => by go_simp) Try.func3 rfl (by simp) ?_
  intro a0 w0 B0 H0
  replace H0 : St 61 w0 B0 a0 w0 B0 [(0, .val (IsArg ngx nx xx)), (1, .val (IsArg ngy ny xy))] [] := H0
  obtain ⟨X, hX⟩ : ∃ X, sI ngx (val 4294967296 xx) = X := ⟨_, rfl⟩
  have fX : FitK nx X := PArg.fit hX (H0.fc.get 0 rfl)
  obtain ⟨Y, hY⟩ : ∃ X, sI ngy (val 4294967296 xy) = X := ⟨_, rfl⟩
  have fY : FitK ny Y := PArg.fit hY (H0.fc.get 1 rfl)
  refine wp_seq ?_
  refine flow_region (dsts := [some 2, some 3, some 4]) (refs := [[.pre 0], [.pre 1], []]) (outs := [.res 0, .res 1, .res 2]) (als := [true, true, false]) (posts := [.box 25 2 (IsArg ngx nx xx), .box 25 2 (IsArg ngy ny xy), .val (IsB false)])
    (out := [(2, .box 25 2 (IsArg ngx nx xx)), (3, .box 25 2 (IsArg ngy ny xy)), (4, .val (IsB false))]) (nb := [2, 3]) H0 3 [] rfl (by kernel_rfl) rfl rfl ?_ ?_
  · refine .cons (.plain rfl (ok_box (.tmp 0 rfl) shape_Arg.two)) ?_
    refine .cons (.plain rfl (ok_box (.tmp 0 rfl) shape_Arg.two)) ?_
    refine .cons (.plain rfl (ok_assign (.lit))) ?_
    exact .nil
  clear H0
  intro a1 w1 B1 H1
  simp only [List.cons_append, List.nil_append] at H1
  refine ops_done ?_
  refine then_normal ?_
  refine wp_seq ?_
  refine wp_seq ?_
  refine flow_region (dsts := [some 13, some 14, some 15, some 16]) (refs := [[.pre 0], [.pre 1], [.res 0, .res 1], [.res 2]]) (outs := [.res 3, .pre 0, .pre 1, .pre 2]) (als := [false, false, false, false]) (posts := [.val (IsArg ngx nx xx), .val (IsArg ngy ny xy), .val (IsInts [nx, ny]), .val (IsIf True (∀ j : Nat, [nx, ny][j]?.getD 0 ≤ 1048576))])
    (out := [(16, .val (IsIf True (∀ j : Nat, [nx, ny][j]?.getD 0 ≤ 1048576))), (2, .box 25 2 (IsArg ngx nx xx)), (3, .box 25 2 (IsArg ngy ny xy)), (4, .val (IsB false))]) (nb := []) H1 4 [] rfl (by kernel_rfl) rfl rfl ?_ ?_
  · refine .cons (.plain rfl (ok_load tyI (.tmp 0 rfl))) ?_
    refine .cons (.plain rfl (ok_load tyI (.tmp 0 rfl))) ?_
    refine .cons (.plain rfl (ok_ints2 (.tmp 0 rfl) (.tmp 1 rfl))) ?_
    refine .cons (.plain rfl (ok_call (con_beyond [nx, ny] (by simp) (fun j => by rcases j with _ | _ | _ <;> simp <;> omega)) (.cons (.tmp 0 rfl) (.nil)))) ?_
    exact .nil
  clear H1 a1 w1 B1
  intro a2 w2 B2 H2
  refine ops_done ?_
  refine then_normal ?_
  refine f_condI H2 (.tmp 0 rfl) ?_ ?_
  · intro hc3
    refine wp_seq ?_
    refine flow_region (dsts := [some 4]) (refs := [[]]) (outs := [.res 0, .pre 1, .pre 2]) (als := [false]) (posts := [.val (IsB true)])
      (out := [(4, .val (IsB true)), (2, .box 25 2 (IsArg ngx nx xx)), (3, .box 25 2 (IsArg ngy ny xy))]) (nb := []) H2 1 [] rfl (by kernel_rfl) rfl rfl ?_ ?_
    · refine .cons (.plain rfl (ok_assign (.lit))) ?_
      exact .nil
    clear H2 a2 w2 B2
    intro a4 w4 B4 H4
    refine ops_done ?_
    refine then_normal ?_
    refine wp_ret ?_
    refine then_ret ?_
    exact f_ret H4 rfl 0 rfl (fun _ _ _ h => h)
  · intro hc3
    have lx : nx ≤ 1048576 := hc3 0
    have ly : ny ≤ 1048576 := hc3 1
    clear hc3
    refine wp_skip ?_
    refine then_normal ?_
    refine wp_seq ?_
    refine flow_drawT (dsts := [some 17, some 18, some 19, some 20, some 5, some 6]) (refs := [[.pre 1], [.res 0], [.pre 2], [.res 2], [], []]) (outs := [.res 1, .res 3, .res 4, .res 5, .pre 1, .pre 2, .pre 3]) (als := [false, false, false, false, true, true]) (posts := [.val (IsArg ngx nx xx), .val (IsTw ngx nx xx), .val (IsArg ngy ny xy), .val (IsTw ngy ny xy), .box 25 2 (Zero2), .box 25 2 (Zero2)])
      (out := [(18, .val (IsTw ngx nx xx)), (20, .val (IsTw ngy ny xy)), (5, .box 25 2 (Zero2)), (6, .box 25 2 (Zero2)), (2, .box 25 2 (IsArg ngx nx xx)), (3, .box 25 2 (IsArg ngy ny xy)), (4, .val (IsB false))]) (nb := [5, 6]) H2 (by kernel_rfl) 6 2 #[true, true, true, true, true, true, false, false] (by kernel_rfl) (by kernel_rfl) rfl rfl ?_ ?_
    · refine .cons (.plain rfl (ok_load tyI (.tmp 0 rfl))) ?_
      refine .cons (.plain rfl (ok_call (con_twinInt ngx nx xx (by omega)) (.cons (.tmp 0 rfl) (.nil)))) ?_
      refine .cons (.plain rfl (ok_load tyI (.tmp 0 rfl))) ?_
      refine .cons (.plain rfl (ok_call (con_twinInt ngy ny xy (by omega)) (.cons (.tmp 0 rfl) (.nil)))) ?_
      refine .cons (.plain rfl (ok_alloc (D := Zero2) zeroI rfl (fun _ _ => rfl))) ?_
      refine .cons (.plain rfl (ok_alloc (D := Zero2) zeroI rfl (fun _ _ => rfl))) ?_
      exact .nil
    clear H2 a2 w2 B2
    intro a5 w5 B5 H5
    simp only [List.cons_append, List.nil_append] at H5
    refine any_oneT (l' := #[true, true, true, true, true, true, true, false]) 6 (by kernel_rfl) ?_
    refine store_op (l' := [(18, .val (IsTw ngx nx xx)), (20, .val (IsTw ngy ny xy)), (5, .box 25 2 (IsTw ngx nx xx)), (6, .box 25 2 (Zero2)), (2, .box 25 2 (IsArg ngx nx xx)), (3, .box 25 2 (IsArg ngy ny xy)), (4, .val (IsB false))]) 2 H5 rfl tyI rfl (.tmp 0 rfl) shape_Z shape_Tw rfl rfl ?_
    clear H5 w5
    intro w6 H6
    refine any_oneT (l' := #[true, true, true, true, true, true, true, true]) 7 (by kernel_rfl) ?_
    refine store_op (l' := [(18, .val (IsTw ngx nx xx)), (20, .val (IsTw ngy ny xy)), (5, .box 25 2 (IsTw ngx nx xx)), (6, .box 25 2 (IsTw ngy ny xy)), (2, .box 25 2 (IsArg ngx nx xx)), (3, .box 25 2 (IsArg ngy ny xy)), (4, .val (IsB false))]) 3 H6 rfl tyI rfl (.tmp 1 rfl) shape_Z shape_Tw rfl rfl ?_
    clear H6 w6
    intro w7 H7
    refine any_done (by kernel_rfl) ?_
    refine then_normal ?_
    refine wp_seq ?_
    refine flow_region (dsts := [some 22, some 23, some 24, some 21, some 25, some 26, some 27, some 7, some 8]) (refs := [[.pre 2], [.pre 3], [.res 0, .res 1], [.res 2], [.res 3], [.res 3], [.res 3], [], []]) (outs := [.res 4, .res 5, .res 6, .res 7, .res 8, .pre 2, .pre 3, .pre 4, .pre 5, .pre 6]) (als := [false, false, false, false, false, false, false, true, true]) (posts := [.val (IsTw ngx nx xx), .val (IsTw ngy ny xy), .val (Tup [IsI (X.tdiv Y), IsI (tremI X Y), IsB (decide (Y ≠ 0))]), .val (Tup [IsI (X.tdiv Y), IsI (tremI X Y), IsB (decide (Y ≠ 0))]), .val (IsI (X.tdiv Y)), .val (IsI (tremI X Y)), .val (IsB (decide (Y ≠ 0))), .box 25 2 (Zero2), .box 25 2 (Zero2)])
      (out := [(25, .val (IsI (X.tdiv Y))), (26, .val (IsI (tremI X Y))), (27, .val (IsB (decide (Y ≠ 0)))), (7, .box 25 2 (Zero2)), (8, .box 25 2 (Zero2)), (5, .box 25 2 (IsTw ngx nx xx)), (6, .box 25 2 (IsTw ngy ny xy)), (2, .box 25 2 (IsArg ngx nx xx)), (3, .box 25 2 (IsArg ngy ny xy)), (4, .val (IsB false))]) (nb := [7, 8]) H7 9 [9, 10, 11] rfl (by kernel_rfl) rfl rfl ?_ ?_
    · refine .cons (.plain rfl (ok_load tyI (.tmp 0 rfl))) ?_
      refine .cons (.plain rfl (ok_load tyI (.tmp 0 rfl))) ?_
      refine .cons (.plain rfl (ok_call (con_quo X Y) (.cons (.weak (.tmp 0 rfl) (weakTN (by omega) hX)) (.cons (.weak (.tmp 1 rfl) (weakTN (by omega) hY)) (.nil))))) ?_
      refine .cons (.plain rfl (ok_move (.tmp 0 rfl))) ?_
      refine .cons (.plain rfl (ok_extract 0 (.tmp 0 rfl) rfl)) ?_
      refine .cons (.plain rfl (ok_extract 1 (.tmp 0 rfl) rfl)) ?_
      refine .cons (.plain rfl (ok_extract 2 (.tmp 0 rfl) rfl)) ?_
      refine .cons (.plain rfl (ok_alloc (D := Zero2) zeroI rfl (fun _ _ => rfl))) ?_
      refine .cons (.plain rfl (ok_alloc (D := Zero2) zeroI rfl (fun _ _ => rfl))) ?_
      exact .nil
    clear H7 a5 w7 B5
    intro a8 w8 B8 H8
    simp only [List.cons_append, List.nil_append] at H8
    refine ops_one ?_
    refine store_op (l' := [(25, .val (IsI (X.tdiv Y))), (26, .val (IsI (tremI X Y))), (27, .val (IsB (decide (Y ≠ 0)))), (7, .box 25 2 (IsI (X.tdiv Y))), (8, .box 25 2 (Zero2)), (5, .box 25 2 (IsTw ngx nx xx)), (6, .box 25 2 (IsTw ngy ny xy)), (2, .box 25 2 (IsArg ngx nx xx)), (3, .box 25 2 (IsArg ngy ny xy)), (4, .val (IsB false))]) 3 H8 rfl tyI rfl (.tmp 0 rfl) shape_Z shape_I rfl rfl ?_
    clear H8 w8
    intro w9 H9
    refine ops_one ?_
    refine store_op (l' := [(25, .val (IsI (X.tdiv Y))), (26, .val (IsI (tremI X Y))), (27, .val (IsB (decide (Y ≠ 0)))), (7, .box 25 2 (IsI (X.tdiv Y))), (8, .box 25 2 (IsI (tremI X Y))), (5, .box 25 2 (IsTw ngx nx xx)), (6, .box 25 2 (IsTw ngy ny xy)), (2, .box 25 2 (IsArg ngx nx xx)), (3, .box 25 2 (IsArg ngy ny xy)), (4, .val (IsB false))]) 4 H9 rfl tyI rfl (.tmp 1 rfl) shape_Z shape_I rfl rfl ?_
    clear H9 w9
    intro w10 H10
    refine ops_one ?_
    refine tail_op (D := .val (IsB (decide (Y ≠ 0)))) (l' := [(9, .val (IsB (decide (Y ≠ 0)))), (25, .val (IsI (X.tdiv Y))), (26, .val (IsI (tremI X Y))), (27, .val (IsB (decide (Y ≠ 0)))), (7, .box 25 2 (IsI (X.tdiv Y))), (8, .box 25 2 (IsI (tremI X Y))), (5, .box 25 2 (IsTw ngx nx xx)), (6, .box 25 2 (IsTw ngy ny xy)), (2, .box 25 2 (IsArg ngx nx xx)), (3, .box 25 2 (IsArg ngy ny xy)), (4, .val (IsB false))]) H10 rfl rfl rfl (.plain rfl (ok_assign (.tmp 2 rfl))) rfl rfl ?_
    clear H10 a8 w10 B8
    intro a11 w11 B11 H11
    refine ops_done ?_
    refine then_normal ?_
    refine wp_seq ?_
    refine flow_region (dsts := [some 29, some 30, some 31, some 28, some 32, some 33, some 34, some 10, some 11]) (refs := [[.pre 8], [.pre 9], [.res 0, .res 1], [.res 2], [.res 3], [.res 3], [.res 3], [], []]) (outs := [.res 4, .res 5, .res 6, .res 7, .res 8, .pre 0, .pre 4, .pre 5, .pre 6, .pre 7, .pre 8, .pre 9, .pre 10]) (als := [false, false, false, false, false, false, false, true, true]) (posts := [.val (IsArg ngx nx xx), .val (IsArg ngy ny xy), .val (Tup [IsI (X.tdiv Y), IsI (tremI X Y), IsB (decide (Y ≠ 0))]), .val (Tup [IsI (X.tdiv Y), IsI (tremI X Y), IsB (decide (Y ≠ 0))]), .val (IsI (X.tdiv Y)), .val (IsI (tremI X Y)), .val (IsB (decide (Y ≠ 0))), .box 25 2 (Zero2), .box 25 2 (Zero2)])
      (out := [(32, .val (IsI (X.tdiv Y))), (33, .val (IsI (tremI X Y))), (34, .val (IsB (decide (Y ≠ 0)))), (10, .box 25 2 (Zero2)), (11, .box 25 2 (Zero2)), (9, .val (IsB (decide (Y ≠ 0)))), (7, .box 25 2 (IsI (X.tdiv Y))), (8, .box 25 2 (IsI (tremI X Y))), (5, .box 25 2 (IsTw ngx nx xx)), (6, .box 25 2 (IsTw ngy ny xy)), (2, .box 25 2 (IsArg ngx nx xx)), (3, .box 25 2 (IsArg ngy ny xy)), (4, .val (IsB false))]) (nb := [10, 11]) H11 9 [9, 10, 11] rfl (by kernel_rfl) rfl rfl ?_ ?_
    · refine .cons (.plain rfl (ok_load tyI (.tmp 0 rfl))) ?_
      refine .cons (.plain rfl (ok_load tyI (.tmp 0 rfl))) ?_
      refine .cons (.plain rfl (ok_call (con_r3quo X Y fX fY (by omega) (by omega)) (.cons (.weak (.tmp 0 rfl) (weakAN (by omega) hX)) (.cons (.weak (.tmp 1 rfl) (weakAN (by omega) hY)) (.nil))))) ?_
      refine .cons (.plain rfl (ok_move (.tmp 0 rfl))) ?_
      refine .cons (.plain rfl (ok_extract 0 (.tmp 0 rfl) rfl)) ?_
      refine .cons (.plain rfl (ok_extract 1 (.tmp 0 rfl) rfl)) ?_
      refine .cons (.plain rfl (ok_extract 2 (.tmp 0 rfl) rfl)) ?_
      refine .cons (.plain rfl (ok_alloc (D := Zero2) zeroI rfl (fun _ _ => rfl))) ?_
      refine .cons (.plain rfl (ok_alloc (D := Zero2) zeroI rfl (fun _ _ => rfl))) ?_
      exact .nil
    clear H11 a11 w11 B11
    intro a12 w12 B12 H12
    simp only [List.cons_append, List.nil_append] at H12
    refine ops_one ?_
    refine store_op (l' := [(32, .val (IsI (X.tdiv Y))), (33, .val (IsI (tremI X Y))), (34, .val (IsB (decide (Y ≠ 0)))), (10, .box 25 2 (IsI (X.tdiv Y))), (11, .box 25 2 (Zero2)), (9, .val (IsB (decide (Y ≠ 0)))), (7, .box 25 2 (IsI (X.tdiv Y))), (8, .box 25 2 (IsI (tremI X Y))), (5, .box 25 2 (IsTw ngx nx xx)), (6, .box 25 2 (IsTw ngy ny xy)), (2, .box 25 2 (IsArg ngx nx xx)), (3, .box 25 2 (IsArg ngy ny xy)), (4, .val (IsB false))]) 3 H12 rfl tyI rfl (.tmp 0 rfl) shape_Z shape_I rfl rfl ?_
    clear H12 w12
    intro w13 H13
    refine ops_one ?_
    refine store_op (l' := [(32, .val (IsI (X.tdiv Y))), (33, .val (IsI (tremI X Y))), (34, .val (IsB (decide (Y ≠ 0)))), (10, .box 25 2 (IsI (X.tdiv Y))), (11, .box 25 2 (IsI (tremI X Y))), (9, .val (IsB (decide (Y ≠ 0)))), (7, .box 25 2 (IsI (X.tdiv Y))), (8, .box 25 2 (IsI (tremI X Y))), (5, .box 25 2 (IsTw ngx nx xx)), (6, .box 25 2 (IsTw ngy ny xy)), (2, .box 25 2 (IsArg ngx nx xx)), (3, .box 25 2 (IsArg ngy ny xy)), (4, .val (IsB false))]) 4 H13 rfl tyI rfl (.tmp 1 rfl) shape_Z shape_I rfl rfl ?_
    clear H13 w13
    intro w14 H14
    refine ops_one ?_
    refine tail_op (D := .val (IsB (decide (Y ≠ 0)))) (l' := [(12, .val (IsB (decide (Y ≠ 0)))), (32, .val (IsI (X.tdiv Y))), (33, .val (IsI (tremI X Y))), (34, .val (IsB (decide (Y ≠ 0)))), (10, .box 25 2 (IsI (X.tdiv Y))), (11, .box 25 2 (IsI (tremI X Y))), (9, .val (IsB (decide (Y ≠ 0)))), (7, .box 25 2 (IsI (X.tdiv Y))), (8, .box 25 2 (IsI (tremI X Y))), (5, .box 25 2 (IsTw ngx nx xx)), (6, .box 25 2 (IsTw ngy ny xy)), (2, .box 25 2 (IsArg ngx nx xx)), (3, .box 25 2 (IsArg ngy ny xy)), (4, .val (IsB false))]) H14 rfl rfl rfl (.plain rfl (ok_assign (.tmp 2 rfl))) rfl rfl ?_
    clear H14 a12 w14 B12
    intro a15 w15 B15 H15
    refine ops_done ?_
    refine then_normal ?_
    refine wp_seq ?_
    refine flow_region (dsts := [some 35, some 36, some 37, some 38, some 39, some 40, some 41, some 42, some 43, some 44, some 45, some 46, some 47, some 48, some 49, some 50, some 51, some 52, some 53, some 54, some 55, some 56, some 57, some 58, some 59, some 60, some 4]) (refs := [[.pre 6], [.pre 0], [.res 0, .res 1], [.res 2], [.res 3, .pre 7], [.res 3, .pre 4], [.res 3, .res 4, .res 5], [.res 3, .res 6], [.res 7], [.res 8, .pre 8], [.res 8, .pre 5], [.res 8, .res 9, .res 10], [.res 8, .res 11], [.res 12], [.res 13, .pre 9], [.res 13, .pre 11], [.res 13, .res 14, .res 15], [.res 13, .res 16], [.res 17], [.res 18, .pre 10], [.res 18, .pre 12], [.res 18, .res 19, .res 20], [.res 18, .res 21], [.res 22], [.res 23], [.res 23, .res 24], [.res 25]]) (outs := [.res 26]) (als := [false, false, false, false, false, false, false, false, false, false, false, false, false, false, false, false, false, false, false, false, false, false, false, false, false, false, false]) (posts := [.val (IsB (decide (Y ≠ 0))), .val (IsB (decide (Y ≠ 0))), .val (IsB true), .val (IsB true), .val (IsI (X.tdiv Y)), .val (IsI (X.tdiv Y)), .val (IsB true), .val (IsB true), .val (IsB true), .val (IsI (tremI X Y)), .val (IsI (tremI X Y)), .val (IsB true), .val (IsB true), .val (IsB true), .val (IsTw ngx nx xx), .val (IsArg ngx nx xx), .val (IsB true), .val (IsB true), .val (IsB true), .val (IsTw ngy ny xy), .val (IsArg ngy ny xy), .val (IsB true), .val (IsB true), .val (IsB true), .val (IsB true), .val (IsB true), .val (IsB true)])
      (out := [(4, .val (IsB true))]) (nb := []) H15 27 [] rfl (by kernel_rfl) rfl rfl ?_ ?_
    · refine .cons (.plain rfl (ok_move (.tmp 0 rfl))) ?_
      refine .cons (.plain rfl (ok_move (.tmp 0 rfl))) ?_
      refine .cons (.plain rfl (OpOk.eqB (b := (decide (Y ≠ 0)) == (decide (Y ≠ 0))) (ok_eqB Try.underlying4 (.tmp 0 rfl) (.tmp 1 rfl)) (beq_self_eq_true _))) ?_
      refine .cons (.plain rfl (ok_move (.tmp 0 rfl))) ?_
      refine .cons (.wanted 3 true rfl rfl rfl 0 rfl (ok_load tyI (.tmp 1 rfl))) ?_
      refine .cons (.wanted 3 true rfl rfl rfl 0 rfl (ok_load tyI (.tmp 1 rfl))) ?_
      refine .cons (.wanted 3 true rfl rfl rfl 0 rfl (ok_call (con_sameT (X := (X.tdiv Y)) rfl) (.cons (.tmp 1 rfl) (.cons (.tmp 2 rfl) (.nil))))) ?_
      refine .cons (.plain rfl (ok_pickT (.tmp 0 rfl) (.tmp 1 rfl))) ?_
      refine .cons (.plain rfl (ok_move (.tmp 0 rfl))) ?_
      refine .cons (.wanted 8 true rfl rfl rfl 0 rfl (ok_load tyI (.tmp 1 rfl))) ?_
      refine .cons (.wanted 8 true rfl rfl rfl 0 rfl (ok_load tyI (.tmp 1 rfl))) ?_
      refine .cons (.wanted 8 true rfl rfl rfl 0 rfl (ok_call (con_sameT (X := (tremI X Y)) rfl) (.cons (.tmp 1 rfl) (.cons (.tmp 2 rfl) (.nil))))) ?_
      refine .cons (.plain rfl (ok_pickT (.tmp 0 rfl) (.tmp 1 rfl))) ?_
      refine .cons (.plain rfl (ok_move (.tmp 0 rfl))) ?_
      refine .cons (.wanted 13 true rfl rfl rfl 0 rfl (ok_load tyI (.tmp 1 rfl))) ?_
      refine .cons (.wanted 13 true rfl rfl rfl 0 rfl (ok_load tyI (.tmp 1 rfl))) ?_
      refine .cons (.wanted 13 true rfl rfl rfl 0 rfl (ok_call (con_left ngx nx xx (by omega)) (.cons (.tmp 1 rfl) (.cons (.tmp 2 rfl) (.nil))))) ?_
      refine .cons (.plain rfl (ok_pickT (.tmp 0 rfl) (.tmp 1 rfl))) ?_
      refine .cons (.plain rfl (ok_move (.tmp 0 rfl))) ?_
      refine .cons (.wanted 18 true rfl rfl rfl 0 rfl (ok_load tyI (.tmp 1 rfl))) ?_
      refine .cons (.wanted 18 true rfl rfl rfl 0 rfl (ok_load tyI (.tmp 1 rfl))) ?_
      refine .cons (.wanted 18 true rfl rfl rfl 0 rfl (ok_call (con_left ngy ny xy (by omega)) (.cons (.tmp 1 rfl) (.cons (.tmp 2 rfl) (.nil))))) ?_
      refine .cons (.plain rfl (ok_pickT (.tmp 0 rfl) (.tmp 1 rfl))) ?_
      refine .cons (.plain rfl (ok_move (.tmp 0 rfl))) ?_
      refine .cons (.wanted 23 true rfl rfl rfl 0 rfl (ok_call (con_lives3) (.nil))) ?_
      refine .cons (.plain rfl (ok_pickT (.tmp 0 rfl) (.tmp 1 rfl))) ?_
      refine .cons (.plain rfl (ok_assign (.tmp 0 rfl))) ?_
      exact .nil
    clear H15 a15 w15 B15
    intro a16 w16 B16 H16
    refine ops_done ?_
    refine then_normal ?_
    refine wp_ret ?_
    exact f_ret H16 rfl 0 rfl (fun _ _ _ h => h)

theorem walk_WholeQuotients (w : World) (ngx : Bool) (adx : Option Addr) (nx cx : Nat) (xx : List Int) (fx : Arg w adx nx cx xx) (yx : nx * 4 ≤ 140737488351232) (ngy : Bool) (ady : Option Addr) (ny cy : Nat) (xy : List Int) (fy : Arg w ady ny cy xy) (yy : ny * 4 ≤ 140737488351232) :
    Calls Try.prog 3 #[.agg #[.bool ngx, .slice adx nx cx], .agg #[.bool ngy, .slice ady ny cy]] w (fun e w' => e = .returned (.bool true) ∧ Below w.heap.size w w') := by
  refine ((con_WholeQuotients ngx nx xx yx ngy ny xy yy).calls [.agg #[.bool ngx, .slice adx nx cx], .agg #[.bool ngy, .slice ady ny cy]] w (fun _ => False) (fun _ h => h.elim) ⟨⟨adx, cx, rfl, fx⟩, ⟨ady, cy, rfl, fy⟩, trivial⟩).mono ?_
  rintro e w' ⟨v, rfl, h, hb⟩
  obtain rfl := h
  exact ⟨rfl, hb⟩
end Go.Proofs.Ytgnophflogmmaaa
