/- The law WholeSums: its walk. -/
import Derived.Test.YtgnophflogmmaaaPk23
import Derived.Test.YtgnophflogmmaaaPk26
import Derived.Test.YtgnophflogmmaaaPk27
set_option linter.unusedVariables false
set_option linter.unusedSimpArgs false
/- The law WholeSums: its walk by what the slots hold. (Printed by flow03.py.) -/
namespace Go.Proofs.Ytgnophflogmmaaa
open Go Go.RowKit


set_option maxRecDepth 20000 in
set_option maxHeartbeats 4000000 in
theorem con_WholeSums (ngx : Bool) (nx : Nat) (xx : List Int) (yx : nx * 4 ≤ 140737488351232) (ngy : Bool) (ny : Nat) (xy : List Int) (yy : ny * 4 ≤ 140737488351232) : Con Try.prog 9 [IsArg ngx nx xx, IsArg ngy ny xy] (IsB true) := by
  refine f_enter (N := 88) Try.ntmps9 (fun _ _ => by go_simp) Try.func9 rfl (by simp) ?_
  intro a0 w0 B0 H0
  replace H0 : St 88 w0 B0 a0 w0 B0 [(0, .val (IsArg ngx nx xx)), (1, .val (IsArg ngy ny xy))] [] := H0
  obtain ⟨X, hX⟩ : ∃ X, sI ngx (val 4294967296 xx) = X := ⟨_, rfl⟩
  have fX : FitK nx X := PArg.fit hX (H0.fc.get 0 rfl)
  obtain ⟨Y, hY⟩ : ∃ X, sI ngy (val 4294967296 xy) = X := ⟨_, rfl⟩
  have fY : FitK ny Y := PArg.fit hY (H0.fc.get 1 rfl)
  refine wp_seq ?_
  refine flow_region (dsts := [some 2, some 3, some 4]) (refs := [[.pre 0], [.pre 1], []]) (outs := [.res 0, .res 1, .res 2]) (als := [true, true, false]) (posts := [.box 25 2 (IsArg ngx nx xx), .box 25 2 (IsArg ngy ny xy), .val (IsB false)])
    (out := [(2, .box 25 2 (IsArg ngx nx xx)), (3, .box 25 2 (IsArg ngy ny xy)), (4, .val (IsB false))]) (nb := [2, 3]) H0 3 [] rfl (by kernel_rfl) rfl rfl ?_ ?_
  · refine .cons (.plain rfl (ok_box (.tmp 0 rfl) shape_Arg.two)) ?_
    refine .cons (.plain rfl (ok_box (.tmp 0 rfl) shape_Arg.two)) ?_
    refine .cons (.plain rfl (ok_assign (.lit))) ?_
    exact .nil
  clear H0
  intro a1 w1 B1 H1
  simp only [List.cons_append, List.nil_append] at H1
  refine ops_done ?_
  refine then_normal ?_
  refine wp_seq ?_
  refine wp_seq ?_
  refine flow_region (dsts := [some 7, some 8, some 9, some 10]) (refs := [[.pre 0], [.pre 1], [.res 0, .res 1], [.res 2]]) (outs := [.res 3, .pre 0, .pre 1, .pre 2]) (als := [false, false, false, false]) (posts := [.val (IsArg ngx nx xx), .val (IsArg ngy ny xy), .val (IsInts [nx, ny]), .val (IsIf True (∀ j : Nat, [nx, ny][j]?.getD 0 ≤ 1048576))])
    (out := [(10, .val (IsIf True (∀ j : Nat, [nx, ny][j]?.getD 0 ≤ 1048576))), (2, .box 25 2 (IsArg ngx nx xx)), (3, .box 25 2 (IsArg ngy ny xy)), (4, .val (IsB false))]) (nb := []) H1 4 [] rfl (by kernel_rfl) rfl rfl ?_ ?_
  · refine .cons (.plain rfl (ok_load tyI (.tmp 0 rfl))) ?_
    refine .cons (.plain rfl (ok_load tyI (.tmp 0 rfl))) ?_
    refine .cons (.plain rfl (ok_ints2 (.tmp 0 rfl) (.tmp 1 rfl))) ?_
    refine .cons (.plain rfl (ok_call (con_beyond [nx, ny] (by simp) (fun j => by rcases j with _ | _ | _ <;> simp <;> omega)) (.cons (.tmp 0 rfl) (.nil)))) ?_
    exact .nil
  clear H1 a1 w1 B1
  intro a2 w2 B2 H2
  refine ops_done ?_
  refine then_normal ?_
  refine f_condI H2 (.tmp 0 rfl) ?_ ?_
  · intro hc3
    refine wp_seq ?_
    refine flow_region (dsts := [some 4]) (refs := [[]]) (outs := [.res 0, .pre 1, .pre 2]) (als := [false]) (posts := [.val (IsB true)])
      (out := [(4, .val (IsB true)), (2, .box 25 2 (IsArg ngx nx xx)), (3, .box 25 2 (IsArg ngy ny xy))]) (nb := []) H2 1 [] rfl (by kernel_rfl) rfl rfl ?_ ?_
    · refine .cons (.plain rfl (ok_assign (.lit))) ?_
      exact .nil
    clear H2 a2 w2 B2
    intro a4 w4 B4 H4
    refine ops_done ?_
    refine then_normal ?_
    refine wp_ret ?_
    refine then_ret ?_
    exact f_ret H4 rfl 0 rfl (fun _ _ _ h => h)
  · intro hc3
    have lx : nx ≤ 1048576 := hc3 0
    have ly : ny ≤ 1048576 := hc3 1
    clear hc3
    refine wp_skip ?_
    refine then_normal ?_
    refine wp_seq ?_
    refine flow_drawT (dsts := [some 11, some 12, some 13, some 14, some 5, some 6]) (refs := [[.pre 1], [.res 0], [.pre 2], [.res 2], [], []]) (outs := [.res 1, .res 3, .res 4, .res 5, .pre 1, .pre 2, .pre 3]) (als := [false, false, false, false, true, true]) (posts := [.val (IsArg ngx nx xx), .val (IsTw ngx nx xx), .val (IsArg ngy ny xy), .val (IsTw ngy ny xy), .box 25 2 (Zero2), .box 25 2 (Zero2)])
      (out := [(12, .val (IsTw ngx nx xx)), (14, .val (IsTw ngy ny xy)), (5, .box 25 2 (Zero2)), (6, .box 25 2 (Zero2)), (2, .box 25 2 (IsArg ngx nx xx)), (3, .box 25 2 (IsArg ngy ny xy)), (4, .val (IsB false))]) (nb := [5, 6]) H2 (by kernel_rfl) 6 2 #[true, true, true, true, true, true, false, false] (by kernel_rfl) (by kernel_rfl) rfl rfl ?_ ?_
    · refine .cons (.plain rfl (ok_load tyI (.tmp 0 rfl))) ?_
      refine .cons (.plain rfl (ok_call (con_twinInt ngx nx xx (by omega)) (.cons (.tmp 0 rfl) (.nil)))) ?_
      refine .cons (.plain rfl (ok_load tyI (.tmp 0 rfl))) ?_
      refine .cons (.plain rfl (ok_call (con_twinInt ngy ny xy (by omega)) (.cons (.tmp 0 rfl) (.nil)))) ?_
      refine .cons (.plain rfl (ok_alloc (D := Zero2) zeroI rfl (fun _ _ => rfl))) ?_
      refine .cons (.plain rfl (ok_alloc (D := Zero2) zeroI rfl (fun _ _ => rfl))) ?_
      exact .nil
    clear H2 a2 w2 B2
    intro a5 w5 B5 H5
    simp only [List.cons_append, List.nil_append] at H5
    refine any_oneT (l' := #[true, true, true, true, true, true, true, false]) 6 (by kernel_rfl) ?_
    refine store_op (l' := [(12, .val (IsTw ngx nx xx)), (14, .val (IsTw ngy ny xy)), (5, .box 25 2 (IsTw ngx nx xx)), (6, .box 25 2 (Zero2)), (2, .box 25 2 (IsArg ngx nx xx)), (3, .box 25 2 (IsArg ngy ny xy)), (4, .val (IsB false))]) 2 H5 rfl tyI rfl (.tmp 0 rfl) shape_Z shape_Tw rfl rfl ?_
    clear H5 w5
    intro w6 H6
    refine any_oneT (l' := #[true, true, true, true, true, true, true, true]) 7 (by kernel_rfl) ?_
    refine store_op (l' := [(12, .val (IsTw ngx nx xx)), (14, .val (IsTw ngy ny xy)), (5, .box 25 2 (IsTw ngx nx xx)), (6, .box 25 2 (IsTw ngy ny xy)), (2, .box 25 2 (IsArg ngx nx xx)), (3, .box 25 2 (IsArg ngy ny xy)), (4, .val (IsB false))]) 3 H6 rfl tyI rfl (.tmp 1 rfl) shape_Z shape_Tw rfl rfl ?_
    clear H6 w6
    intro w7 H7
    refine any_done (by kernel_rfl) ?_
    refine then_normal ?_
    refine wp_seq ?_
    refine wp_seq ?_
    refine flow_drawT (dsts := [some 15, some 16, some 17, some 18, some 19, some 20, some 21, some 22, some 23, some 24, some 25, some 26, some 27, some 28, some 29, some 30, some 31, some 32, some 33, some 34, some 35, some 36, some 37, some 38]) (refs := [[.pre 2], [.pre 3], [.res 0, .res 1], [.pre 4], [.pre 5], [.res 3, .res 4], [.res 2, .res 5], [.res 6], [.res 7, .pre 3], [.res 7, .pre 2], [.res 7, .res 8, .res 9], [.res 7, .pre 5], [.res 7, .pre 4], [.res 7, .res 11, .res 12], [.res 7, .res 10, .res 13], [.res 7, .res 14], [.res 15], [.res 16, .pre 2], [.res 16, .res 17], [.res 16, .pre 4], [.res 16, .res 19], [.res 16, .res 18, .res 20], [.res 16, .res 21], [.res 16, .res 22]]) (outs := [.res 23, .pre 2, .pre 3, .pre 4, .pre 5, .pre 6]) (als := [false, false, false, false, false, false, false, false, false, false, false, false, false, false, false, false, false, false, false, false, false, false, false, false]) (posts := [.val (IsTw ngx nx xx), .val (IsTw ngy ny xy), .val (Lit (.int .i64 (cmpI X Y))), .val (IsArg ngx nx xx), .val (IsArg ngy ny xy), .val (Lit (.int .i64 (cmpI X Y))), .val (IsB false), .val (IsB false), .val (IsTw ngy ny xy), .val (IsTw ngx nx xx), .val (Lit (.int .i64 (cmpI Y X))), .val (IsArg ngy ny xy), .val (IsArg ngx nx xx), .val (Lit (.int .i64 (cmpI Y X))), .val (IsB false), .val (IsB false), .val (IsB false), .val (IsTw ngx nx xx), .val (IsI (-X)), .val (IsArg ngx nx xx), .val (IsI (-X)), .val (IsB true), .val (IsB false), .val (IsB false)])
      (out := [(38, .val (IsB false)), (5, .box 25 2 (IsTw ngx nx xx)), (6, .box 25 2 (IsTw ngy ny xy)), (2, .box 25 2 (IsArg ngx nx xx)), (3, .box 25 2 (IsArg ngy ny xy)), (4, .val (IsB false))]) (nb := []) H7 (by kernel_rfl) 24 0 #[true, true, true, true, true, true, true, true, true, true, true, true, true, true, true, true, true, true, true, true, true, true, true, true] (by kernel_rfl) (by kernel_rfl) rfl rfl ?_ ?_
    · refine .cons (.plain rfl (ok_load tyI (.tmp 0 rfl))) ?_
      refine .cons (.plain rfl (ok_load tyI (.tmp 0 rfl))) ?_
      refine .cons (.plain rfl (ok_call (con_cmp X Y) (.cons (.weak (.tmp 0 rfl) (weakTN (by omega) hX)) (.cons (.weak (.tmp 1 rfl) (weakTN (by omega) hY)) (.nil))))) ?_
      refine .cons (.plain rfl (ok_load tyI (.tmp 0 rfl))) ?_
      refine .cons (.plain rfl (ok_load tyI (.tmp 0 rfl))) ?_
      refine .cons (.plain rfl (ok_call (con_r3cmp X Y) (.cons (.weak (.tmp 0 rfl) (weakAN (by omega) hX)) (.cons (.weak (.tmp 1 rfl) (weakAN (by omega) hY)) (.nil))))) ?_
      refine .cons (.plain rfl (ok_cmp (b := false) (.tmp 0 rfl) (.tmp 1 rfl) ((decide_eq_false (fun h => h rfl)).symm))) ?_
      refine .cons (.plain rfl (ok_move (.tmp 0 rfl))) ?_
      refine .cons (.wanted 7 false rfl rfl rfl 0 rfl (ok_load tyI (.tmp 1 rfl))) ?_
      refine .cons (.wanted 7 false rfl rfl rfl 0 rfl (ok_load tyI (.tmp 1 rfl))) ?_
      refine .cons (.wanted 7 false rfl rfl rfl 0 rfl (ok_call (con_cmp Y X) (.cons (.weak (.tmp 1 rfl) (weakTN (by omega) hY)) (.cons (.weak (.tmp 2 rfl) (weakTN (by omega) hX)) (.nil))))) ?_
      refine .cons (.wanted 7 false rfl rfl rfl 0 rfl (ok_load tyI (.tmp 1 rfl))) ?_
      refine .cons (.wanted 7 false rfl rfl rfl 0 rfl (ok_load tyI (.tmp 1 rfl))) ?_
      refine .cons (.wanted 7 false rfl rfl rfl 0 rfl (ok_call (con_r3cmp Y X) (.cons (.weak (.tmp 1 rfl) (weakAN (by omega) hY)) (.cons (.weak (.tmp 2 rfl) (weakAN (by omega) hX)) (.nil))))) ?_
      refine .cons (.wanted 7 false rfl rfl rfl 0 rfl (ok_cmp (b := false) (.tmp 1 rfl) (.tmp 2 rfl) ((decide_eq_false (fun h => h rfl)).symm))) ?_
      refine .cons (.plain rfl (ok_pickF (.tmp 0 rfl) (.tmp 1 rfl))) ?_
      refine .cons (.plain rfl (ok_move (.tmp 0 rfl))) ?_
      refine .cons (.wanted 16 false rfl rfl rfl 0 rfl (ok_load tyI (.tmp 1 rfl))) ?_
      refine .cons (.wanted 16 false rfl rfl rfl 0 rfl (ok_call (con_neg X) (.cons (.weak (.tmp 1 rfl) (weakTN (by omega) hX)) (.nil)))) ?_
      refine .cons (.wanted 16 false rfl rfl rfl 0 rfl (ok_load tyI (.tmp 1 rfl))) ?_
      refine .cons (.wanted 16 false rfl rfl rfl 0 rfl (ok_call (con_r3neg X) (.cons (.weak (.tmp 1 rfl) (weakAN (by omega) hX)) (.nil)))) ?_
      refine .cons (.wanted 16 false rfl rfl rfl 0 rfl (ok_call (con_sameT (X := (-X)) rfl) (.cons (.tmp 1 rfl) (.cons (.tmp 2 rfl) (.nil))))) ?_
      refine .cons (.wanted 16 false rfl rfl rfl 0 rfl (ok_not (b := true) (.tmp 1 rfl))) ?_
      refine .cons (.plain rfl (ok_pickF (.tmp 0 rfl) (.tmp 1 rfl))) ?_
      exact .nil
    clear H7 a5 w7 B5
    intro a8 w8 B8 H8
    refine any_done (by kernel_rfl) ?_
    refine then_normal ?_
    refine f_condF H8 (.tmp 0 rfl) ?_
    refine wp_skip ?_
    refine then_normal ?_
    refine wp_seq ?_
    refine wp_seq ?_
    refine flow_drawT (dsts := [some 39, some 40, some 41, some 42, some 43, some 44, some 45, some 46, some 47, some 48, some 49, some 50, some 51, some 52, some 53, some 54, some 55, some 56, some 57, some 58, some 59, some 60, some 61, some 62, some 63, some 64, some 65, some 66, some 67, some 68, some 69, some 70, some 71, some 72, some 73, some 74, some 75, some 76]) (refs := [[.pre 1], [.pre 2], [.res 0, .res 1], [.pre 3], [.pre 4], [.res 3, .res 4], [.res 2, .res 5], [.res 6], [.res 7], [.res 8, .pre 1], [.res 8, .pre 2], [.res 8, .res 9, .res 10], [.res 8, .pre 3], [.res 8, .pre 4], [.res 8, .res 12, .res 13], [.res 8, .res 11, .res 14], [.res 8, .res 15], [.res 8, .res 16], [.res 17], [.res 18, .pre 2], [.res 18, .pre 1], [.res 18, .res 19, .res 20], [.res 18, .pre 4], [.res 18, .pre 3], [.res 18, .res 22, .res 23], [.res 18, .res 21, .res 24], [.res 18, .res 25], [.res 18, .res 26], [.res 27], [.res 28, .pre 1], [.res 28, .pre 2], [.res 28, .res 29, .res 30], [.res 28, .pre 3], [.res 28, .pre 4], [.res 28, .res 32, .res 33], [.res 28, .res 31, .res 34], [.res 28, .res 35], [.res 28, .res 36]]) (outs := [.res 37, .pre 1, .pre 2, .pre 3, .pre 4, .pre 5]) (als := [false, false, false, false, false, false, false, false, false, false, false, false, false, false, false, false, false, false, false, false, false, false, false, false, false, false, false, false, false, false, false, false, false, false, false, false, false, false]) (posts := [.val (IsTw ngx nx xx), .val (IsTw ngy ny xy), .val (IsI (X + Y)), .val (IsArg ngx nx xx), .val (IsArg ngy ny xy), .val (IsI (X + Y)), .val (IsB true), .val (IsB false), .val (IsB false), .val (IsTw ngx nx xx), .val (IsTw ngy ny xy), .val (IsI (X - Y)), .val (IsArg ngx nx xx), .val (IsArg ngy ny xy), .val (IsI (X - Y)), .val (IsB true), .val (IsB false), .val (IsB false), .val (IsB false), .val (IsTw ngy ny xy), .val (IsTw ngx nx xx), .val (IsI (Y - X)), .val (IsArg ngy ny xy), .val (IsArg ngx nx xx), .val (IsI (Y - X)), .val (IsB true), .val (IsB false), .val (IsB false), .val (IsB false), .val (IsTw ngx nx xx), .val (IsTw ngy ny xy), .val (IsI (X * Y)), .val (IsArg ngx nx xx), .val (IsArg ngy ny xy), .val (IsI (X * Y)), .val (IsB true), .val (IsB false), .val (IsB false)])
      (out := [(76, .val (IsB false)), (5, .box 25 2 (IsTw ngx nx xx)), (6, .box 25 2 (IsTw ngy ny xy)), (2, .box 25 2 (IsArg ngx nx xx)), (3, .box 25 2 (IsArg ngy ny xy)), (4, .val (IsB false))]) (nb := []) H8 (by kernel_rfl) 38 0 #[true, true, true, true, true, true, true, true, true, true, true, true, true, true, true, true, true, true, true, true, true, true, true, true, true, true, true, true, true, true, true, true, true, true, true, true, true, true] (by kernel_rfl) (by kernel_rfl) rfl rfl ?_ ?_
    · refine .cons (.plain rfl (ok_load tyI (.tmp 0 rfl))) ?_
      refine .cons (.plain rfl (ok_load tyI (.tmp 0 rfl))) ?_
      refine .cons (.plain rfl (ok_call (con_add X Y (((fX.add fY)).fits (by omega))) (.cons (.weak (.tmp 0 rfl) (weakTN (by omega) hX)) (.cons (.weak (.tmp 1 rfl) (weakTN (by omega) hY)) (.nil))))) ?_
      refine .cons (.plain rfl (ok_load tyI (.tmp 0 rfl))) ?_
      refine .cons (.plain rfl (ok_load tyI (.tmp 0 rfl))) ?_
      refine .cons (.plain rfl (ok_call (con_r3add X Y fX fY (by omega)) (.cons (.weak (.tmp 0 rfl) (weakAN (by omega) hX)) (.cons (.weak (.tmp 1 rfl) (weakAN (by omega) hY)) (.nil))))) ?_
      refine .cons (.plain rfl (ok_call (con_sameT (X := (X + Y)) rfl) (.cons (.tmp 0 rfl) (.cons (.tmp 1 rfl) (.nil))))) ?_
      refine .cons (.plain rfl (ok_not (b := true) (.tmp 0 rfl))) ?_
      refine .cons (.plain rfl (ok_move (.tmp 0 rfl))) ?_
      refine .cons (.wanted 8 false rfl rfl rfl 0 rfl (ok_load tyI (.tmp 1 rfl))) ?_
      refine .cons (.wanted 8 false rfl rfl rfl 0 rfl (ok_load tyI (.tmp 1 rfl))) ?_
      refine .cons (.wanted 8 false rfl rfl rfl 0 rfl (ok_call (con_sub X Y (((fX.sub fY)).fits (by omega))) (.cons (.weak (.tmp 1 rfl) (weakTN (by omega) hX)) (.cons (.weak (.tmp 2 rfl) (weakTN (by omega) hY)) (.nil))))) ?_
      refine .cons (.wanted 8 false rfl rfl rfl 0 rfl (ok_load tyI (.tmp 1 rfl))) ?_
      refine .cons (.wanted 8 false rfl rfl rfl 0 rfl (ok_load tyI (.tmp 1 rfl))) ?_
      refine .cons (.wanted 8 false rfl rfl rfl 0 rfl (ok_call (con_r3sub X Y fX fY (by omega)) (.cons (.weak (.tmp 1 rfl) (weakAN (by omega) hX)) (.cons (.weak (.tmp 2 rfl) (weakAN (by omega) hY)) (.nil))))) ?_
      refine .cons (.wanted 8 false rfl rfl rfl 0 rfl (ok_call (con_sameT (X := (X - Y)) rfl) (.cons (.tmp 1 rfl) (.cons (.tmp 2 rfl) (.nil))))) ?_
      refine .cons (.wanted 8 false rfl rfl rfl 0 rfl (ok_not (b := true) (.tmp 1 rfl))) ?_
      refine .cons (.plain rfl (ok_pickF (.tmp 0 rfl) (.tmp 1 rfl))) ?_
      refine .cons (.plain rfl (ok_move (.tmp 0 rfl))) ?_
      refine .cons (.wanted 18 false rfl rfl rfl 0 rfl (ok_load tyI (.tmp 1 rfl))) ?_
      refine .cons (.wanted 18 false rfl rfl rfl 0 rfl (ok_load tyI (.tmp 1 rfl))) ?_
      refine .cons (.wanted 18 false rfl rfl rfl 0 rfl (ok_call (con_sub Y X (((fY.sub fX)).fits (by omega))) (.cons (.weak (.tmp 1 rfl) (weakTN (by omega) hY)) (.cons (.weak (.tmp 2 rfl) (weakTN (by omega) hX)) (.nil))))) ?_
      refine .cons (.wanted 18 false rfl rfl rfl 0 rfl (ok_load tyI (.tmp 1 rfl))) ?_
      refine .cons (.wanted 18 false rfl rfl rfl 0 rfl (ok_load tyI (.tmp 1 rfl))) ?_
      refine .cons (.wanted 18 false rfl rfl rfl 0 rfl (ok_call (con_r3sub Y X fY fX (by omega)) (.cons (.weak (.tmp 1 rfl) (weakAN (by omega) hY)) (.cons (.weak (.tmp 2 rfl) (weakAN (by omega) hX)) (.nil))))) ?_
      refine .cons (.wanted 18 false rfl rfl rfl 0 rfl (ok_call (con_sameT (X := (Y - X)) rfl) (.cons (.tmp 1 rfl) (.cons (.tmp 2 rfl) (.nil))))) ?_
      refine .cons (.wanted 18 false rfl rfl rfl 0 rfl (ok_not (b := true) (.tmp 1 rfl))) ?_
      refine .cons (.plain rfl (ok_pickF (.tmp 0 rfl) (.tmp 1 rfl))) ?_
      refine .cons (.plain rfl (ok_move (.tmp 0 rfl))) ?_
      refine .cons (.wanted 28 false rfl rfl rfl 0 rfl (ok_load tyI (.tmp 1 rfl))) ?_
      refine .cons (.wanted 28 false rfl rfl rfl 0 rfl (ok_load tyI (.tmp 1 rfl))) ?_
      refine .cons (.wanted 28 false rfl rfl rfl 0 rfl (ok_call (con_mul X Y (((fX.mul fY)).fits (by omega))) (.cons (.weak (.tmp 1 rfl) (weakTN (by omega) hX)) (.cons (.weak (.tmp 2 rfl) (weakTN (by omega) hY)) (.nil))))) ?_
      refine .cons (.wanted 28 false rfl rfl rfl 0 rfl (ok_load tyI (.tmp 1 rfl))) ?_
      refine .cons (.wanted 28 false rfl rfl rfl 0 rfl (ok_load tyI (.tmp 1 rfl))) ?_
      refine .cons (.wanted 28 false rfl rfl rfl 0 rfl (ok_call (con_r3mul X Y fX fY (by omega)) (.cons (.weak (.tmp 1 rfl) (weakAN (by omega) hX)) (.cons (.weak (.tmp 2 rfl) (weakAN (by omega) hY)) (.nil))))) ?_
      refine .cons (.wanted 28 false rfl rfl rfl 0 rfl (ok_call (con_sameT (X := (X * Y)) rfl) (.cons (.tmp 1 rfl) (.cons (.tmp 2 rfl) (.nil))))) ?_
      refine .cons (.wanted 28 false rfl rfl rfl 0 rfl (ok_not (b := true) (.tmp 1 rfl))) ?_
      refine .cons (.plain rfl (ok_pickF (.tmp 0 rfl) (.tmp 1 rfl))) ?_
      exact .nil
    clear H8 a8 w8 B8
    intro a9 w9 B9 H9
    refine any_done (by kernel_rfl) ?_
    refine then_normal ?_
    refine f_condF H9 (.tmp 0 rfl) ?_
    refine wp_skip ?_
    refine then_normal ?_
    refine wp_seq ?_
    refine flow_region (dsts := [some 77, some 78, some 79, some 80, some 81, some 82, some 83, some 84, some 85, some 86, some 87, some 4]) (refs := [[.pre 1], [.pre 3], [.res 0, .res 1], [.res 2], [.res 3, .pre 2], [.res 3, .pre 4], [.res 3, .res 4, .res 5], [.res 3, .res 6], [.res 7], [.res 8], [.res 8, .res 9], [.res 10]]) (outs := [.res 11]) (als := [false, false, false, false, false, false, false, false, false, false, false, false]) (posts := [.val (IsTw ngx nx xx), .val (IsArg ngx nx xx), .val (IsB true), .val (IsB true), .val (IsTw ngy ny xy), .val (IsArg ngy ny xy), .val (IsB true), .val (IsB true), .val (IsB true), .val (IsB true), .val (IsB true), .val (IsB true)])
      (out := [(4, .val (IsB true))]) (nb := []) H9 12 [] rfl (by kernel_rfl) rfl rfl ?_ ?_
    · refine .cons (.plain rfl (ok_load tyI (.tmp 0 rfl))) ?_
      refine .cons (.plain rfl (ok_load tyI (.tmp 0 rfl))) ?_
      refine .cons (.plain rfl (ok_call (con_left ngx nx xx (by omega)) (.cons (.tmp 0 rfl) (.cons (.tmp 1 rfl) (.nil))))) ?_
      refine .cons (.plain rfl (ok_move (.tmp 0 rfl))) ?_
      refine .cons (.wanted 3 true rfl rfl rfl 0 rfl (ok_load tyI (.tmp 1 rfl))) ?_
      refine .cons (.wanted 3 true rfl rfl rfl 0 rfl (ok_load tyI (.tmp 1 rfl))) ?_
      refine .cons (.wanted 3 true rfl rfl rfl 0 rfl (ok_call (con_left ngy ny xy (by omega)) (.cons (.tmp 1 rfl) (.cons (.tmp 2 rfl) (.nil))))) ?_
      refine .cons (.plain rfl (ok_pickT (.tmp 0 rfl) (.tmp 1 rfl))) ?_
      refine .cons (.plain rfl (ok_move (.tmp 0 rfl))) ?_
      refine .cons (.wanted 8 true rfl rfl rfl 0 rfl (ok_call (con_lives3) (.nil))) ?_
      refine .cons (.plain rfl (ok_pickT (.tmp 0 rfl) (.tmp 1 rfl))) ?_
      refine .cons (.plain rfl (ok_assign (.tmp 0 rfl))) ?_
      exact .nil
    clear H9 a9 w9 B9
    intro a10 w10 B10 H10
    refine ops_done ?_
    refine then_normal ?_
    refine wp_ret ?_
    exact f_ret H10 rfl 0 rfl (fun _ _ _ h => h)

theorem walk_WholeSums (w : World) (ngx : Bool) (adx : Option Addr) (nx cx : Nat) (xx : List Int) (fx : Arg w adx nx cx xx) (yx : nx * 4 ≤ 140737488351232) (ngy : Bool) (ady : Option Addr) (ny cy : Nat) (xy : List Int) (fy : Arg w ady ny cy xy) (yy : ny * 4 ≤ 140737488351232) :
    Calls Try.prog 9 #[.agg #[.bool ngx, .slice adx nx cx], .agg #[.bool ngy, .slice ady ny cy]] w (fun e w' => e = .returned (.bool true) ∧ Below w.heap.size w w') := by
  refine ((con_WholeSums ngx nx xx yx ngy ny xy yy).calls [.agg #[.bool ngx, .slice adx nx cx], .agg #[.bool ngy, .slice ady ny cy]] w (fun _ => False) (fun _ h => h.elim) ⟨⟨adx, cx, rfl, fx⟩, ⟨ady, cy, rfl, fy⟩, trivial⟩).mono ?_
  rintro e w' ⟨v, rfl, h, hb⟩
  obtain rfl := h
  exact ⟨rfl, hb⟩
end Go.Proofs.Ytgnophflogmmaaa
