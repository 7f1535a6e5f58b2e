/- The law WholeRing: its walk. -/
import Derived.Test.YtgnophflogmmaaaPk23
set_option linter.unusedVariables false
set_option linter.unusedSimpArgs false
/- The law WholeRing: its walk by what the slots hold. (Printed by flow03.py.) -/
namespace Go.Proofs.Ytgnophflogmmaaa
open Go Go.RowKit


set_option maxRecDepth 20000 in
set_option maxHeartbeats 4000000 in
theorem con_WholeRing (ngx : Bool) (nx : Nat) (xx : List Int) (yx : nx * 4 ≤ 140737488351232) (ngy : Bool) (ny : Nat) (xy : List Int) (yy : ny * 4 ≤ 140737488351232) (ngz : Bool) (nz : Nat) (xz : List Int) (yz : nz * 4 ≤ 140737488351232) : Con Try.prog 10 [IsArg ngx nx xx, IsArg ngy ny xy, IsArg ngz nz xz] (IsB true) := by
  refine f_enter (N := 162) Try.ntmps10 (fun _ _ => by go_simp) Try.func10 rfl (by simp) ?_
  intro a0 w0 B0 H0
  replace H0 : St 162 w0 B0 a0 w0 B0 [(0, .val (IsArg ngx nx xx)), (1, .val (IsArg ngy ny xy)), (2, .val (IsArg ngz nz xz))] [] := H0
  obtain ⟨X, hX⟩ : ∃ X, sI ngx (val 4294967296 xx) = X := ⟨_, rfl⟩
  have fX : FitK nx X := PArg.fit hX (H0.fc.get 0 rfl)
  obtain ⟨Y, hY⟩ : ∃ X, sI ngy (val 4294967296 xy) = X := ⟨_, rfl⟩
  have fY : FitK ny Y := PArg.fit hY (H0.fc.get 1 rfl)
  obtain ⟨Z, hZ⟩ : ∃ X, sI ngz (val 4294967296 xz) = X := ⟨_, rfl⟩
  have fZ : FitK nz Z := PArg.fit hZ (H0.fc.get 2 rfl)
  refine wp_seq ?_
  refine flow_region (dsts := [some 3, some 4, some 5, some 6]) (refs := [[.pre 0], [.pre 1], [.pre 2], []]) (outs := [.res 0, .res 1, .res 2, .res 3]) (als := [true, true, true, false]) (posts := [.box 25 2 (IsArg ngx nx xx), .box 25 2 (IsArg ngy ny xy), .box 25 2 (IsArg ngz nz xz), .val (IsB false)])
    (out := [(3, .box 25 2 (IsArg ngx nx xx)), (4, .box 25 2 (IsArg ngy ny xy)), (5, .box 25 2 (IsArg ngz nz xz)), (6, .val (IsB false))]) (nb := [3, 4, 5]) H0 4 [] rfl (by kernel_rfl) rfl rfl ?_ ?_
  · refine .cons (.plain rfl (ok_box (.tmp 0 rfl) shape_Arg.two)) ?_
    refine .cons (.plain rfl (ok_box (.tmp 0 rfl) shape_Arg.two)) ?_
    refine .cons (.plain rfl (ok_box (.tmp 0 rfl) shape_Arg.two)) ?_
    refine .cons (.plain rfl (ok_assign (.lit))) ?_
    exact .nil
  clear H0
  intro a1 w1 B1 H1
  simp only [List.cons_append, List.nil_append] at H1
  refine ops_done ?_
  refine then_normal ?_
  refine wp_seq ?_
  refine wp_seq ?_
  refine flow_region (dsts := [some 16, some 17, some 18, some 19, some 20]) (refs := [[.pre 0], [.pre 1], [.pre 2], [.res 0, .res 1, .res 2], [.res 3]]) (outs := [.res 4, .pre 0, .pre 1, .pre 2, .pre 3]) (als := [false, false, false, false, false]) (posts := [.val (IsArg ngx nx xx), .val (IsArg ngy ny xy), .val (IsArg ngz nz xz), .val (IsInts [nx, ny, nz]), .val (IsIf True (∀ j : Nat, [nx, ny, nz][j]?.getD 0 ≤ 1048576))])
    (out := [(20, .val (IsIf True (∀ j : Nat, [nx, ny, nz][j]?.getD 0 ≤ 1048576))), (3, .box 25 2 (IsArg ngx nx xx)), (4, .box 25 2 (IsArg ngy ny xy)), (5, .box 25 2 (IsArg ngz nz xz)), (6, .val (IsB false))]) (nb := []) H1 5 [] rfl (by kernel_rfl) rfl rfl ?_ ?_
  · refine .cons (.plain rfl (ok_load tyI (.tmp 0 rfl))) ?_
    refine .cons (.plain rfl (ok_load tyI (.tmp 0 rfl))) ?_
    refine .cons (.plain rfl (ok_load tyI (.tmp 0 rfl))) ?_
    refine .cons (.plain rfl (ok_ints3 (.tmp 0 rfl) (.tmp 1 rfl) (.tmp 2 rfl))) ?_
    refine .cons (.plain rfl (ok_call (con_beyond [nx, ny, nz] (by simp) (fun j => by rcases j with _ | _ | _ | _ <;> simp <;> omega)) (.cons (.tmp 0 rfl) (.nil)))) ?_
    exact .nil
  clear H1 a1 w1 B1
  intro a2 w2 B2 H2
  refine ops_done ?_
  refine then_normal ?_
  refine f_condI H2 (.tmp 0 rfl) ?_ ?_
  · intro hc3
    refine wp_seq ?_
    refine flow_region (dsts := [some 6]) (refs := [[]]) (outs := [.res 0, .pre 1, .pre 2, .pre 3]) (als := [false]) (posts := [.val (IsB true)])
      (out := [(6, .val (IsB true)), (3, .box 25 2 (IsArg ngx nx xx)), (4, .box 25 2 (IsArg ngy ny xy)), (5, .box 25 2 (IsArg ngz nz xz))]) (nb := []) H2 1 [] rfl (by kernel_rfl) rfl rfl ?_ ?_
    · refine .cons (.plain rfl (ok_assign (.lit))) ?_
      exact .nil
    clear H2 a2 w2 B2
    intro a4 w4 B4 H4
    refine ops_done ?_
    refine then_normal ?_
    refine wp_ret ?_
    refine then_ret ?_
    exact f_ret H4 rfl 0 rfl (fun _ _ _ h => h)
  · intro hc3
    have lx : nx ≤ 1048576 := hc3 0
    have ly : ny ≤ 1048576 := hc3 1
    have lz : nz ≤ 1048576 := hc3 2
    clear hc3
    refine wp_skip ?_
    refine then_normal ?_
    refine wp_seq ?_
    refine flow_drawT (dsts := [some 21, some 22, some 23, some 24, some 25, some 26, some 7, some 8, some 9]) (refs := [[.pre 1], [.res 0], [.pre 2], [.res 2], [.pre 3], [.res 4], [], [], []]) (outs := [.res 1, .res 3, .res 5, .res 6, .res 7, .res 8, .pre 4]) (als := [false, false, false, false, false, false, true, true, true]) (posts := [.val (IsArg ngx nx xx), .val (IsI X), .val (IsArg ngy ny xy), .val (IsI Y), .val (IsArg ngz nz xz), .val (IsI Z), .box 25 2 (Zero2), .box 25 2 (Zero2), .box 25 2 (Zero2)])
      (out := [(22, .val (IsI X)), (24, .val (IsI Y)), (26, .val (IsI Z)), (7, .box 25 2 (Zero2)), (8, .box 25 2 (Zero2)), (9, .box 25 2 (Zero2)), (6, .val (IsB false))]) (nb := [7, 8, 9]) H2 (by kernel_rfl) 9 3 #[true, true, true, true, true, true, true, true, true, false, false, false] (by kernel_rfl) (by kernel_rfl) rfl rfl ?_ ?_
    · refine .cons (.plain rfl (ok_load tyI (.tmp 0 rfl))) ?_
      refine .cons (.plain rfl (ok_call (con_norm X) (.cons (.weak (.tmp 0 rfl) (weakAN (by omega) hX)) (.nil)))) ?_
      refine .cons (.plain rfl (ok_load tyI (.tmp 0 rfl))) ?_
      refine .cons (.plain rfl (ok_call (con_norm Y) (.cons (.weak (.tmp 0 rfl) (weakAN (by omega) hY)) (.nil)))) ?_
      refine .cons (.plain rfl (ok_load tyI (.tmp 0 rfl))) ?_
      refine .cons (.plain rfl (ok_call (con_norm Z) (.cons (.weak (.tmp 0 rfl) (weakAN (by omega) hZ)) (.nil)))) ?_
      refine .cons (.plain rfl (ok_alloc (D := Zero2) zeroI rfl (fun _ _ => rfl))) ?_
      refine .cons (.plain rfl (ok_alloc (D := Zero2) zeroI rfl (fun _ _ => rfl))) ?_
      refine .cons (.plain rfl (ok_alloc (D := Zero2) zeroI rfl (fun _ _ => rfl))) ?_
      exact .nil
    clear H2 a2 w2 B2
    intro a5 w5 B5 H5
    simp only [List.cons_append, List.nil_append] at H5
    refine any_oneT (l' := #[true, true, true, true, true, true, true, true, true, true, false, false]) 9 (by kernel_rfl) ?_
    refine store_op (l' := [(22, .val (IsI X)), (24, .val (IsI Y)), (26, .val (IsI Z)), (7, .box 25 2 (IsI X)), (8, .box 25 2 (Zero2)), (9, .box 25 2 (Zero2)), (6, .val (IsB false))]) 3 H5 rfl tyI rfl (.tmp 0 rfl) shape_Z shape_I rfl rfl ?_
    clear H5 w5
    intro w6 H6
    refine any_oneT (l' := #[true, true, true, true, true, true, true, true, true, true, true, false]) 10 (by kernel_rfl) ?_
    refine store_op (l' := [(22, .val (IsI X)), (24, .val (IsI Y)), (26, .val (IsI Z)), (7, .box 25 2 (IsI X)), (8, .box 25 2 (IsI Y)), (9, .box 25 2 (Zero2)), (6, .val (IsB false))]) 4 H6 rfl tyI rfl (.tmp 1 rfl) shape_Z shape_I rfl rfl ?_
    clear H6 w6
    intro w7 H7
    refine any_oneT (l' := #[true, true, true, true, true, true, true, true, true, true, true, true]) 11 (by kernel_rfl) ?_
    refine store_op (l' := [(22, .val (IsI X)), (24, .val (IsI Y)), (26, .val (IsI Z)), (7, .box 25 2 (IsI X)), (8, .box 25 2 (IsI Y)), (9, .box 25 2 (IsI Z)), (6, .val (IsB false))]) 5 H7 rfl tyI rfl (.tmp 2 rfl) shape_Z shape_I rfl rfl ?_
    clear H7 w7
    intro w8 H8
    refine any_done (by kernel_rfl) ?_
    refine then_normal ?_
    refine wp_seq ?_
    refine flow_drawT (dsts := [some 27, some 28, some 29, some 30, some 31, some 32, some 10, some 11]) (refs := [[.pre 3], [.pre 4], [.res 0, .res 1], [.pre 4], [.pre 5], [.res 3, .res 4], [], []]) (outs := [.res 2, .res 5, .res 6, .res 7, .pre 3, .pre 4, .pre 5, .pre 6]) (als := [false, false, false, false, false, false, true, true]) (posts := [.val (IsI X), .val (IsI Y), .val (IsI (X + Y)), .val (IsI Y), .val (IsI Z), .val (IsI (Y + Z)), .box 25 2 (Zero2), .box 25 2 (Zero2)])
      (out := [(29, .val (IsI (X + Y))), (32, .val (IsI (Y + Z))), (10, .box 25 2 (Zero2)), (11, .box 25 2 (Zero2)), (7, .box 25 2 (IsI X)), (8, .box 25 2 (IsI Y)), (9, .box 25 2 (IsI Z)), (6, .val (IsB false))]) (nb := [10, 11]) H8 (by kernel_rfl) 8 2 #[true, true, true, true, true, true, true, true, false, false] (by kernel_rfl) (by kernel_rfl) rfl rfl ?_ ?_
    · refine .cons (.plain rfl (ok_load tyI (.tmp 0 rfl))) ?_
      refine .cons (.plain rfl (ok_load tyI (.tmp 0 rfl))) ?_
      refine .cons (.plain rfl (ok_call (con_add X Y (((fX.add fY)).fits (by omega))) (.cons (.weak (.tmp 0 rfl) weakIN) (.cons (.weak (.tmp 1 rfl) weakIN) (.nil))))) ?_
      refine .cons (.plain rfl (ok_load tyI (.tmp 0 rfl))) ?_
      refine .cons (.plain rfl (ok_load tyI (.tmp 0 rfl))) ?_
      refine .cons (.plain rfl (ok_call (con_add Y Z (((fY.add fZ)).fits (by omega))) (.cons (.weak (.tmp 0 rfl) weakIN) (.cons (.weak (.tmp 1 rfl) weakIN) (.nil))))) ?_
      refine .cons (.plain rfl (ok_alloc (D := Zero2) zeroI rfl (fun _ _ => rfl))) ?_
      refine .cons (.plain rfl (ok_alloc (D := Zero2) zeroI rfl (fun _ _ => rfl))) ?_
      exact .nil
    clear H8 a5 w8 B5
    intro a9 w9 B9 H9
    simp only [List.cons_append, List.nil_append] at H9
    refine any_oneT (l' := #[true, true, true, true, true, true, true, true, true, false]) 8 (by kernel_rfl) ?_
    refine store_op (l' := [(29, .val (IsI (X + Y))), (32, .val (IsI (Y + Z))), (10, .box 25 2 (IsI (X + Y))), (11, .box 25 2 (Zero2)), (7, .box 25 2 (IsI X)), (8, .box 25 2 (IsI Y)), (9, .box 25 2 (IsI Z)), (6, .val (IsB false))]) 2 H9 rfl tyI rfl (.tmp 0 rfl) shape_Z shape_I rfl rfl ?_
    clear H9 w9
    intro w10 H10
    refine any_oneT (l' := #[true, true, true, true, true, true, true, true, true, true]) 9 (by kernel_rfl) ?_
    refine store_op (l' := [(29, .val (IsI (X + Y))), (32, .val (IsI (Y + Z))), (10, .box 25 2 (IsI (X + Y))), (11, .box 25 2 (IsI (Y + Z))), (7, .box 25 2 (IsI X)), (8, .box 25 2 (IsI Y)), (9, .box 25 2 (IsI Z)), (6, .val (IsB false))]) 3 H10 rfl tyI rfl (.tmp 1 rfl) shape_Z shape_I rfl rfl ?_
    clear H10 w10
    intro w11 H11
    refine any_done (by kernel_rfl) ?_
    refine then_normal ?_
    refine wp_seq ?_
    refine flow_drawT (dsts := [some 33, some 34, some 35, some 36, some 37, some 38, some 12, some 13]) (refs := [[.pre 4], [.pre 5], [.res 0, .res 1], [.pre 5], [.pre 6], [.res 3, .res 4], [], []]) (outs := [.res 2, .res 5, .res 6, .res 7, .pre 2, .pre 3, .pre 4, .pre 5, .pre 6, .pre 7]) (als := [false, false, false, false, false, false, true, true]) (posts := [.val (IsI X), .val (IsI Y), .val (IsI (X * Y)), .val (IsI Y), .val (IsI Z), .val (IsI (Y * Z)), .box 25 2 (Zero2), .box 25 2 (Zero2)])
      (out := [(35, .val (IsI (X * Y))), (38, .val (IsI (Y * Z))), (12, .box 25 2 (Zero2)), (13, .box 25 2 (Zero2)), (10, .box 25 2 (IsI (X + Y))), (11, .box 25 2 (IsI (Y + Z))), (7, .box 25 2 (IsI X)), (8, .box 25 2 (IsI Y)), (9, .box 25 2 (IsI Z)), (6, .val (IsB false))]) (nb := [12, 13]) H11 (by kernel_rfl) 8 2 #[true, true, true, true, true, true, true, true, false, false] (by kernel_rfl) (by kernel_rfl) rfl rfl ?_ ?_
    · refine .cons (.plain rfl (ok_load tyI (.tmp 0 rfl))) ?_
      refine .cons (.plain rfl (ok_load tyI (.tmp 0 rfl))) ?_
      refine .cons (.plain rfl (ok_call (con_mul X Y (((fX.mul fY)).fits (by omega))) (.cons (.weak (.tmp 0 rfl) weakIN) (.cons (.weak (.tmp 1 rfl) weakIN) (.nil))))) ?_
      refine .cons (.plain rfl (ok_load tyI (.tmp 0 rfl))) ?_
      refine .cons (.plain rfl (ok_load tyI (.tmp 0 rfl))) ?_
      refine .cons (.plain rfl (ok_call (con_mul Y Z (((fY.mul fZ)).fits (by omega))) (.cons (.weak (.tmp 0 rfl) weakIN) (.cons (.weak (.tmp 1 rfl) weakIN) (.nil))))) ?_
      refine .cons (.plain rfl (ok_alloc (D := Zero2) zeroI rfl (fun _ _ => rfl))) ?_
      refine .cons (.plain rfl (ok_alloc (D := Zero2) zeroI rfl (fun _ _ => rfl))) ?_
      exact .nil
    clear H11 a9 w11 B9
    intro a12 w12 B12 H12
    simp only [List.cons_append, List.nil_append] at H12
    refine any_oneT (l' := #[true, true, true, true, true, true, true, true, true, false]) 8 (by kernel_rfl) ?_
    refine store_op (l' := [(35, .val (IsI (X * Y))), (38, .val (IsI (Y * Z))), (12, .box 25 2 (IsI (X * Y))), (13, .box 25 2 (Zero2)), (10, .box 25 2 (IsI (X + Y))), (11, .box 25 2 (IsI (Y + Z))), (7, .box 25 2 (IsI X)), (8, .box 25 2 (IsI Y)), (9, .box 25 2 (IsI Z)), (6, .val (IsB false))]) 2 H12 rfl tyI rfl (.tmp 0 rfl) shape_Z shape_I rfl rfl ?_
    clear H12 w12
    intro w13 H13
    refine any_oneT (l' := #[true, true, true, true, true, true, true, true, true, true]) 9 (by kernel_rfl) ?_
    refine store_op (l' := [(35, .val (IsI (X * Y))), (38, .val (IsI (Y * Z))), (12, .box 25 2 (IsI (X * Y))), (13, .box 25 2 (IsI (Y * Z))), (10, .box 25 2 (IsI (X + Y))), (11, .box 25 2 (IsI (Y + Z))), (7, .box 25 2 (IsI X)), (8, .box 25 2 (IsI Y)), (9, .box 25 2 (IsI Z)), (6, .val (IsB false))]) 3 H13 rfl tyI rfl (.tmp 1 rfl) shape_Z shape_I rfl rfl ?_
    clear H13 w13
    intro w14 H14
    refine any_done (by kernel_rfl) ?_
    refine then_normal ?_
    refine wp_seq ?_
    refine wp_seq ?_
    refine flow_drawT (dsts := [some 39, some 40, some 41, some 42, some 43, some 44, some 45, some 46, some 47, some 48, some 49, some 50, some 51, some 52, some 53, some 54, some 55, some 56, some 57, some 58, some 59, some 60, some 61, some 62, some 63, some 64, some 65, some 66, some 67, some 68, some 69]) (refs := [[.pre 6], [.res 0], [.res 1], [.res 2], [.res 3, .pre 4], [.res 3, .res 4], [.res 3, .res 5], [.res 3, .res 6], [.res 7], [.res 8, .pre 2], [.res 8, .res 9], [.res 8, .res 10], [.res 8, .res 11], [.res 12], [.res 13, .pre 4], [.res 13, .pre 7], [.res 13, .pre 6], [.res 13, .res 15, .res 16], [.res 13, .res 14, .res 17], [.res 13, .res 18], [.res 13, .res 19], [.res 20], [.res 21, .pre 4], [.res 21, .pre 8], [.res 21, .res 22, .res 23], [.res 21, .pre 6], [.res 21, .pre 5], [.res 21, .res 25, .res 26], [.res 21, .res 24, .res 27], [.res 21, .res 28], [.res 21, .res 29]]) (outs := [.res 30, .pre 2, .pre 3, .pre 4, .pre 5, .pre 6, .pre 7, .pre 8, .pre 9]) (als := [false, false, false, false, false, false, false, false, false, false, false, false, false, false, false, false, false, false, false, false, false, false, false, false, false, false, false, false, false, false, false]) (posts := [.val (IsI X), .val (IsB true), .val (IsB false), .val (IsB false), .val (IsI (X + Y)), .val (IsB true), .val (IsB false), .val (IsB false), .val (IsB false), .val (IsI (X * Y)), .val (IsB true), .val (IsB false), .val (IsB false), .val (IsB false), .val (IsI (X + Y)), .val (IsI Y), .val (IsI X), .val (IsI (Y + X)), .val (IsB true), .val (IsB false), .val (IsB false), .val (IsB false), .val (IsI (X + Y)), .val (IsI Z), .val (IsI ((X + Y) + Z)), .val (IsI X), .val (IsI (Y + Z)), .val (IsI (X + (Y + Z))), .val (IsB true), .val (IsB false), .val (IsB false)])
      (out := [(69, .val (IsB false)), (12, .box 25 2 (IsI (X * Y))), (13, .box 25 2 (IsI (Y * Z))), (10, .box 25 2 (IsI (X + Y))), (11, .box 25 2 (IsI (Y + Z))), (7, .box 25 2 (IsI X)), (8, .box 25 2 (IsI Y)), (9, .box 25 2 (IsI Z)), (6, .val (IsB false))]) (nb := []) H14 (by kernel_rfl) 31 0 #[true, true, true, true, true, true, true, true, true, true, true, true, true, true, true, true, true, true, true, true, true, true, true, true, true, true, true, true, true, true, true] (by kernel_rfl) (by kernel_rfl) rfl rfl ?_ ?_
    · refine .cons (.plain rfl (ok_load tyI (.tmp 0 rfl))) ?_
      refine .cons (.plain rfl (ok_call (con_normal X) (.cons (.tmp 0 rfl) (.nil)))) ?_
      refine .cons (.plain rfl (ok_not (b := true) (.tmp 0 rfl))) ?_
      refine .cons (.plain rfl (ok_move (.tmp 0 rfl))) ?_
      refine .cons (.wanted 3 false rfl rfl rfl 0 rfl (ok_load tyI (.tmp 1 rfl))) ?_
      refine .cons (.wanted 3 false rfl rfl rfl 0 rfl (ok_call (con_normal (X + Y)) (.cons (.tmp 1 rfl) (.nil)))) ?_
      refine .cons (.wanted 3 false rfl rfl rfl 0 rfl (ok_not (b := true) (.tmp 1 rfl))) ?_
      refine .cons (.plain rfl (ok_pickF (.tmp 0 rfl) (.tmp 1 rfl))) ?_
      refine .cons (.plain rfl (ok_move (.tmp 0 rfl))) ?_
      refine .cons (.wanted 8 false rfl rfl rfl 0 rfl (ok_load tyI (.tmp 1 rfl))) ?_
      refine .cons (.wanted 8 false rfl rfl rfl 0 rfl (ok_call (con_normal (X * Y)) (.cons (.tmp 1 rfl) (.nil)))) ?_
      refine .cons (.wanted 8 false rfl rfl rfl 0 rfl (ok_not (b := true) (.tmp 1 rfl))) ?_
      refine .cons (.plain rfl (ok_pickF (.tmp 0 rfl) (.tmp 1 rfl))) ?_
      refine .cons (.plain rfl (ok_move (.tmp 0 rfl))) ?_
      refine .cons (.wanted 13 false rfl rfl rfl 0 rfl (ok_load tyI (.tmp 1 rfl))) ?_
      refine .cons (.wanted 13 false rfl rfl rfl 0 rfl (ok_load tyI (.tmp 1 rfl))) ?_
      refine .cons (.wanted 13 false rfl rfl rfl 0 rfl (ok_load tyI (.tmp 1 rfl))) ?_
      refine .cons (.wanted 13 false rfl rfl rfl 0 rfl (ok_call (con_add Y X (((fY.add fX)).fits (by omega))) (.cons (.weak (.tmp 1 rfl) weakIN) (.cons (.weak (.tmp 2 rfl) weakIN) (.nil))))) ?_
      refine .cons (.wanted 13 false rfl rfl rfl 0 rfl (ok_call (con_sameT (X := (X + Y)) (Y := (Y + X)) (by first | rfl | omega | ac_rfl | exact Int.mul_add _ _ _)) (.cons (.tmp 1 rfl) (.cons (.tmp 2 rfl) (.nil))))) ?_
      refine .cons (.wanted 13 false rfl rfl rfl 0 rfl (ok_not (b := true) (.tmp 1 rfl))) ?_
      refine .cons (.plain rfl (ok_pickF (.tmp 0 rfl) (.tmp 1 rfl))) ?_
      refine .cons (.plain rfl (ok_move (.tmp 0 rfl))) ?_
      refine .cons (.wanted 21 false rfl rfl rfl 0 rfl (ok_load tyI (.tmp 1 rfl))) ?_
      refine .cons (.wanted 21 false rfl rfl rfl 0 rfl (ok_load tyI (.tmp 1 rfl))) ?_
      refine .cons (.wanted 21 false rfl rfl rfl 0 rfl (ok_call (con_add (X + Y) Z ((((fX.add fY).add fZ)).fits (by omega))) (.cons (.weak (.tmp 1 rfl) weakIN) (.cons (.weak (.tmp 2 rfl) weakIN) (.nil))))) ?_
      refine .cons (.wanted 21 false rfl rfl rfl 0 rfl (ok_load tyI (.tmp 1 rfl))) ?_
      refine .cons (.wanted 21 false rfl rfl rfl 0 rfl (ok_load tyI (.tmp 1 rfl))) ?_
      refine .cons (.wanted 21 false rfl rfl rfl 0 rfl (ok_call (con_add X (Y + Z) (((fX.add (fY.add fZ))).fits (by omega))) (.cons (.weak (.tmp 1 rfl) weakIN) (.cons (.weak (.tmp 2 rfl) weakIN) (.nil))))) ?_
      refine .cons (.wanted 21 false rfl rfl rfl 0 rfl (ok_call (con_sameT (X := ((X + Y) + Z)) (Y := (X + (Y + Z))) (by first | rfl | omega | ac_rfl | exact Int.mul_add _ _ _)) (.cons (.tmp 1 rfl) (.cons (.tmp 2 rfl) (.nil))))) ?_
      refine .cons (.wanted 21 false rfl rfl rfl 0 rfl (ok_not (b := true) (.tmp 1 rfl))) ?_
      refine .cons (.plain rfl (ok_pickF (.tmp 0 rfl) (.tmp 1 rfl))) ?_
      exact .nil
    clear H14 a12 w14 B12
    intro a15 w15 B15 H15
    refine any_done (by kernel_rfl) ?_
    refine then_normal ?_
    refine f_condF H15 (.tmp 0 rfl) ?_
    refine wp_skip ?_
    refine then_normal ?_
    refine wp_seq ?_
    refine wp_seq ?_
    refine flow_drawT (dsts := [some 70, some 71, some 72, some 73, some 74, some 75, some 76, some 77, some 78, some 79, some 80, some 81, some 82, some 83, some 84, some 85, some 86, some 87, some 88, some 89, some 90, some 91, some 92, some 93, some 94, some 95, some 96, some 97]) (refs := [[.pre 1], [.pre 6], [.pre 5], [.res 1, .res 2], [.res 0, .res 3], [.res 4], [.res 5], [.res 6, .pre 1], [.res 6, .pre 7], [.res 6, .res 7, .res 8], [.res 6, .pre 5], [.res 6, .pre 2], [.res 6, .res 10, .res 11], [.res 6, .res 9, .res 12], [.res 6, .res 13], [.res 6, .res 14], [.res 15], [.res 16, .pre 5], [.res 16, .pre 4], [.res 16, .res 17, .res 18], [.res 16, .pre 1], [.res 16, .pre 5], [.res 16, .pre 7], [.res 16, .res 21, .res 22], [.res 16, .res 20, .res 23], [.res 16, .res 19, .res 24], [.res 16, .res 25], [.res 16, .res 26]]) (outs := [.res 27, .pre 3, .pre 5, .pre 6, .pre 8]) (als := [false, false, false, false, false, false, false, false, false, false, false, false, false, false, false, false, false, false, false, false, false, false, false, false, false, false, false, false]) (posts := [.val (IsI (X * Y)), .val (IsI Y), .val (IsI X), .val (IsI (Y * X)), .val (IsB true), .val (IsB false), .val (IsB false), .val (IsI (X * Y)), .val (IsI Z), .val (IsI ((X * Y) * Z)), .val (IsI X), .val (IsI (Y * Z)), .val (IsI (X * (Y * Z))), .val (IsB true), .val (IsB false), .val (IsB false), .val (IsB false), .val (IsI X), .val (IsI (Y + Z)), .val (IsI (X * (Y + Z))), .val (IsI (X * Y)), .val (IsI X), .val (IsI Z), .val (IsI (X * Z)), .val (IsI ((X * Y) + (X * Z))), .val (IsB true), .val (IsB false), .val (IsB false)])
      (out := [(97, .val (IsB false)), (10, .box 25 2 (IsI (X + Y))), (7, .box 25 2 (IsI X)), (8, .box 25 2 (IsI Y)), (6, .val (IsB false))]) (nb := []) H15 (by kernel_rfl) 28 0 #[true, true, true, true, true, true, true, true, true, true, true, true, true, true, true, true, true, true, true, true, true, true, true, true, true, true, true, true] (by kernel_rfl) (by kernel_rfl) rfl rfl ?_ ?_
    · refine .cons (.plain rfl (ok_load tyI (.tmp 0 rfl))) ?_
      refine .cons (.plain rfl (ok_load tyI (.tmp 0 rfl))) ?_
      refine .cons (.plain rfl (ok_load tyI (.tmp 0 rfl))) ?_
      refine .cons (.plain rfl (ok_call (con_mul Y X (((fY.mul fX)).fits (by omega))) (.cons (.weak (.tmp 0 rfl) weakIN) (.cons (.weak (.tmp 1 rfl) weakIN) (.nil))))) ?_
      refine .cons (.plain rfl (ok_call (con_sameT (X := (X * Y)) (Y := (Y * X)) (by first | rfl | omega | ac_rfl | exact Int.mul_add _ _ _)) (.cons (.tmp 0 rfl) (.cons (.tmp 1 rfl) (.nil))))) ?_
      refine .cons (.plain rfl (ok_not (b := true) (.tmp 0 rfl))) ?_
      refine .cons (.plain rfl (ok_move (.tmp 0 rfl))) ?_
      refine .cons (.wanted 6 false rfl rfl rfl 0 rfl (ok_load tyI (.tmp 1 rfl))) ?_
      refine .cons (.wanted 6 false rfl rfl rfl 0 rfl (ok_load tyI (.tmp 1 rfl))) ?_
      refine .cons (.wanted 6 false rfl rfl rfl 0 rfl (ok_call (con_mul (X * Y) Z ((((fX.mul fY).mul fZ)).fits (by omega))) (.cons (.weak (.tmp 1 rfl) weakIN) (.cons (.weak (.tmp 2 rfl) weakIN) (.nil))))) ?_
      refine .cons (.wanted 6 false rfl rfl rfl 0 rfl (ok_load tyI (.tmp 1 rfl))) ?_
      refine .cons (.wanted 6 false rfl rfl rfl 0 rfl (ok_load tyI (.tmp 1 rfl))) ?_
      refine .cons (.wanted 6 false rfl rfl rfl 0 rfl (ok_call (con_mul X (Y * Z) (((fX.mul (fY.mul fZ))).fits (by omega))) (.cons (.weak (.tmp 1 rfl) weakIN) (.cons (.weak (.tmp 2 rfl) weakIN) (.nil))))) ?_
      refine .cons (.wanted 6 false rfl rfl rfl 0 rfl (ok_call (con_sameT (X := ((X * Y) * Z)) (Y := (X * (Y * Z))) (by first | rfl | omega | ac_rfl | exact Int.mul_add _ _ _)) (.cons (.tmp 1 rfl) (.cons (.tmp 2 rfl) (.nil))))) ?_
      refine .cons (.wanted 6 false rfl rfl rfl 0 rfl (ok_not (b := true) (.tmp 1 rfl))) ?_
      refine .cons (.plain rfl (ok_pickF (.tmp 0 rfl) (.tmp 1 rfl))) ?_
      refine .cons (.plain rfl (ok_move (.tmp 0 rfl))) ?_
      refine .cons (.wanted 16 false rfl rfl rfl 0 rfl (ok_load tyI (.tmp 1 rfl))) ?_
      refine .cons (.wanted 16 false rfl rfl rfl 0 rfl (ok_load tyI (.tmp 1 rfl))) ?_
      refine .cons (.wanted 16 false rfl rfl rfl 0 rfl (ok_call (con_mul X (Y + Z) (((fX.mul (fY.add fZ))).fits (by omega))) (.cons (.weak (.tmp 1 rfl) weakIN) (.cons (.weak (.tmp 2 rfl) weakIN) (.nil))))) ?_
      refine .cons (.wanted 16 false rfl rfl rfl 0 rfl (ok_load tyI (.tmp 1 rfl))) ?_
      refine .cons (.wanted 16 false rfl rfl rfl 0 rfl (ok_load tyI (.tmp 1 rfl))) ?_
      refine .cons (.wanted 16 false rfl rfl rfl 0 rfl (ok_load tyI (.tmp 1 rfl))) ?_
      refine .cons (.wanted 16 false rfl rfl rfl 0 rfl (ok_call (con_mul X Z (((fX.mul fZ)).fits (by omega))) (.cons (.weak (.tmp 1 rfl) weakIN) (.cons (.weak (.tmp 2 rfl) weakIN) (.nil))))) ?_
      refine .cons (.wanted 16 false rfl rfl rfl 0 rfl (ok_call (con_add (X * Y) (X * Z) ((((fX.mul fY).add (fX.mul fZ))).fits (by omega))) (.cons (.weak (.tmp 1 rfl) weakIN) (.cons (.weak (.tmp 2 rfl) weakIN) (.nil))))) ?_
      refine .cons (.wanted 16 false rfl rfl rfl 0 rfl (ok_call (con_sameT (X := (X * (Y + Z))) (Y := ((X * Y) + (X * Z))) (by first | rfl | omega | ac_rfl | exact Int.mul_add _ _ _)) (.cons (.tmp 1 rfl) (.cons (.tmp 2 rfl) (.nil))))) ?_
      refine .cons (.wanted 16 false rfl rfl rfl 0 rfl (ok_not (b := true) (.tmp 1 rfl))) ?_
      refine .cons (.plain rfl (ok_pickF (.tmp 0 rfl) (.tmp 1 rfl))) ?_
      exact .nil
    clear H15 a15 w15 B15
    intro a16 w16 B16 H16
    refine any_done (by kernel_rfl) ?_
    refine then_normal ?_
    refine f_condF H16 (.tmp 0 rfl) ?_
    refine wp_skip ?_
    refine then_normal ?_
    refine wp_seq ?_
    refine wp_seq ?_
    refine flow_drawT (dsts := [some 98, some 99, some 100, some 101, some 102, some 103, some 104, some 105, some 106, some 107, some 108, some 109, some 110, some 111, some 112, some 113, some 114, some 115, some 116, some 117, some 118, some 119, some 120, some 121, some 122]) (refs := [[.pre 1], [.pre 3], [.res 0, .res 1], [.pre 2], [.res 2, .res 3], [.res 4], [.res 5], [.res 6, .pre 2], [.res 6, .pre 3], [.res 6, .res 7, .res 8], [.res 6, .pre 2], [.res 6, .pre 3], [.res 6, .res 11], [.res 6, .res 10, .res 12], [.res 6, .res 9, .res 13], [.res 6, .res 14], [.res 6, .res 15], [.res 16], [.res 17, .pre 2], [.res 17, .res 18], [.res 17, .res 19], [.res 17, .pre 2], [.res 17, .res 20, .res 21], [.res 17, .res 22], [.res 17, .res 23]]) (outs := [.res 24, .pre 2, .pre 4]) (als := [false, false, false, false, false, false, false, false, false, false, false, false, false, false, false, false, false, false, false, false, false, false, false, false, false]) (posts := [.val (IsI (X + Y)), .val (IsI Y), .val (IsI ((X + Y) - Y)), .val (IsI X), .val (IsB true), .val (IsB false), .val (IsB false), .val (IsI X), .val (IsI Y), .val (IsI (X - Y)), .val (IsI X), .val (IsI Y), .val (IsI (-Y)), .val (IsI (X + (-Y))), .val (IsB true), .val (IsB false), .val (IsB false), .val (IsB false), .val (IsI X), .val (IsI (-X)), .val (IsI (-(-X))), .val (IsI X), .val (IsB true), .val (IsB false), .val (IsB false)])
      (out := [(122, .val (IsB false)), (7, .box 25 2 (IsI X)), (6, .val (IsB false))]) (nb := []) H16 (by kernel_rfl) 25 0 #[true, true, true, true, true, true, true, true, true, true, true, true, true, true, true, true, true, true, true, true, true, true, true, true, true] (by kernel_rfl) (by kernel_rfl) rfl rfl ?_ ?_
    · refine .cons (.plain rfl (ok_load tyI (.tmp 0 rfl))) ?_
      refine .cons (.plain rfl (ok_load tyI (.tmp 0 rfl))) ?_
      refine .cons (.plain rfl (ok_call (con_sub (X + Y) Y ((((fX.add fY).sub fY)).fits (by omega))) (.cons (.weak (.tmp 0 rfl) weakIN) (.cons (.weak (.tmp 1 rfl) weakIN) (.nil))))) ?_
      refine .cons (.plain rfl (ok_load tyI (.tmp 0 rfl))) ?_
      refine .cons (.plain rfl (ok_call (con_sameT (X := ((X + Y) - Y)) (Y := X) (by first | rfl | omega | ac_rfl | exact Int.mul_add _ _ _)) (.cons (.tmp 0 rfl) (.cons (.tmp 1 rfl) (.nil))))) ?_
      refine .cons (.plain rfl (ok_not (b := true) (.tmp 0 rfl))) ?_
      refine .cons (.plain rfl (ok_move (.tmp 0 rfl))) ?_
      refine .cons (.wanted 6 false rfl rfl rfl 0 rfl (ok_load tyI (.tmp 1 rfl))) ?_
      refine .cons (.wanted 6 false rfl rfl rfl 0 rfl (ok_load tyI (.tmp 1 rfl))) ?_
      refine .cons (.wanted 6 false rfl rfl rfl 0 rfl (ok_call (con_sub X Y (((fX.sub fY)).fits (by omega))) (.cons (.weak (.tmp 1 rfl) weakIN) (.cons (.weak (.tmp 2 rfl) weakIN) (.nil))))) ?_
      refine .cons (.wanted 6 false rfl rfl rfl 0 rfl (ok_load tyI (.tmp 1 rfl))) ?_
      refine .cons (.wanted 6 false rfl rfl rfl 0 rfl (ok_load tyI (.tmp 1 rfl))) ?_
      refine .cons (.wanted 6 false rfl rfl rfl 0 rfl (ok_call (con_neg Y) (.cons (.weak (.tmp 1 rfl) weakIN) (.nil)))) ?_
      refine .cons (.wanted 6 false rfl rfl rfl 0 rfl (ok_call (con_add X (-Y) (((fX.add fY.neg)).fits (by omega))) (.cons (.weak (.tmp 1 rfl) weakIN) (.cons (.weak (.tmp 2 rfl) weakIN) (.nil))))) ?_
      refine .cons (.wanted 6 false rfl rfl rfl 0 rfl (ok_call (con_sameT (X := (X - Y)) (Y := (X + (-Y))) (by first | rfl | omega | ac_rfl | exact Int.mul_add _ _ _)) (.cons (.tmp 1 rfl) (.cons (.tmp 2 rfl) (.nil))))) ?_
      refine .cons (.wanted 6 false rfl rfl rfl 0 rfl (ok_not (b := true) (.tmp 1 rfl))) ?_
      refine .cons (.plain rfl (ok_pickF (.tmp 0 rfl) (.tmp 1 rfl))) ?_
      refine .cons (.plain rfl (ok_move (.tmp 0 rfl))) ?_
      refine .cons (.wanted 17 false rfl rfl rfl 0 rfl (ok_load tyI (.tmp 1 rfl))) ?_
      refine .cons (.wanted 17 false rfl rfl rfl 0 rfl (ok_call (con_neg X) (.cons (.weak (.tmp 1 rfl) weakIN) (.nil)))) ?_
      refine .cons (.wanted 17 false rfl rfl rfl 0 rfl (ok_call (con_neg (-X)) (.cons (.weak (.tmp 1 rfl) weakIN) (.nil)))) ?_
      refine .cons (.wanted 17 false rfl rfl rfl 0 rfl (ok_load tyI (.tmp 1 rfl))) ?_
      refine .cons (.wanted 17 false rfl rfl rfl 0 rfl (ok_call (con_sameT (X := (-(-X))) (Y := X) (by first | rfl | omega | ac_rfl | exact Int.mul_add _ _ _)) (.cons (.tmp 1 rfl) (.cons (.tmp 2 rfl) (.nil))))) ?_
      refine .cons (.wanted 17 false rfl rfl rfl 0 rfl (ok_not (b := true) (.tmp 1 rfl))) ?_
      refine .cons (.plain rfl (ok_pickF (.tmp 0 rfl) (.tmp 1 rfl))) ?_
      exact .nil
    clear H16 a16 w16 B16
    intro a17 w17 B17 H17
    refine any_done (by kernel_rfl) ?_
    refine then_normal ?_
    refine f_condF H17 (.tmp 0 rfl) ?_
    refine wp_skip ?_
    refine then_normal ?_
    refine wp_seq ?_
    refine flow_region (dsts := [some 123, some 124, some 14, some 15]) (refs := [[], [], [], []]) (outs := [.res 0, .res 1, .res 2, .res 3, .pre 1, .pre 2]) (als := [false, false, true, true]) (posts := [.val (IsI 0), .val (IsI 1), .box 25 2 (Zero2), .box 25 2 (Zero2)])
      (out := [(123, .val (IsI 0)), (124, .val (IsI 1)), (14, .box 25 2 (Zero2)), (15, .box 25 2 (Zero2)), (7, .box 25 2 (IsI X)), (6, .val (IsB false))]) (nb := [14, 15]) H17 4 [4, 5] rfl (by kernel_rfl) rfl rfl ?_ ?_
    · refine .cons (.plain rfl (ok_call (con_from 0 (by omega)) (.cons (.lit) (.nil)))) ?_
      refine .cons (.plain rfl (ok_call (con_from 1 (by omega)) (.cons (.lit) (.nil)))) ?_
      refine .cons (.plain rfl (ok_alloc (D := Zero2) zeroI rfl (fun _ _ => rfl))) ?_
      refine .cons (.plain rfl (ok_alloc (D := Zero2) zeroI rfl (fun _ _ => rfl))) ?_
      exact .nil
    clear H17 a17 w17 B17
    intro a18 w18 B18 H18
    simp only [List.cons_append, List.nil_append] at H18
    refine ops_one ?_
    refine store_op (l' := [(123, .val (IsI 0)), (124, .val (IsI 1)), (14, .box 25 2 (IsI 0)), (15, .box 25 2 (Zero2)), (7, .box 25 2 (IsI X)), (6, .val (IsB false))]) 2 H18 rfl tyI rfl (.tmp 0 rfl) shape_Z shape_I rfl rfl ?_
    clear H18 w18
    intro w19 H19
    refine ops_one ?_
    refine store_op (l' := [(123, .val (IsI 0)), (124, .val (IsI 1)), (14, .box 25 2 (IsI 0)), (15, .box 25 2 (IsI 1)), (7, .box 25 2 (IsI X)), (6, .val (IsB false))]) 3 H19 rfl tyI rfl (.tmp 1 rfl) shape_Z shape_I rfl rfl ?_
    clear H19 w19
    intro w20 H20
    refine ops_done ?_
    refine then_normal ?_
    refine wp_seq ?_
    refine flow_drawT (dsts := [some 125, some 126, some 127, some 128, some 129, some 130, some 131, some 132, some 133, some 134, some 135, some 136, some 137, some 138, some 139, some 140, some 141, some 142, some 143, some 144, some 145, some 146, some 147, some 148, some 149, some 150, some 151, some 152, some 153, some 154, some 155, some 156, some 157, some 158, some 159, some 160, some 161, some 6]) (refs := [[.pre 4], [.pre 2], [.res 0, .res 1], [.pre 4], [.res 2, .res 3], [.res 4], [.res 5, .pre 4], [.res 5, .pre 3], [.res 5, .res 6, .res 7], [.res 5, .pre 4], [.res 5, .res 8, .res 9], [.res 5, .res 10], [.res 11], [.res 12, .pre 4], [.res 12, .pre 2], [.res 12, .res 13, .res 14], [.res 12, .pre 2], [.res 12, .res 15, .res 16], [.res 12, .res 17], [.res 18], [.res 19, .pre 4], [.res 19, .pre 4], [.res 19, .res 20, .res 21], [.res 19, .pre 2], [.res 19, .res 22, .res 23], [.res 19, .res 24], [.res 25], [.res 26, .pre 4], [.res 26], [.res 26, .res 27, .res 28], [.res 26, .pre 4], [.res 26, .res 30], [.res 26, .res 29, .res 31], [.res 26, .res 32], [.res 33], [.res 34], [.res 34, .res 35], [.res 36]]) (outs := [.res 37]) (als := [false, false, false, false, false, false, false, false, false, false, false, false, false, false, false, false, false, false, false, false, false, false, false, false, false, false, false, false, false, false, false, false, false, false, false, false, false, false]) (posts := [.val (IsI X), .val (IsI 0), .val (IsI (X + 0)), .val (IsI X), .val (IsB true), .val (IsB true), .val (IsI X), .val (IsI 1), .val (IsI (X * 1)), .val (IsI X), .val (IsB true), .val (IsB true), .val (IsB true), .val (IsI X), .val (IsI 0), .val (IsI (X * 0)), .val (IsI 0), .val (IsB true), .val (IsB true), .val (IsB true), .val (IsI X), .val (IsI X), .val (IsI (X - X)), .val (IsI 0), .val (IsB true), .val (IsB true), .val (IsB true), .val (IsI X), .val (IsI (-1)), .val (IsI (X * (-1))), .val (IsI X), .val (IsI (-X)), .val (IsB true), .val (IsB true), .val (IsB true), .val (IsB true), .val (IsB true), .val (IsB true)])
      (out := [(6, .val (IsB true))]) (nb := []) H20 (by kernel_rfl) 38 0 #[true, true, true, true, true, true, true, true, true, true, true, true, true, true, true, true, true, true, true, true, true, true, true, true, true, true, true, true, true, true, true, true, true, true, true, true, true, true] (by kernel_rfl) (by kernel_rfl) rfl rfl ?_ ?_
    · refine .cons (.plain rfl (ok_load tyI (.tmp 0 rfl))) ?_
      refine .cons (.plain rfl (ok_load tyI (.tmp 0 rfl))) ?_
      refine .cons (.plain rfl (ok_call (con_add X 0 (((fX.add (FitK.small (N := 0) (by decide)))).fits (by omega))) (.cons (.weak (.tmp 0 rfl) weakIN) (.cons (.weak (.tmp 1 rfl) weakIN) (.nil))))) ?_
      refine .cons (.plain rfl (ok_load tyI (.tmp 0 rfl))) ?_
      refine .cons (.plain rfl (ok_call (con_sameT (X := (X + 0)) (Y := X) (by first | rfl | omega | ac_rfl | exact Int.mul_add _ _ _)) (.cons (.tmp 0 rfl) (.cons (.tmp 1 rfl) (.nil))))) ?_
      refine .cons (.plain rfl (ok_move (.tmp 0 rfl))) ?_
      refine .cons (.wanted 5 true rfl rfl rfl 0 rfl (ok_load tyI (.tmp 1 rfl))) ?_
      refine .cons (.wanted 5 true rfl rfl rfl 0 rfl (ok_load tyI (.tmp 1 rfl))) ?_
      refine .cons (.wanted 5 true rfl rfl rfl 0 rfl (ok_call (con_mul X 1 (((fX.mul (FitK.small (N := 1) (by decide)))).fits (by omega))) (.cons (.weak (.tmp 1 rfl) weakIN) (.cons (.weak (.tmp 2 rfl) weakIN) (.nil))))) ?_
      refine .cons (.wanted 5 true rfl rfl rfl 0 rfl (ok_load tyI (.tmp 1 rfl))) ?_
      refine .cons (.wanted 5 true rfl rfl rfl 0 rfl (ok_call (con_sameT (X := (X * 1)) (Y := X) (by first | rfl | omega | ac_rfl | exact Int.mul_add _ _ _)) (.cons (.tmp 1 rfl) (.cons (.tmp 2 rfl) (.nil))))) ?_
      refine .cons (.plain rfl (ok_pickT (.tmp 0 rfl) (.tmp 1 rfl))) ?_
      refine .cons (.plain rfl (ok_move (.tmp 0 rfl))) ?_
      refine .cons (.wanted 12 true rfl rfl rfl 0 rfl (ok_load tyI (.tmp 1 rfl))) ?_
      refine .cons (.wanted 12 true rfl rfl rfl 0 rfl (ok_load tyI (.tmp 1 rfl))) ?_
      refine .cons (.wanted 12 true rfl rfl rfl 0 rfl (ok_call (con_mul X 0 (((fX.mul (FitK.small (N := 0) (by decide)))).fits (by omega))) (.cons (.weak (.tmp 1 rfl) weakIN) (.cons (.weak (.tmp 2 rfl) weakIN) (.nil))))) ?_
      refine .cons (.wanted 12 true rfl rfl rfl 0 rfl (ok_load tyI (.tmp 1 rfl))) ?_
      refine .cons (.wanted 12 true rfl rfl rfl 0 rfl (ok_call (con_sameT (X := (X * 0)) (Y := 0) (by first | rfl | omega | ac_rfl | exact Int.mul_add _ _ _)) (.cons (.tmp 1 rfl) (.cons (.tmp 2 rfl) (.nil))))) ?_
      refine .cons (.plain rfl (ok_pickT (.tmp 0 rfl) (.tmp 1 rfl))) ?_
      refine .cons (.plain rfl (ok_move (.tmp 0 rfl))) ?_
      refine .cons (.wanted 19 true rfl rfl rfl 0 rfl (ok_load tyI (.tmp 1 rfl))) ?_
      refine .cons (.wanted 19 true rfl rfl rfl 0 rfl (ok_load tyI (.tmp 1 rfl))) ?_
      refine .cons (.wanted 19 true rfl rfl rfl 0 rfl (ok_call (con_sub X X (((fX.sub fX)).fits (by omega))) (.cons (.weak (.tmp 1 rfl) weakIN) (.cons (.weak (.tmp 2 rfl) weakIN) (.nil))))) ?_
      refine .cons (.wanted 19 true rfl rfl rfl 0 rfl (ok_load tyI (.tmp 1 rfl))) ?_
      refine .cons (.wanted 19 true rfl rfl rfl 0 rfl (ok_call (con_sameT (X := (X - X)) (Y := 0) (by first | rfl | omega | ac_rfl | exact Int.mul_add _ _ _)) (.cons (.tmp 1 rfl) (.cons (.tmp 2 rfl) (.nil))))) ?_
      refine .cons (.plain rfl (ok_pickT (.tmp 0 rfl) (.tmp 1 rfl))) ?_
      refine .cons (.plain rfl (ok_move (.tmp 0 rfl))) ?_
      refine .cons (.wanted 26 true rfl rfl rfl 0 rfl (ok_load tyI (.tmp 1 rfl))) ?_
      refine .cons (.wanted 26 true rfl rfl rfl 0 rfl (ok_call (con_from (-1) (by omega)) (.cons (.lit) (.nil)))) ?_
      refine .cons (.wanted 26 true rfl rfl rfl 0 rfl (ok_call (con_mul X (-1) (((fX.mul (FitK.small (N := -1) (by decide)))).fits (by omega))) (.cons (.weak (.tmp 1 rfl) weakIN) (.cons (.weak (.tmp 2 rfl) weakIN) (.nil))))) ?_
      refine .cons (.wanted 26 true rfl rfl rfl 0 rfl (ok_load tyI (.tmp 1 rfl))) ?_
      refine .cons (.wanted 26 true rfl rfl rfl 0 rfl (ok_call (con_neg X) (.cons (.weak (.tmp 1 rfl) weakIN) (.nil)))) ?_
      refine .cons (.wanted 26 true rfl rfl rfl 0 rfl (ok_call (con_sameT (X := (X * (-1))) (Y := (-X)) (by first | rfl | omega | ac_rfl | exact Int.mul_add _ _ _)) (.cons (.tmp 1 rfl) (.cons (.tmp 2 rfl) (.nil))))) ?_
      refine .cons (.plain rfl (ok_pickT (.tmp 0 rfl) (.tmp 1 rfl))) ?_
      refine .cons (.plain rfl (ok_move (.tmp 0 rfl))) ?_
      refine .cons (.wanted 34 true rfl rfl rfl 0 rfl (ok_call (con_lives3) (.nil))) ?_
      refine .cons (.plain rfl (ok_pickT (.tmp 0 rfl) (.tmp 1 rfl))) ?_
      refine .cons (.plain rfl (ok_assign (.tmp 0 rfl))) ?_
      exact .nil
    clear H20 a18 w20 B18
    intro a21 w21 B21 H21
    refine any_done (by kernel_rfl) ?_
    refine then_normal ?_
    refine wp_ret ?_
    exact f_ret H21 rfl 0 rfl (fun _ _ _ h => h)

theorem walk_WholeRing (w : World) (ngx : Bool) (adx : Option Addr) (nx cx : Nat) (xx : List Int) (fx : Arg w adx nx cx xx) (yx : nx * 4 ≤ 140737488351232) (ngy : Bool) (ady : Option Addr) (ny cy : Nat) (xy : List Int) (fy : Arg w ady ny cy xy) (yy : ny * 4 ≤ 140737488351232) (ngz : Bool) (adz : Option Addr) (nz cz : Nat) (xz : List Int) (fz : Arg w adz nz cz xz) (yz : nz * 4 ≤ 140737488351232) :
    Calls Try.prog 10 #[.agg #[.bool ngx, .slice adx nx cx], .agg #[.bool ngy, .slice ady ny cy], .agg #[.bool ngz, .slice adz nz cz]] w (fun e w' => e = .returned (.bool true) ∧ Below w.heap.size w w') := by
  refine ((con_WholeRing ngx nx xx yx ngy ny xy yy ngz nz xz yz).calls [.agg #[.bool ngx, .slice adx nx cx], .agg #[.bool ngy, .slice ady ny cy], .agg #[.bool ngz, .slice adz nz cz]] w (fun _ => False) (fun _ h => h.elim) ⟨⟨adx, cx, rfl, fx⟩, ⟨ady, cy, rfl, fy⟩, ⟨adz, cz, rfl, fz⟩, trivial⟩).mono ?_
  rintro e w' ⟨v, rfl, h, hb⟩
  obtain rfl := h
  exact ⟨rfl, hb⟩
end Go.Proofs.Ytgnophflogmmaaa
