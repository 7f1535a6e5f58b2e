/- The law WholeLoose: its walk. -/
import Derived.Test.YtgnophflogmmaaaPk23
import Derived.Test.YtgnophflogmmaaaPk37
import Derived.Test.YtgnophflogmmaaaPk43
set_option linter.unusedVariables false
set_option linter.unusedSimpArgs false
/- The law WholeLoose: its walk by what the slots hold. (Printed by flow03.py.) -/
namespace Go.Proofs.Ytgnophflogmmaaa
open Go Go.RowKit


set_option maxRecDepth 20000 in
set_option maxHeartbeats 4000000 in
theorem con_WholeLoose (ngx : Bool) (nx : Nat) (xx : List Int) (yx : nx * 4 ≤ 140737488351232) (ngy : Bool) (ny : Nat) (xy : List Int) (yy : ny * 4 ≤ 140737488351232) (c : Int) (hc : 0 ≤ c ∧ c < 256) : Con Try.prog 12 [IsArg ngx nx xx, IsArg ngy ny xy, Lit (.int .u8 c)] (IsB true) := by
  refine f_enter (N := 171) Try.ntmps12 (fun _ _ => by go_simp) Try.func12 rfl (by simp) ?_
  intro a0 w0 B0 H0
  replace H0 : St 171 w0 B0 a0 w0 B0 [(0, .val (IsArg ngx nx xx)), (1, .val (IsArg ngy ny xy)), (2, .val (Lit (.int .u8 c)))] [] := H0
  obtain ⟨X, hX⟩ : ∃ X, sI ngx (val 4294967296 xx) = X := ⟨_, rfl⟩
  have fX : FitK nx X := PArg.fit hX (H0.fc.get 0 rfl)
  obtain ⟨Y, hY⟩ : ∃ X, sI ngy (val 4294967296 xy) = X := ⟨_, rfl⟩
  have fY : FitK ny Y := PArg.fit hY (H0.fc.get 1 rfl)
  refine wp_seq ?_
  refine flow_region (dsts := [some 3, some 4, some 6]) (refs := [[.pre 0], [.pre 1], []]) (outs := [.res 0, .res 1, .res 2, .pre 2]) (als := [true, true, false]) (posts := [.box 25 2 (IsArg ngx nx xx), .box 25 2 (IsArg ngy ny xy), .val (IsB false)])
    (out := [(3, .box 25 2 (IsArg ngx nx xx)), (4, .box 25 2 (IsArg ngy ny xy)), (6, .val (IsB false)), (2, .val (Lit (.int .u8 c)))]) (nb := [3, 4]) H0 3 [] rfl (by kernel_rfl) rfl rfl ?_ ?_
  · refine .cons (.plain rfl (ok_box (.tmp 0 rfl) shape_Arg.two)) ?_
    refine .cons (.plain rfl (ok_box (.tmp 0 rfl) shape_Arg.two)) ?_
    refine .cons (.plain rfl (ok_assign (.lit))) ?_
    exact .nil
  clear H0
  intro a1 w1 B1 H1
  simp only [List.cons_append, List.nil_append] at H1
  refine ops_done ?_
  refine then_normal ?_
  refine wp_seq ?_
  refine wp_seq ?_
  refine flow_region (dsts := [some 23, some 24, some 25, some 26]) (refs := [[.pre 0], [.pre 1], [.res 0, .res 1], [.res 2]]) (outs := [.res 3, .pre 0, .pre 1, .pre 2, .pre 3]) (als := [false, false, false, false]) (posts := [.val (IsArg ngx nx xx), .val (IsArg ngy ny xy), .val (IsInts [nx, ny]), .val (IsIf True (∀ j : Nat, [nx, ny][j]?.getD 0 ≤ 1048576))])
    (out := [(26, .val (IsIf True (∀ j : Nat, [nx, ny][j]?.getD 0 ≤ 1048576))), (3, .box 25 2 (IsArg ngx nx xx)), (4, .box 25 2 (IsArg ngy ny xy)), (6, .val (IsB false)), (2, .val (Lit (.int .u8 c)))]) (nb := []) H1 4 [] rfl (by kernel_rfl) rfl rfl ?_ ?_
  · refine .cons (.plain rfl (ok_load tyI (.tmp 0 rfl))) ?_
    refine .cons (.plain rfl (ok_load tyI (.tmp 0 rfl))) ?_
    refine .cons (.plain rfl (ok_ints2 (.tmp 0 rfl) (.tmp 1 rfl))) ?_
    refine .cons (.plain rfl (ok_call (con_beyond [nx, ny] (by simp) (fun j => by rcases j with _ | _ | _ <;> simp <;> omega)) (.cons (.tmp 0 rfl) (.nil)))) ?_
    exact .nil
  clear H1 a1 w1 B1
  intro a2 w2 B2 H2
  refine ops_done ?_
  refine then_normal ?_
  refine f_condI H2 (.tmp 0 rfl) ?_ ?_
  · intro hc3
    refine wp_seq ?_
    refine flow_region (dsts := [some 6]) (refs := [[]]) (outs := [.res 0, .pre 1, .pre 2, .pre 4]) (als := [false]) (posts := [.val (IsB true)])
      (out := [(6, .val (IsB true)), (3, .box 25 2 (IsArg ngx nx xx)), (4, .box 25 2 (IsArg ngy ny xy)), (2, .val (Lit (.int .u8 c)))]) (nb := []) H2 1 [] rfl (by kernel_rfl) rfl rfl ?_ ?_
    · refine .cons (.plain rfl (ok_assign (.lit))) ?_
      exact .nil
    clear H2 a2 w2 B2
    intro a4 w4 B4 H4
    refine ops_done ?_
    refine then_normal ?_
    refine wp_ret ?_
    refine then_ret ?_
    exact f_ret H4 rfl 0 rfl (fun _ _ _ h => h)
  · intro hc3
    have lx : nx ≤ 1048576 := hc3 0
    have ly : ny ≤ 1048576 := hc3 1
    clear hc3
    refine wp_skip ?_
    refine then_normal ?_
    refine wp_seq ?_
    refine flow_region (dsts := [some 27, some 28, some 7]) (refs := [[.pre 1], [.res 0], []]) (outs := [.res 1, .res 2, .pre 2, .pre 3, .pre 4]) (als := [false, false, true]) (posts := [.val (IsArg ngx nx xx), .val (IsI X), .box 25 2 (Zero2)])
      (out := [(28, .val (IsI X)), (7, .box 25 2 (Zero2)), (4, .box 25 2 (IsArg ngy ny xy)), (6, .val (IsB false)), (2, .val (Lit (.int .u8 c)))]) (nb := [7]) H2 3 [3] rfl (by kernel_rfl) rfl rfl ?_ ?_
    · refine .cons (.plain rfl (ok_load tyI (.tmp 0 rfl))) ?_
      refine .cons (.plain rfl (ok_call (con_norm X) (.cons (.weak (.tmp 0 rfl) (weakAN (by omega) hX)) (.nil)))) ?_
      refine .cons (.plain rfl (ok_alloc (D := Zero2) zeroI rfl (fun _ _ => rfl))) ?_
      exact .nil
    clear H2 a2 w2 B2
    intro a5 w5 B5 H5
    simp only [List.cons_append, List.nil_append] at H5
    refine ops_one ?_
    refine store_op (l' := [(28, .val (IsI X)), (7, .box 25 2 (IsI X)), (4, .box 25 2 (IsArg ngy ny xy)), (6, .val (IsB false)), (2, .val (Lit (.int .u8 c)))]) 1 H5 rfl tyI rfl (.tmp 0 rfl) shape_Z shape_I rfl rfl ?_
    clear H5 w5
    intro w6 H6
    refine ops_done ?_
    refine then_normal ?_
    refine wp_seq ?_
    obtain ⟨m7, hm7, hw7, hL7, H7⟩ := St.mark H6 907
    clear H6
    have H8 := St.setwB H7 3 (D' := IsArgb m7 ngy ny xy) rfl (fun v h => hardArg hL7 v h) (l' := [(907, .val (Sz m7)), (28, .val (IsI X)), (7, .box 25 2 (IsI X)), (4, .box 25 2 (IsArgb m7 ngy ny xy)), (6, .val (IsB false)), (2, .val (Lit (.int .u8 c)))]) rfl
    clear H7
    have H9 := St.setwB H8 2 (D' := IsIb m7 X) rfl (fun v h => hardI hL7 v h) (l' := [(907, .val (Sz m7)), (28, .val (IsI X)), (7, .box 25 2 (IsIb m7 X)), (4, .box 25 2 (IsArgb m7 ngy ny xy)), (6, .val (IsB false)), (2, .val (Lit (.int .u8 c)))]) rfl
    clear H8
    clear hL7
    have hxl : (dg 4294967296 ((X).natAbs : Int)).length ≤ nx := len_of_fit fX
    refine flow_drawM (dsts := [some 29, some 30, some 31, some 32, some 33, some 34, some 35, some 36, some 37, some 38, some 39, some 8]) (refs := [[.pre 2], [.res 0], [.pre 0], [.pre 2], [.res 3], [.res 2, .res 4], [.pre 5], [.res 6], [.res 7], [.res 5, .res 8, .pre 0], [.res 1, .res 9], []]) (outs := [.res 10, .res 11, .pre 0, .pre 2, .pre 3, .pre 4, .pre 5]) (als := [false, false, false, false, false, false, false, false, false, false, false, true]) (posts := [.ptr 25 2 (IsIb m7 X) 0, .val (IsB (decide (X < 0))), .val (IsEmp m7 78), .ptr 25 2 (IsIb m7 X) 1, .val (IsC ((X).natAbs : Int)), .val (IsNew m7 78 .u32 (dg 4294967296 ((X).natAbs : Int))), .val (Lit (.int .u8 c)), .val (Lit (.int .i64 c)), .val (Lit (.int .i64 (c % 5))), .val (IsNew m7 78 .u32 ((dg 4294967296 ((X).natAbs : Int)) ++ List.replicate (c % 5).toNat 0)), .val (IsN X), .box 25 2 (Zero2)])
      (out := [(39, .val (IsN X)), (8, .box 25 2 (Zero2)), (907, .val (Sz m7)), (7, .box 25 2 (IsIb m7 X)), (4, .box 25 2 (IsArgb m7 ngy ny xy)), (6, .val (IsB false)), (2, .val (Lit (.int .u8 c)))]) (nb := [8]) H9 (by kernel_rfl) 12 9 m7 1 [true, true, false, true, false, false, true, true, true, true, true, true] #[true, true, true, true, true, true, true, true, true, true, true, true, false] hw7 (by kernel_rfl) (by kernel_rfl) (by kernel_rfl) rfl rfl ?_ ?_ ?_
    · refine .norm rfl (.plain rfl (ok_addrI0 (.tmp 0 rfl))) ?_
      refine .norm rfl (.plain rfl (ok_loadNegI ((Opd.weakPtr (.tmp 0 rfl) weakIbI)))) ?_
      refine .norm rfl (.plain rfl (ok_empty 0 rfl)) ?_
      refine .norm rfl (.plain rfl (ok_addrI1 (.tmp 0 rfl))) ?_
      refine .norm rfl (.plain rfl (ok_loadMagI ((Opd.weakPtr (.tmp 0 rfl) weakIbI)))) ?_
      refine .norm rfl (.plain rfl (ok_appNew Try.underlying23 info_limb (by omega) (by omega) (.tmp 0 rfl) (.weak (.tmp 1 rfl) weakCL))) ?_
      refine .norm rfl (.plain rfl (ok_move (.tmp 0 rfl))) ?_
      refine .norm rfl (.plain rfl (ok_conv Try.underlying5 Try.underlying3 (r := c) (.tmp 0 rfl) (w_i64 (by omega)))) ?_
      refine .norm rfl (.plain rfl (ok_rem (r := (c % 5)) (.tmp 0 rfl) (.lit) (by omega) (Int.tmod_eq_emod_of_nonneg (by omega)))) ?_
      refine .muta rfl rfl (mut_appz (xs := (dg 4294967296 ((X).natAbs : Int))) (c % 5).toNat 2 Try.underlying23 Try.underlying3 info_limb (by omega) (.tmp 0 rfl) (.tmp 1 rfl) (by omega) (by omega) rfl) ?_
      refine .norm rfl (.plain rfl (ok_buildXN (.tmp 0 rfl) (.weak (.tmp 1 rfl) (weakNewM (loose_row _ (by omega) _).1 (loose_row _ (by omega) _).2 (by simp; omega))))) ?_
      refine .norm rfl (.plain rfl (ok_alloc (D := Zero2) zeroI rfl (fun _ _ => rfl))) ?_
      exact .nil
    · exact .keep (keptAny_ptr (keptAny_ib)) (.keep (keptAny_lit) (.skip (by kernel_rfl) (.keep (keptAny_ptr (keptAny_ib)) (.skip (by kernel_rfl) (.skip (by kernel_rfl) (.keep (keptAny_lit) (.keep (keptAny_lit) (.keep (keptAny_lit) (.skip (by kernel_rfl) (.skip (by kernel_rfl) (.keep (keptAny_box (keptAny_lit)) (.nil))))))))))))
    clear H9 a5 w6 B5 hw7
    intro a10 w10 B10 H10
    simp only [List.cons_append, List.nil_append] at H10
    refine any_oneT (l' := #[true, true, true, true, true, true, true, true, true, true, true, true, true]) 12 (by kernel_rfl) ?_
    refine store_op (l' := [(39, .val (IsN X)), (8, .box 25 2 (IsN X)), (907, .val (Sz m7)), (7, .box 25 2 (IsIb m7 X)), (4, .box 25 2 (IsArgb m7 ngy ny xy)), (6, .val (IsB false)), (2, .val (Lit (.int .u8 c)))]) 1 H10 rfl tyI rfl (.tmp 0 rfl) shape_Z shape_N rfl rfl ?_
    clear H10 w10
    intro w11 H11
    refine any_done (by kernel_rfl) ?_
    have H12 := St.setwB H11 4 (D' := IsArg ngy ny xy) rfl (fun v h => weakArgb v _ _ h) (l' := [(39, .val (IsN X)), (8, .box 25 2 (IsN X)), (907, .val (Sz m7)), (7, .box 25 2 (IsIb m7 X)), (4, .box 25 2 (IsArg ngy ny xy)), (6, .val (IsB false)), (2, .val (Lit (.int .u8 c)))]) rfl
    clear H11
    have H13 := St.setwB H12 3 (D' := IsI X) rfl (fun v h => weakIbI v _ _ h) (l' := [(39, .val (IsN X)), (8, .box 25 2 (IsN X)), (907, .val (Sz m7)), (7, .box 25 2 (IsI X)), (4, .box 25 2 (IsArg ngy ny xy)), (6, .val (IsB false)), (2, .val (Lit (.int .u8 c)))]) rfl
    clear H12
    refine then_normal ?_
    refine wp_seq ?_
    refine wp_seq ?_
    refine flow_region (dsts := [some 40, some 41, some 42, some 43]) (refs := [[.pre 3], [.res 0], [.res 1], [.res 2]]) (outs := [.res 3, .pre 1, .pre 2, .pre 3, .pre 4, .pre 5, .pre 6]) (als := [false, false, false, false]) (posts := [.ptr 25 2 (IsI X) 1, .val (IsC ((X).natAbs : Int)), .val (Lit (.int .i64 ((dg 4294967296 ((X).natAbs : Int)).length : Int))), .val (IsB (decide (((dg 4294967296 ((X).natAbs : Int)).length : Int) = 0)))])
      (out := [(43, .val (IsB (decide (((dg 4294967296 ((X).natAbs : Int)).length : Int) = 0)))), (8, .box 25 2 (IsN X)), (907, .val (Sz m7)), (7, .box 25 2 (IsI X)), (4, .box 25 2 (IsArg ngy ny xy)), (6, .val (IsB false)), (2, .val (Lit (.int .u8 c)))]) (nb := []) H13 4 [] rfl (by kernel_rfl) rfl rfl ?_ ?_
    · refine .cons (.plain rfl (ok_addrI1 (.tmp 0 rfl))) ?_
      refine .cons (.plain rfl (ok_loadMagI (.tmp 0 rfl))) ?_
      refine .cons (.plain rfl (ok_lenC (.tmp 0 rfl))) ?_
      refine .cons (.plain rfl (ok_cmp (.tmp 0 rfl) (.lit) rfl)) ?_
      exact .nil
    clear H13 a10 w11 B10
    intro a14 w14 B14 H14
    refine ops_done ?_
    refine then_normal ?_
    refine f_cond H14 (.tmp 0 rfl) ?_ ?_
    · intro hc15
      replace hc15 := of_decide_eq_true hc15
      have hX0 : X = 0 := by have := (dg_len_zero (show (0 : Int) ≤ (X.natAbs : Int) by omega)).1 hc15; omega
      refine flow_region (dsts := [some 44, some 45, some 46]) (refs := [[.pre 6], [.res 0], [.res 1]]) (outs := [.res 2, .pre 1, .pre 2, .pre 3, .pre 4, .pre 5]) (als := [false, false, false]) (posts := [.val (Lit (.int .u8 c)), .val (Lit (.int .u8 (c % 2))), .val (IsB (decide (c % 2 = 1)))])
        (out := [(46, .val (IsB (decide (c % 2 = 1)))), (8, .box 25 2 (IsN X)), (907, .val (Sz m7)), (7, .box 25 2 (IsI X)), (4, .box 25 2 (IsArg ngy ny xy)), (6, .val (IsB false))]) (nb := []) H14 3 [3, 4] rfl (by kernel_rfl) rfl rfl ?_ ?_
      · refine .cons (.plain rfl (ok_move (.tmp 0 rfl))) ?_
        refine .cons (.plain rfl (ok_rem (r := (c % 2)) (.tmp 0 rfl) (.lit) (by omega) (Int.tmod_eq_emod_of_nonneg (by omega)))) ?_
        refine .cons (.plain rfl (ok_cmp (.tmp 0 rfl) (.lit) rfl)) ?_
        exact .nil
      clear H14 a14 w14 B14
      intro a16 w16 B16 H16
      refine field_store (D' := IsN X) (l' := [(46, .val (IsB (decide (c % 2 = 1)))), (8, .box 25 2 (IsN X)), (907, .val (Sz m7)), (7, .box 25 2 (IsI X)), (4, .box 25 2 (IsArg ngy ny xy)), (6, .val (IsB false))]) 1 0 H16 rfl rfl Try.underlying25 rfl rfl sizeB sizeB1 rfl rfl rfl shape_N (by decide) (fun cs w B h => negSet hX0 _ cs w B h) rfl rfl ?_
      clear H16 a16 w16
      intro a17 w17 Hq17
      obtain ⟨B17, H17⟩ : ∃ B, St 171 w0 B0 a17 w17 B [(46, .val (IsB (decide (c % 2 = 1)))), (8, .box 25 2 (IsN X)), (907, .val (Sz m7)), (7, .box 25 2 (IsI X)), (4, .box 25 2 (IsArg ngy ny xy)), (6, .val (IsB false))] [8, 7, 3, 4] := ⟨_, Hq17⟩
      clear Hq17 B16
      refine ops_done ?_
      refine then_normal ?_
      refine wp_seq ?_
      refine flow_region (dsts := [some 49, some 50, some 51, some 48, some 52, some 53, some 54, some 9, some 10]) (refs := [[.pre 3], [.pre 4], [.res 0, .res 1], [.res 2], [.res 3], [.res 3], [.res 3], [], []]) (outs := [.res 4, .res 5, .res 6, .res 7, .res 8, .pre 1, .pre 2, .pre 3, .pre 4, .pre 5]) (als := [false, false, false, false, false, false, false, true, true]) (posts := [.val (IsI X), .val (IsArg ngy ny xy), .val (Tup [IsI (X.tdiv Y), IsI (tremI X Y), IsB (decide (Y ≠ 0))]), .val (Tup [IsI (X.tdiv Y), IsI (tremI X Y), IsB (decide (Y ≠ 0))]), .val (IsI (X.tdiv Y)), .val (IsI (tremI X Y)), .val (IsB (decide (Y ≠ 0))), .box 25 2 (Zero2), .box 25 2 (Zero2)])
        (out := [(52, .val (IsI (X.tdiv Y))), (53, .val (IsI (tremI X Y))), (54, .val (IsB (decide (Y ≠ 0)))), (9, .box 25 2 (Zero2)), (10, .box 25 2 (Zero2)), (8, .box 25 2 (IsN X)), (907, .val (Sz m7)), (7, .box 25 2 (IsI X)), (4, .box 25 2 (IsArg ngy ny xy)), (6, .val (IsB false))]) (nb := [9, 10]) H17 9 [9, 10, 11] rfl (by kernel_rfl) rfl rfl ?_ ?_
      · refine .cons (.plain rfl (ok_load tyI (.tmp 0 rfl))) ?_
        refine .cons (.plain rfl (ok_load tyI (.tmp 0 rfl))) ?_
        refine .cons (.plain rfl (ok_call (con_quo X Y) (.cons (.weak (.tmp 0 rfl) weakIN) (.cons (.weak (.tmp 1 rfl) (weakAN (by omega) hY)) (.nil))))) ?_
        refine .cons (.plain rfl (ok_move (.tmp 0 rfl))) ?_
        refine .cons (.plain rfl (ok_extract 0 (.tmp 0 rfl) rfl)) ?_
        refine .cons (.plain rfl (ok_extract 1 (.tmp 0 rfl) rfl)) ?_
        refine .cons (.plain rfl (ok_extract 2 (.tmp 0 rfl) rfl)) ?_
        refine .cons (.plain rfl (ok_alloc (D := Zero2) zeroI rfl (fun _ _ => rfl))) ?_
        refine .cons (.plain rfl (ok_alloc (D := Zero2) zeroI rfl (fun _ _ => rfl))) ?_
        exact .nil
      clear H17 a17 w17 B17
      intro a18 w18 B18 H18
      simp only [List.cons_append, List.nil_append] at H18
      refine ops_one ?_
      refine store_op (l' := [(52, .val (IsI (X.tdiv Y))), (53, .val (IsI (tremI X Y))), (54, .val (IsB (decide (Y ≠ 0)))), (9, .box 25 2 (IsI (X.tdiv Y))), (10, .box 25 2 (Zero2)), (8, .box 25 2 (IsN X)), (907, .val (Sz m7)), (7, .box 25 2 (IsI X)), (4, .box 25 2 (IsArg ngy ny xy)), (6, .val (IsB false))]) 3 H18 rfl tyI rfl (.tmp 0 rfl) shape_Z shape_I rfl rfl ?_
      clear H18 w18
      intro w19 H19
      refine ops_one ?_
      refine store_op (l' := [(52, .val (IsI (X.tdiv Y))), (53, .val (IsI (tremI X Y))), (54, .val (IsB (decide (Y ≠ 0)))), (9, .box 25 2 (IsI (X.tdiv Y))), (10, .box 25 2 (IsI (tremI X Y))), (8, .box 25 2 (IsN X)), (907, .val (Sz m7)), (7, .box 25 2 (IsI X)), (4, .box 25 2 (IsArg ngy ny xy)), (6, .val (IsB false))]) 4 H19 rfl tyI rfl (.tmp 1 rfl) shape_Z shape_I rfl rfl ?_
      clear H19 w19
      intro w20 H20
      refine ops_one ?_
      refine tail_op (D := .val (IsB (decide (Y ≠ 0)))) (l' := [(11, .val (IsB (decide (Y ≠ 0)))), (52, .val (IsI (X.tdiv Y))), (53, .val (IsI (tremI X Y))), (54, .val (IsB (decide (Y ≠ 0)))), (9, .box 25 2 (IsI (X.tdiv Y))), (10, .box 25 2 (IsI (tremI X Y))), (8, .box 25 2 (IsN X)), (907, .val (Sz m7)), (7, .box 25 2 (IsI X)), (4, .box 25 2 (IsArg ngy ny xy)), (6, .val (IsB false))]) H20 rfl rfl rfl (.plain rfl (ok_assign (.tmp 2 rfl))) rfl rfl ?_
      clear H20 a18 w20 B18
      intro a21 w21 B21 H21
      refine ops_done ?_
      refine then_normal ?_
      refine wp_seq ?_
      refine flow_region (dsts := [some 56, some 57, some 58, some 55, some 59, some 60, some 61, some 12, some 13]) (refs := [[.pre 6], [.pre 9], [.res 0, .res 1], [.res 2], [.res 3], [.res 3], [.res 3], [], []]) (outs := [.res 4, .res 5, .res 6, .res 7, .res 8, .pre 0, .pre 4, .pre 5, .pre 6, .pre 7, .pre 8, .pre 9, .pre 10]) (als := [false, false, false, false, false, false, false, true, true]) (posts := [.val (IsN X), .val (IsArg ngy ny xy), .val (Tup [IsI (X.tdiv Y), IsI (tremI X Y), IsB (decide (Y ≠ 0))]), .val (Tup [IsI (X.tdiv Y), IsI (tremI X Y), IsB (decide (Y ≠ 0))]), .val (IsI (X.tdiv Y)), .val (IsI (tremI X Y)), .val (IsB (decide (Y ≠ 0))), .box 25 2 (Zero2), .box 25 2 (Zero2)])
        (out := [(59, .val (IsI (X.tdiv Y))), (60, .val (IsI (tremI X Y))), (61, .val (IsB (decide (Y ≠ 0)))), (12, .box 25 2 (Zero2)), (13, .box 25 2 (Zero2)), (11, .val (IsB (decide (Y ≠ 0)))), (9, .box 25 2 (IsI (X.tdiv Y))), (10, .box 25 2 (IsI (tremI X Y))), (8, .box 25 2 (IsN X)), (907, .val (Sz m7)), (7, .box 25 2 (IsI X)), (4, .box 25 2 (IsArg ngy ny xy)), (6, .val (IsB false))]) (nb := [12, 13]) H21 9 [9, 10, 11] rfl (by kernel_rfl) rfl rfl ?_ ?_
      · refine .cons (.plain rfl (ok_load tyI (.tmp 0 rfl))) ?_
        refine .cons (.plain rfl (ok_load tyI (.tmp 0 rfl))) ?_
        refine .cons (.plain rfl (ok_call (con_quo X Y) (.cons (.tmp 0 rfl) (.cons (.weak (.tmp 1 rfl) (weakAN (by omega) hY)) (.nil))))) ?_
        refine .cons (.plain rfl (ok_move (.tmp 0 rfl))) ?_
        refine .cons (.plain rfl (ok_extract 0 (.tmp 0 rfl) rfl)) ?_
        refine .cons (.plain rfl (ok_extract 1 (.tmp 0 rfl) rfl)) ?_
        refine .cons (.plain rfl (ok_extract 2 (.tmp 0 rfl) rfl)) ?_
        refine .cons (.plain rfl (ok_alloc (D := Zero2) zeroI rfl (fun _ _ => rfl))) ?_
        refine .cons (.plain rfl (ok_alloc (D := Zero2) zeroI rfl (fun _ _ => rfl))) ?_
        exact .nil
      clear H21 a21 w21 B21
      intro a22 w22 B22 H22
      simp only [List.cons_append, List.nil_append] at H22
      refine ops_one ?_
      refine store_op (l' := [(59, .val (IsI (X.tdiv Y))), (60, .val (IsI (tremI X Y))), (61, .val (IsB (decide (Y ≠ 0)))), (12, .box 25 2 (IsI (X.tdiv Y))), (13, .box 25 2 (Zero2)), (11, .val (IsB (decide (Y ≠ 0)))), (9, .box 25 2 (IsI (X.tdiv Y))), (10, .box 25 2 (IsI (tremI X Y))), (8, .box 25 2 (IsN X)), (907, .val (Sz m7)), (7, .box 25 2 (IsI X)), (4, .box 25 2 (IsArg ngy ny xy)), (6, .val (IsB false))]) 3 H22 rfl tyI rfl (.tmp 0 rfl) shape_Z shape_I rfl rfl ?_
      clear H22 w22
      intro w23 H23
      refine ops_one ?_
      refine store_op (l' := [(59, .val (IsI (X.tdiv Y))), (60, .val (IsI (tremI X Y))), (61, .val (IsB (decide (Y ≠ 0)))), (12, .box 25 2 (IsI (X.tdiv Y))), (13, .box 25 2 (IsI (tremI X Y))), (11, .val (IsB (decide (Y ≠ 0)))), (9, .box 25 2 (IsI (X.tdiv Y))), (10, .box 25 2 (IsI (tremI X Y))), (8, .box 25 2 (IsN X)), (907, .val (Sz m7)), (7, .box 25 2 (IsI X)), (4, .box 25 2 (IsArg ngy ny xy)), (6, .val (IsB false))]) 4 H23 rfl tyI rfl (.tmp 1 rfl) shape_Z shape_I rfl rfl ?_
      clear H23 w23
      intro w24 H24
      refine ops_one ?_
      refine tail_op (D := .val (IsB (decide (Y ≠ 0)))) (l' := [(14, .val (IsB (decide (Y ≠ 0)))), (59, .val (IsI (X.tdiv Y))), (60, .val (IsI (tremI X Y))), (61, .val (IsB (decide (Y ≠ 0)))), (12, .box 25 2 (IsI (X.tdiv Y))), (13, .box 25 2 (IsI (tremI X Y))), (11, .val (IsB (decide (Y ≠ 0)))), (9, .box 25 2 (IsI (X.tdiv Y))), (10, .box 25 2 (IsI (tremI X Y))), (8, .box 25 2 (IsN X)), (907, .val (Sz m7)), (7, .box 25 2 (IsI X)), (4, .box 25 2 (IsArg ngy ny xy)), (6, .val (IsB false))]) H24 rfl rfl rfl (.plain rfl (ok_assign (.tmp 2 rfl))) rfl rfl ?_
      clear H24 a22 w24 B22
      intro a25 w25 B25 H25
      refine ops_done ?_
      refine then_normal ?_
      refine wp_seq ?_
      refine flow_region (dsts := [some 63, some 64, some 62, some 65, some 66, some 15, some 16]) (refs := [[.pre 11], [.res 0], [.res 1], [.res 2], [.res 2], [.res 3], [.res 4]]) (outs := [.res 5, .res 6, .pre 0, .pre 4, .pre 5, .pre 6, .pre 7, .pre 8, .pre 9, .pre 10, .pre 11, .pre 12, .pre 13]) (als := [false, false, false, false, false, false, false]) (posts := [.val (IsI X), .val (Tup [Lit (.string (strB (twosL X 9))), IsB (twosOk X 9)]), .val (Tup [Lit (.string (strB (twosL X 9))), IsB (twosOk X 9)]), .val (Lit (.string (strB (twosL X 9)))), .val (IsB (twosOk X 9)), .val (Lit (.string (strB (twosL X 9)))), .val (IsB (twosOk X 9))])
        (out := [(15, .val (Lit (.string (strB (twosL X 9))))), (16, .val (IsB (twosOk X 9))), (14, .val (IsB (decide (Y ≠ 0)))), (12, .box 25 2 (IsI (X.tdiv Y))), (13, .box 25 2 (IsI (tremI X Y))), (11, .val (IsB (decide (Y ≠ 0)))), (9, .box 25 2 (IsI (X.tdiv Y))), (10, .box 25 2 (IsI (tremI X Y))), (8, .box 25 2 (IsN X)), (907, .val (Sz m7)), (7, .box 25 2 (IsI X)), (4, .box 25 2 (IsArg ngy ny xy)), (6, .val (IsB false))]) (nb := []) H25 7 [] rfl (by kernel_rfl) rfl rfl ?_ ?_
      · refine .cons (.plain rfl (ok_load tyI (.tmp 0 rfl))) ?_
        refine .cons (.plain rfl (ok_call (con_twos X 9) (.cons (.weak (.tmp 0 rfl) weakIN) (.cons (.lit) (.nil))))) ?_
        refine .cons (.plain rfl (ok_move (.tmp 0 rfl))) ?_
        refine .cons (.plain rfl (ok_extract 0 (.tmp 0 rfl) rfl)) ?_
        refine .cons (.plain rfl (ok_extract 1 (.tmp 0 rfl) rfl)) ?_
        refine .cons (.plain rfl (ok_assign (.tmp 0 rfl))) ?_
        refine .cons (.plain rfl (ok_assign (.tmp 0 rfl))) ?_
        exact .nil
      clear H25 a25 w25 B25
      intro a26 w26 B26 H26
      refine ops_done ?_
      refine then_normal ?_
      refine wp_seq ?_
      refine flow_region (dsts := [some 68, some 69, some 67, some 70, some 71, some 17, some 18]) (refs := [[.pre 8], [.res 0], [.res 1], [.res 2], [.res 2], [.res 3], [.res 4]]) (outs := [.res 5, .res 6, .pre 0, .pre 1, .pre 2, .pre 3, .pre 4, .pre 5, .pre 6, .pre 7, .pre 8, .pre 9, .pre 10, .pre 11, .pre 12]) (als := [false, false, false, false, false, false, false]) (posts := [.val (IsN X), .val (Tup [Lit (.string (strB (twosL X 9))), IsB (twosOk X 9)]), .val (Tup [Lit (.string (strB (twosL X 9))), IsB (twosOk X 9)]), .val (Lit (.string (strB (twosL X 9)))), .val (IsB (twosOk X 9)), .val (Lit (.string (strB (twosL X 9)))), .val (IsB (twosOk X 9))])
        (out := [(17, .val (Lit (.string (strB (twosL X 9))))), (18, .val (IsB (twosOk X 9))), (15, .val (Lit (.string (strB (twosL X 9))))), (16, .val (IsB (twosOk X 9))), (14, .val (IsB (decide (Y ≠ 0)))), (12, .box 25 2 (IsI (X.tdiv Y))), (13, .box 25 2 (IsI (tremI X Y))), (11, .val (IsB (decide (Y ≠ 0)))), (9, .box 25 2 (IsI (X.tdiv Y))), (10, .box 25 2 (IsI (tremI X Y))), (8, .box 25 2 (IsN X)), (907, .val (Sz m7)), (7, .box 25 2 (IsI X)), (4, .box 25 2 (IsArg ngy ny xy)), (6, .val (IsB false))]) (nb := []) H26 7 [] rfl (by kernel_rfl) rfl rfl ?_ ?_
      · refine .cons (.plain rfl (ok_load tyI (.tmp 0 rfl))) ?_
        refine .cons (.plain rfl (ok_call (con_twos X 9) (.cons (.tmp 0 rfl) (.cons (.lit) (.nil))))) ?_
        refine .cons (.plain rfl (ok_move (.tmp 0 rfl))) ?_
        refine .cons (.plain rfl (ok_extract 0 (.tmp 0 rfl) rfl)) ?_
        refine .cons (.plain rfl (ok_extract 1 (.tmp 0 rfl) rfl)) ?_
        refine .cons (.plain rfl (ok_assign (.tmp 0 rfl))) ?_
        refine .cons (.plain rfl (ok_assign (.tmp 0 rfl))) ?_
        exact .nil
      clear H26 a26 w26 B26
      intro a27 w27 B27 H27
      refine ops_done ?_
      refine then_normal ?_
      refine wp_seq ?_
      refine flow_region (dsts := [some 73, some 74, some 72, some 75, some 76, some 19, some 20]) (refs := [[.pre 12], [.res 0], [.res 1], [.res 2], [.res 2], [.res 3], [.res 4]]) (outs := [.res 5, .res 6, .pre 0, .pre 1, .pre 2, .pre 3, .pre 4, .pre 5, .pre 6, .pre 7, .pre 8, .pre 9, .pre 10, .pre 11, .pre 12, .pre 13, .pre 14]) (als := [false, false, false, false, false, false, false]) (posts := [.val (IsI X), .val (Tup [Lit (.int .i64 (if okI64 X then X else 0)), IsB (okI64 X)]), .val (Tup [Lit (.int .i64 (if okI64 X then X else 0)), IsB (okI64 X)]), .val (Lit (.int .i64 (if okI64 X then X else 0))), .val (IsB (okI64 X)), .val (Lit (.int .i64 (if okI64 X then X else 0))), .val (IsB (okI64 X))])
        (out := [(19, .val (Lit (.int .i64 (if okI64 X then X else 0)))), (20, .val (IsB (okI64 X))), (17, .val (Lit (.string (strB (twosL X 9))))), (18, .val (IsB (twosOk X 9))), (15, .val (Lit (.string (strB (twosL X 9))))), (16, .val (IsB (twosOk X 9))), (14, .val (IsB (decide (Y ≠ 0)))), (12, .box 25 2 (IsI (X.tdiv Y))), (13, .box 25 2 (IsI (tremI X Y))), (11, .val (IsB (decide (Y ≠ 0)))), (9, .box 25 2 (IsI (X.tdiv Y))), (10, .box 25 2 (IsI (tremI X Y))), (8, .box 25 2 (IsN X)), (907, .val (Sz m7)), (7, .box 25 2 (IsI X)), (4, .box 25 2 (IsArg ngy ny xy)), (6, .val (IsB false))]) (nb := []) H27 7 [] rfl (by kernel_rfl) rfl rfl ?_ ?_
      · refine .cons (.plain rfl (ok_load tyI (.tmp 0 rfl))) ?_
        refine .cons (.plain rfl (ok_call (con_int64 X) (.cons (.weak (.tmp 0 rfl) weakIN) (.nil)))) ?_
        refine .cons (.plain rfl (ok_move (.tmp 0 rfl))) ?_
        refine .cons (.plain rfl (ok_extract 0 (.tmp 0 rfl) rfl)) ?_
        refine .cons (.plain rfl (ok_extract 1 (.tmp 0 rfl) rfl)) ?_
        refine .cons (.plain rfl (ok_assign (.tmp 0 rfl))) ?_
        refine .cons (.plain rfl (ok_assign (.tmp 0 rfl))) ?_
        exact .nil
      clear H27 a27 w27 B27
      intro a28 w28 B28 H28
      refine ops_done ?_
      refine then_normal ?_
      refine wp_seq ?_
      refine flow_region (dsts := [some 78, some 79, some 77, some 80, some 81, some 21, some 22]) (refs := [[.pre 12], [.res 0], [.res 1], [.res 2], [.res 2], [.res 3], [.res 4]]) (outs := [.res 5, .res 6, .pre 0, .pre 1, .pre 2, .pre 3, .pre 4, .pre 5, .pre 6, .pre 7, .pre 8, .pre 9, .pre 10, .pre 11, .pre 12, .pre 13, .pre 14, .pre 15, .pre 16]) (als := [false, false, false, false, false, false, false]) (posts := [.val (IsN X), .val (Tup [Lit (.int .i64 (if okI64 X then X else 0)), IsB (okI64 X)]), .val (Tup [Lit (.int .i64 (if okI64 X then X else 0)), IsB (okI64 X)]), .val (Lit (.int .i64 (if okI64 X then X else 0))), .val (IsB (okI64 X)), .val (Lit (.int .i64 (if okI64 X then X else 0))), .val (IsB (okI64 X))])
        (out := [(21, .val (Lit (.int .i64 (if okI64 X then X else 0)))), (22, .val (IsB (okI64 X))), (19, .val (Lit (.int .i64 (if okI64 X then X else 0)))), (20, .val (IsB (okI64 X))), (17, .val (Lit (.string (strB (twosL X 9))))), (18, .val (IsB (twosOk X 9))), (15, .val (Lit (.string (strB (twosL X 9))))), (16, .val (IsB (twosOk X 9))), (14, .val (IsB (decide (Y ≠ 0)))), (12, .box 25 2 (IsI (X.tdiv Y))), (13, .box 25 2 (IsI (tremI X Y))), (11, .val (IsB (decide (Y ≠ 0)))), (9, .box 25 2 (IsI (X.tdiv Y))), (10, .box 25 2 (IsI (tremI X Y))), (8, .box 25 2 (IsN X)), (907, .val (Sz m7)), (7, .box 25 2 (IsI X)), (4, .box 25 2 (IsArg ngy ny xy)), (6, .val (IsB false))]) (nb := []) H28 7 [] rfl (by kernel_rfl) rfl rfl ?_ ?_
      · refine .cons (.plain rfl (ok_load tyI (.tmp 0 rfl))) ?_
        refine .cons (.plain rfl (ok_call (con_int64 X) (.cons (.tmp 0 rfl) (.nil)))) ?_
        refine .cons (.plain rfl (ok_move (.tmp 0 rfl))) ?_
        refine .cons (.plain rfl (ok_extract 0 (.tmp 0 rfl) rfl)) ?_
        refine .cons (.plain rfl (ok_extract 1 (.tmp 0 rfl) rfl)) ?_
        refine .cons (.plain rfl (ok_assign (.tmp 0 rfl))) ?_
        refine .cons (.plain rfl (ok_assign (.tmp 0 rfl))) ?_
        exact .nil
      clear H28 a28 w28 B28
      intro a29 w29 B29 H29
      refine ops_done ?_
      refine then_normal ?_
      refine wp_seq ?_
      refine wp_seq ?_
      refine flow_drawT (dsts := [some 82, some 83, some 84, some 85, some 86, some 87, some 88, some 89, some 90, some 91, some 92, some 93, some 94, some 95, some 96, some 97, some 98, some 99, some 100, some 101, some 102, some 103, some 104, some 105, some 106, some 107, some 108, some 109, some 110, some 111, some 112, some 113, some 114, some 115, some 116, some 117, some 118, some 119, some 120, some 121, some 122, some 123, some 124, some 125, some 126, some 127, some 128, some 129]) (refs := [[.pre 2], [.pre 0], [.res 0, .res 1], [.res 2], [.res 3, .pre 3], [.res 3, .pre 1], [.res 3, .res 4, .res 5], [.res 3, .res 6], [.res 7], [.res 8, .pre 6], [.res 8, .pre 4], [.res 8, .res 9, .res 10], [.res 8, .res 11], [.res 12], [.res 13, .pre 7], [.res 13, .pre 5], [.res 13, .res 14, .res 15], [.res 13, .res 16], [.res 17], [.res 18, .pre 11], [.res 18, .pre 8], [.res 18, .res 19, .res 20], [.res 18, .res 21], [.res 22], [.res 23, .pre 12], [.res 23, .pre 9], [.res 23, .res 24, .res 25], [.res 23, .res 26], [.res 23, .res 27], [.res 28], [.res 29, .pre 13], [.res 29, .pre 10], [.res 29, .res 30, .res 31], [.res 29, .res 32], [.res 29, .res 33], [.res 34], [.res 35, .pre 16], [.res 35, .pre 14], [.res 35, .res 36, .res 37], [.res 35, .res 38], [.res 35, .res 39], [.res 40], [.res 41, .pre 16], [.res 41, .res 42], [.res 41, .pre 14], [.res 41, .res 44], [.res 41, .res 43, .res 45], [.res 41, .res 46]]) (outs := [.res 47, .pre 14, .pre 15, .pre 16, .pre 17, .pre 18]) (als := [false, false, false, false, false, false, false, false, false, false, false, false, false, false, false, false, false, false, false, false, false, false, false, false, false, false, false, false, false, false, false, false, false, false, false, false, false, false, false, false, false, false, false, false, false, false, false, false]) (posts := [.val (Lit (.int .i64 (if okI64 X then X else 0))), .val (Lit (.int .i64 (if okI64 X then X else 0))), .val (IsB false), .val (IsB false), .val (IsB (okI64 X)), .val (IsB (okI64 X)), .val (IsB false), .val (IsB false), .val (IsB false), .val (Lit (.string (strB (twosL X 9)))), .val (Lit (.string (strB (twosL X 9)))), .val (IsB false), .val (IsB false), .val (IsB false), .val (IsB (twosOk X 9)), .val (IsB (twosOk X 9)), .val (IsB false), .val (IsB false), .val (IsB false), .val (IsB (decide (Y ≠ 0))), .val (IsB (decide (Y ≠ 0))), .val (IsB false), .val (IsB false), .val (IsB false), .val (IsI (X.tdiv Y)), .val (IsI (X.tdiv Y)), .val (IsB true), .val (IsB false), .val (IsB false), .val (IsB false), .val (IsI (tremI X Y)), .val (IsI (tremI X Y)), .val (IsB true), .val (IsB false), .val (IsB false), .val (IsB false), .val (IsI X), .val (IsN X), .val (Lit (.int .i64 (cmpI X X))), .val (IsB false), .val (IsB false), .val (IsB false), .val (IsI X), .val (Lit (.string (strB (showL X)))), .val (IsN X), .val (Lit (.string (strB (showL X)))), .val (IsB false), .val (IsB false)])
        (out := [(129, .val (IsB false)), (8, .box 25 2 (IsN X)), (907, .val (Sz m7)), (7, .box 25 2 (IsI X)), (4, .box 25 2 (IsArg ngy ny xy)), (6, .val (IsB false))]) (nb := []) H29 (by kernel_rfl) 48 0 #[true, true, true, true, true, true, true, true, true, true, true, true, true, true, true, true, true, true, true, true, true, true, true, true, true, true, true, true, true, true, true, true, true, true, true, true, true, true, true, true, true, true, true, true, true, true, true, true] (by kernel_rfl) (by kernel_rfl) rfl rfl ?_ ?_
      · refine .cons (.plain rfl (ok_move (.tmp 0 rfl))) ?_
        refine .cons (.plain rfl (ok_move (.tmp 0 rfl))) ?_
        refine .cons (.plain rfl (ok_cmp (b := false) (.tmp 0 rfl) (.tmp 1 rfl) ((decide_eq_false (fun h => h rfl)).symm))) ?_
        refine .cons (.plain rfl (ok_move (.tmp 0 rfl))) ?_
        refine .cons (.wanted 3 false rfl rfl rfl 0 rfl (ok_move (.tmp 1 rfl))) ?_
        refine .cons (.wanted 3 false rfl rfl rfl 0 rfl (ok_move (.tmp 1 rfl))) ?_
        refine .cons (.wanted 3 false rfl rfl rfl 0 rfl (OpOk.eqB (b := (okI64 X) != (okI64 X)) (ok_neB Try.underlying4 (.tmp 1 rfl) (.tmp 2 rfl)) (bne_self_eq_false _))) ?_
        refine .cons (.plain rfl (ok_pickF (.tmp 0 rfl) (.tmp 1 rfl))) ?_
        refine .cons (.plain rfl (ok_move (.tmp 0 rfl))) ?_
        refine .cons (.wanted 8 false rfl rfl rfl 0 rfl (ok_move (.tmp 1 rfl))) ?_
        refine .cons (.wanted 8 false rfl rfl rfl 0 rfl (ok_move (.tmp 1 rfl))) ?_
        refine .cons (.wanted 8 false rfl rfl rfl 0 rfl (ok_neS (b := false) (.tmp 1 rfl) (.tmp 2 rfl) ((decide_eq_false (fun h => h rfl)).symm))) ?_
        refine .cons (.plain rfl (ok_pickF (.tmp 0 rfl) (.tmp 1 rfl))) ?_
        refine .cons (.plain rfl (ok_move (.tmp 0 rfl))) ?_
        refine .cons (.wanted 13 false rfl rfl rfl 0 rfl (ok_move (.tmp 1 rfl))) ?_
        refine .cons (.wanted 13 false rfl rfl rfl 0 rfl (ok_move (.tmp 1 rfl))) ?_
        refine .cons (.wanted 13 false rfl rfl rfl 0 rfl (OpOk.eqB (b := (twosOk X 9) != (twosOk X 9)) (ok_neB Try.underlying4 (.tmp 1 rfl) (.tmp 2 rfl)) (bne_self_eq_false _))) ?_
        refine .cons (.plain rfl (ok_pickF (.tmp 0 rfl) (.tmp 1 rfl))) ?_
        refine .cons (.plain rfl (ok_move (.tmp 0 rfl))) ?_
        refine .cons (.wanted 18 false rfl rfl rfl 0 rfl (ok_move (.tmp 1 rfl))) ?_
        refine .cons (.wanted 18 false rfl rfl rfl 0 rfl (ok_move (.tmp 1 rfl))) ?_
        refine .cons (.wanted 18 false rfl rfl rfl 0 rfl (OpOk.eqB (b := (decide (Y ≠ 0)) != (decide (Y ≠ 0))) (ok_neB Try.underlying4 (.tmp 1 rfl) (.tmp 2 rfl)) (bne_self_eq_false _))) ?_
        refine .cons (.plain rfl (ok_pickF (.tmp 0 rfl) (.tmp 1 rfl))) ?_
        refine .cons (.plain rfl (ok_move (.tmp 0 rfl))) ?_
        refine .cons (.wanted 23 false rfl rfl rfl 0 rfl (ok_load tyI (.tmp 1 rfl))) ?_
        refine .cons (.wanted 23 false rfl rfl rfl 0 rfl (ok_load tyI (.tmp 1 rfl))) ?_
        refine .cons (.wanted 23 false rfl rfl rfl 0 rfl (ok_call (con_sameT (X := (X.tdiv Y)) rfl) (.cons (.tmp 1 rfl) (.cons (.tmp 2 rfl) (.nil))))) ?_
        refine .cons (.wanted 23 false rfl rfl rfl 0 rfl (ok_not (b := true) (.tmp 1 rfl))) ?_
        refine .cons (.plain rfl (ok_pickF (.tmp 0 rfl) (.tmp 1 rfl))) ?_
        refine .cons (.plain rfl (ok_move (.tmp 0 rfl))) ?_
        refine .cons (.wanted 29 false rfl rfl rfl 0 rfl (ok_load tyI (.tmp 1 rfl))) ?_
        refine .cons (.wanted 29 false rfl rfl rfl 0 rfl (ok_load tyI (.tmp 1 rfl))) ?_
        refine .cons (.wanted 29 false rfl rfl rfl 0 rfl (ok_call (con_sameT (X := (tremI X Y)) rfl) (.cons (.tmp 1 rfl) (.cons (.tmp 2 rfl) (.nil))))) ?_
        refine .cons (.wanted 29 false rfl rfl rfl 0 rfl (ok_not (b := true) (.tmp 1 rfl))) ?_
        refine .cons (.plain rfl (ok_pickF (.tmp 0 rfl) (.tmp 1 rfl))) ?_
        refine .cons (.plain rfl (ok_move (.tmp 0 rfl))) ?_
        refine .cons (.wanted 35 false rfl rfl rfl 0 rfl (ok_load tyI (.tmp 1 rfl))) ?_
        refine .cons (.wanted 35 false rfl rfl rfl 0 rfl (ok_load tyI (.tmp 1 rfl))) ?_
        refine .cons (.wanted 35 false rfl rfl rfl 0 rfl (ok_call (con_cmp X X) (.cons (.weak (.tmp 1 rfl) weakIN) (.cons (.tmp 2 rfl) (.nil))))) ?_
        refine .cons (.wanted 35 false rfl rfl rfl 0 rfl (ok_cmp (b := false) (.tmp 1 rfl) (.lit) ((decide_eq_false (fun h => h (cmpI_eq rfl))).symm))) ?_
        refine .cons (.plain rfl (ok_pickF (.tmp 0 rfl) (.tmp 1 rfl))) ?_
        refine .cons (.plain rfl (ok_move (.tmp 0 rfl))) ?_
        refine .cons (.wanted 41 false rfl rfl rfl 0 rfl (ok_load tyI (.tmp 1 rfl))) ?_
        refine .cons (.wanted 41 false rfl rfl rfl 0 rfl (ok_call (con_show X) (.cons (.weak (.tmp 1 rfl) weakIN) (.nil)))) ?_
        refine .cons (.wanted 41 false rfl rfl rfl 0 rfl (ok_load tyI (.tmp 1 rfl))) ?_
        refine .cons (.wanted 41 false rfl rfl rfl 0 rfl (ok_call (con_show X) (.cons (.tmp 1 rfl) (.nil)))) ?_
        refine .cons (.wanted 41 false rfl rfl rfl 0 rfl (ok_neS (b := false) (.tmp 1 rfl) (.tmp 2 rfl) ((decide_eq_false (fun h => h rfl)).symm))) ?_
        refine .cons (.plain rfl (ok_pickF (.tmp 0 rfl) (.tmp 1 rfl))) ?_
        exact .nil
      clear H29 a29 w29 B29
      intro a30 w30 B30 H30
      refine any_done (by kernel_rfl) ?_
      refine then_normal ?_
      refine f_condF H30 (.tmp 0 rfl) ?_
      refine wp_skip ?_
      refine then_normal ?_
      refine wp_seq ?_
      refine flow_drawT (dsts := [some 130, some 131, some 132, some 133, some 134, some 135, some 136, some 137, some 138, some 139, some 140, some 141, some 142, some 143, some 144, some 145, some 146, some 147, some 148, some 149, some 150, some 151, some 152, some 153, some 154, some 155, some 156, some 157, some 158, some 159, some 160, some 161, some 162, some 163, some 164, some 165, some 166, some 167, some 168, some 169, some 170, some 6]) (refs := [[.pre 1], [.res 0], [.pre 3], [.res 1, .res 2], [.res 3], [.res 4, .pre 3], [.res 4, .pre 4], [.res 4, .res 5, .res 6], [.res 4, .pre 1], [.res 4, .pre 4], [.res 4, .res 8, .res 9], [.res 4, .res 7, .res 10], [.res 4, .res 11], [.res 12], [.res 13, .pre 4], [.res 13, .pre 1], [.res 13, .res 14, .res 15], [.res 13, .pre 4], [.res 13, .pre 3], [.res 13, .res 17, .res 18], [.res 13, .res 16, .res 19], [.res 13, .res 20], [.res 21], [.res 22, .pre 4], [.res 22, .pre 1], [.res 22, .res 23, .res 24], [.res 22, .pre 4], [.res 22, .pre 3], [.res 22, .res 26, .res 27], [.res 22, .res 25, .res 28], [.res 22, .res 29], [.res 30], [.res 31, .pre 3], [.res 31, .res 32], [.res 31, .pre 1], [.res 31, .res 34], [.res 31, .res 33, .res 35], [.res 31, .res 36], [.res 37], [.res 38], [.res 38, .res 39], [.res 40]]) (outs := [.res 41, .pre 2]) (als := [false, false, false, false, false, false, false, false, false, false, false, false, false, false, false, false, false, false, false, false, false, false, false, false, false, false, false, false, false, false, false, false, false, false, false, false, false, false, false, false, false, false]) (posts := [.val (IsN X), .val (IsI X), .val (IsI X), .val (IsB true), .val (IsB true), .val (IsI X), .val (IsArg ngy ny xy), .val (IsI (X + Y)), .val (IsN X), .val (IsArg ngy ny xy), .val (IsI (X + Y)), .val (IsB true), .val (IsB true), .val (IsB true), .val (IsArg ngy ny xy), .val (IsN X), .val (IsI (Y * X)), .val (IsArg ngy ny xy), .val (IsI X), .val (IsI (Y * X)), .val (IsB true), .val (IsB true), .val (IsB true), .val (IsArg ngy ny xy), .val (IsN X), .val (IsI (Y - X)), .val (IsArg ngy ny xy), .val (IsI X), .val (IsI (Y - X)), .val (IsB true), .val (IsB true), .val (IsB true), .val (IsI X), .val (IsI (-X)), .val (IsN X), .val (IsI (-X)), .val (IsB true), .val (IsB true), .val (IsB true), .val (IsB true), .val (IsB true), .val (IsB true)])
        (out := [(6, .val (IsB true)), (907, .val (Sz m7))]) (nb := []) H30 (by kernel_rfl) 42 0 #[true, true, true, true, true, true, true, true, true, true, true, true, true, true, true, true, true, true, true, true, true, true, true, true, true, true, true, true, true, true, true, true, true, true, true, true, true, true, true, true, true, true] (by kernel_rfl) (by kernel_rfl) rfl rfl ?_ ?_
      · refine .cons (.plain rfl (ok_load tyI (.tmp 0 rfl))) ?_
        refine .cons (.plain rfl (ok_call (con_norm X) (.cons (.tmp 0 rfl) (.nil)))) ?_
        refine .cons (.plain rfl (ok_load tyI (.tmp 0 rfl))) ?_
        refine .cons (.plain rfl (ok_call (con_sameT (X := X) rfl) (.cons (.tmp 0 rfl) (.cons (.tmp 1 rfl) (.nil))))) ?_
        refine .cons (.plain rfl (ok_move (.tmp 0 rfl))) ?_
        refine .cons (.wanted 4 true rfl rfl rfl 0 rfl (ok_load tyI (.tmp 1 rfl))) ?_
        refine .cons (.wanted 4 true rfl rfl rfl 0 rfl (ok_load tyI (.tmp 1 rfl))) ?_
        refine .cons (.wanted 4 true rfl rfl rfl 0 rfl (ok_call (con_add X Y (((fX.add fY)).fits (by omega))) (.cons (.weak (.tmp 1 rfl) weakIN) (.cons (.weak (.tmp 2 rfl) (weakAN (by omega) hY)) (.nil))))) ?_
        refine .cons (.wanted 4 true rfl rfl rfl 0 rfl (ok_load tyI (.tmp 1 rfl))) ?_
        refine .cons (.wanted 4 true rfl rfl rfl 0 rfl (ok_load tyI (.tmp 1 rfl))) ?_
        refine .cons (.wanted 4 true rfl rfl rfl 0 rfl (ok_call (con_add X Y (((fX.add fY)).fits (by omega))) (.cons (.tmp 1 rfl) (.cons (.weak (.tmp 2 rfl) (weakAN (by omega) hY)) (.nil))))) ?_
        refine .cons (.wanted 4 true rfl rfl rfl 0 rfl (ok_call (con_sameT (X := (X + Y)) rfl) (.cons (.tmp 1 rfl) (.cons (.tmp 2 rfl) (.nil))))) ?_
        refine .cons (.plain rfl (ok_pickT (.tmp 0 rfl) (.tmp 1 rfl))) ?_
        refine .cons (.plain rfl (ok_move (.tmp 0 rfl))) ?_
        refine .cons (.wanted 13 true rfl rfl rfl 0 rfl (ok_load tyI (.tmp 1 rfl))) ?_
        refine .cons (.wanted 13 true rfl rfl rfl 0 rfl (ok_load tyI (.tmp 1 rfl))) ?_
        refine .cons (.wanted 13 true rfl rfl rfl 0 rfl (ok_call (con_mul Y X (((fY.mul fX)).fits (by omega))) (.cons (.weak (.tmp 1 rfl) (weakAN (by omega) hY)) (.cons (.tmp 2 rfl) (.nil))))) ?_
        refine .cons (.wanted 13 true rfl rfl rfl 0 rfl (ok_load tyI (.tmp 1 rfl))) ?_
        refine .cons (.wanted 13 true rfl rfl rfl 0 rfl (ok_load tyI (.tmp 1 rfl))) ?_
        refine .cons (.wanted 13 true rfl rfl rfl 0 rfl (ok_call (con_mul Y X (((fY.mul fX)).fits (by omega))) (.cons (.weak (.tmp 1 rfl) (weakAN (by omega) hY)) (.cons (.weak (.tmp 2 rfl) weakIN) (.nil))))) ?_
        refine .cons (.wanted 13 true rfl rfl rfl 0 rfl (ok_call (con_sameT (X := (Y * X)) rfl) (.cons (.tmp 1 rfl) (.cons (.tmp 2 rfl) (.nil))))) ?_
        refine .cons (.plain rfl (ok_pickT (.tmp 0 rfl) (.tmp 1 rfl))) ?_
        refine .cons (.plain rfl (ok_move (.tmp 0 rfl))) ?_
        refine .cons (.wanted 22 true rfl rfl rfl 0 rfl (ok_load tyI (.tmp 1 rfl))) ?_
        refine .cons (.wanted 22 true rfl rfl rfl 0 rfl (ok_load tyI (.tmp 1 rfl))) ?_
        refine .cons (.wanted 22 true rfl rfl rfl 0 rfl (ok_call (con_sub Y X (((fY.sub fX)).fits (by omega))) (.cons (.weak (.tmp 1 rfl) (weakAN (by omega) hY)) (.cons (.tmp 2 rfl) (.nil))))) ?_
        refine .cons (.wanted 22 true rfl rfl rfl 0 rfl (ok_load tyI (.tmp 1 rfl))) ?_
        refine .cons (.wanted 22 true rfl rfl rfl 0 rfl (ok_load tyI (.tmp 1 rfl))) ?_
        refine .cons (.wanted 22 true rfl rfl rfl 0 rfl (ok_call (con_sub Y X (((fY.sub fX)).fits (by omega))) (.cons (.weak (.tmp 1 rfl) (weakAN (by omega) hY)) (.cons (.weak (.tmp 2 rfl) weakIN) (.nil))))) ?_
        refine .cons (.wanted 22 true rfl rfl rfl 0 rfl (ok_call (con_sameT (X := (Y - X)) rfl) (.cons (.tmp 1 rfl) (.cons (.tmp 2 rfl) (.nil))))) ?_
        refine .cons (.plain rfl (ok_pickT (.tmp 0 rfl) (.tmp 1 rfl))) ?_
        refine .cons (.plain rfl (ok_move (.tmp 0 rfl))) ?_
        refine .cons (.wanted 31 true rfl rfl rfl 0 rfl (ok_load tyI (.tmp 1 rfl))) ?_
        refine .cons (.wanted 31 true rfl rfl rfl 0 rfl (ok_call (con_neg X) (.cons (.weak (.tmp 1 rfl) weakIN) (.nil)))) ?_
        refine .cons (.wanted 31 true rfl rfl rfl 0 rfl (ok_load tyI (.tmp 1 rfl))) ?_
        refine .cons (.wanted 31 true rfl rfl rfl 0 rfl (ok_call (con_neg X) (.cons (.tmp 1 rfl) (.nil)))) ?_
        refine .cons (.wanted 31 true rfl rfl rfl 0 rfl (ok_call (con_sameT (X := (-X)) rfl) (.cons (.tmp 1 rfl) (.cons (.tmp 2 rfl) (.nil))))) ?_
        refine .cons (.plain rfl (ok_pickT (.tmp 0 rfl) (.tmp 1 rfl))) ?_
        refine .cons (.plain rfl (ok_move (.tmp 0 rfl))) ?_
        refine .cons (.wanted 38 true rfl rfl rfl 0 rfl (ok_call (con_lives3) (.nil))) ?_
        refine .cons (.plain rfl (ok_pickT (.tmp 0 rfl) (.tmp 1 rfl))) ?_
        refine .cons (.plain rfl (ok_assign (.tmp 0 rfl))) ?_
        exact .nil
      clear H30 a30 w30 B30
      intro a31 w31 B31 H31
      refine any_done (by kernel_rfl) ?_
      refine then_normal ?_
      refine wp_ret ?_
      exact f_ret H31 rfl 0 rfl (fun _ _ _ h => h)
    · intro hc15
      replace hc15 := of_decide_eq_false hc15
      refine wp_skip ?_
      refine then_normal ?_
      refine wp_seq ?_
      refine flow_region (dsts := [some 49, some 50, some 51, some 48, some 52, some 53, some 54, some 9, some 10]) (refs := [[.pre 3], [.pre 4], [.res 0, .res 1], [.res 2], [.res 3], [.res 3], [.res 3], [], []]) (outs := [.res 4, .res 5, .res 6, .res 7, .res 8, .pre 1, .pre 2, .pre 3, .pre 4, .pre 5]) (als := [false, false, false, false, false, false, false, true, true]) (posts := [.val (IsI X), .val (IsArg ngy ny xy), .val (Tup [IsI (X.tdiv Y), IsI (tremI X Y), IsB (decide (Y ≠ 0))]), .val (Tup [IsI (X.tdiv Y), IsI (tremI X Y), IsB (decide (Y ≠ 0))]), .val (IsI (X.tdiv Y)), .val (IsI (tremI X Y)), .val (IsB (decide (Y ≠ 0))), .box 25 2 (Zero2), .box 25 2 (Zero2)])
        (out := [(52, .val (IsI (X.tdiv Y))), (53, .val (IsI (tremI X Y))), (54, .val (IsB (decide (Y ≠ 0)))), (9, .box 25 2 (Zero2)), (10, .box 25 2 (Zero2)), (8, .box 25 2 (IsN X)), (907, .val (Sz m7)), (7, .box 25 2 (IsI X)), (4, .box 25 2 (IsArg ngy ny xy)), (6, .val (IsB false))]) (nb := [9, 10]) H14 9 [9, 10, 11] rfl (by kernel_rfl) rfl rfl ?_ ?_
      · refine .cons (.plain rfl (ok_load tyI (.tmp 0 rfl))) ?_
        refine .cons (.plain rfl (ok_load tyI (.tmp 0 rfl))) ?_
        refine .cons (.plain rfl (ok_call (con_quo X Y) (.cons (.weak (.tmp 0 rfl) weakIN) (.cons (.weak (.tmp 1 rfl) (weakAN (by omega) hY)) (.nil))))) ?_
        refine .cons (.plain rfl (ok_move (.tmp 0 rfl))) ?_
        refine .cons (.plain rfl (ok_extract 0 (.tmp 0 rfl) rfl)) ?_
        refine .cons (.plain rfl (ok_extract 1 (.tmp 0 rfl) rfl)) ?_
        refine .cons (.plain rfl (ok_extract 2 (.tmp 0 rfl) rfl)) ?_
        refine .cons (.plain rfl (ok_alloc (D := Zero2) zeroI rfl (fun _ _ => rfl))) ?_
        refine .cons (.plain rfl (ok_alloc (D := Zero2) zeroI rfl (fun _ _ => rfl))) ?_
        exact .nil
      clear H14 a14 w14 B14
      intro a32 w32 B32 H32
      simp only [List.cons_append, List.nil_append] at H32
      refine ops_one ?_
      refine store_op (l' := [(52, .val (IsI (X.tdiv Y))), (53, .val (IsI (tremI X Y))), (54, .val (IsB (decide (Y ≠ 0)))), (9, .box 25 2 (IsI (X.tdiv Y))), (10, .box 25 2 (Zero2)), (8, .box 25 2 (IsN X)), (907, .val (Sz m7)), (7, .box 25 2 (IsI X)), (4, .box 25 2 (IsArg ngy ny xy)), (6, .val (IsB false))]) 3 H32 rfl tyI rfl (.tmp 0 rfl) shape_Z shape_I rfl rfl ?_
      clear H32 w32
      intro w33 H33
      refine ops_one ?_
      refine store_op (l' := [(52, .val (IsI (X.tdiv Y))), (53, .val (IsI (tremI X Y))), (54, .val (IsB (decide (Y ≠ 0)))), (9, .box 25 2 (IsI (X.tdiv Y))), (10, .box 25 2 (IsI (tremI X Y))), (8, .box 25 2 (IsN X)), (907, .val (Sz m7)), (7, .box 25 2 (IsI X)), (4, .box 25 2 (IsArg ngy ny xy)), (6, .val (IsB false))]) 4 H33 rfl tyI rfl (.tmp 1 rfl) shape_Z shape_I rfl rfl ?_
      clear H33 w33
      intro w34 H34
      refine ops_one ?_
      refine tail_op (D := .val (IsB (decide (Y ≠ 0)))) (l' := [(11, .val (IsB (decide (Y ≠ 0)))), (52, .val (IsI (X.tdiv Y))), (53, .val (IsI (tremI X Y))), (54, .val (IsB (decide (Y ≠ 0)))), (9, .box 25 2 (IsI (X.tdiv Y))), (10, .box 25 2 (IsI (tremI X Y))), (8, .box 25 2 (IsN X)), (907, .val (Sz m7)), (7, .box 25 2 (IsI X)), (4, .box 25 2 (IsArg ngy ny xy)), (6, .val (IsB false))]) H34 rfl rfl rfl (.plain rfl (ok_assign (.tmp 2 rfl))) rfl rfl ?_
      clear H34 a32 w34 B32
      intro a35 w35 B35 H35
      refine ops_done ?_
      refine then_normal ?_
      refine wp_seq ?_
      refine flow_region (dsts := [some 56, some 57, some 58, some 55, some 59, some 60, some 61, some 12, some 13]) (refs := [[.pre 6], [.pre 9], [.res 0, .res 1], [.res 2], [.res 3], [.res 3], [.res 3], [], []]) (outs := [.res 4, .res 5, .res 6, .res 7, .res 8, .pre 0, .pre 4, .pre 5, .pre 6, .pre 7, .pre 8, .pre 9, .pre 10]) (als := [false, false, false, false, false, false, false, true, true]) (posts := [.val (IsN X), .val (IsArg ngy ny xy), .val (Tup [IsI (X.tdiv Y), IsI (tremI X Y), IsB (decide (Y ≠ 0))]), .val (Tup [IsI (X.tdiv Y), IsI (tremI X Y), IsB (decide (Y ≠ 0))]), .val (IsI (X.tdiv Y)), .val (IsI (tremI X Y)), .val (IsB (decide (Y ≠ 0))), .box 25 2 (Zero2), .box 25 2 (Zero2)])
        (out := [(59, .val (IsI (X.tdiv Y))), (60, .val (IsI (tremI X Y))), (61, .val (IsB (decide (Y ≠ 0)))), (12, .box 25 2 (Zero2)), (13, .box 25 2 (Zero2)), (11, .val (IsB (decide (Y ≠ 0)))), (9, .box 25 2 (IsI (X.tdiv Y))), (10, .box 25 2 (IsI (tremI X Y))), (8, .box 25 2 (IsN X)), (907, .val (Sz m7)), (7, .box 25 2 (IsI X)), (4, .box 25 2 (IsArg ngy ny xy)), (6, .val (IsB false))]) (nb := [12, 13]) H35 9 [9, 10, 11] rfl (by kernel_rfl) rfl rfl ?_ ?_
      · refine .cons (.plain rfl (ok_load tyI (.tmp 0 rfl))) ?_
        refine .cons (.plain rfl (ok_load tyI (.tmp 0 rfl))) ?_
        refine .cons (.plain rfl (ok_call (con_quo X Y) (.cons (.tmp 0 rfl) (.cons (.weak (.tmp 1 rfl) (weakAN (by omega) hY)) (.nil))))) ?_
        refine .cons (.plain rfl (ok_move (.tmp 0 rfl))) ?_
        refine .cons (.plain rfl (ok_extract 0 (.tmp 0 rfl) rfl)) ?_
        refine .cons (.plain rfl (ok_extract 1 (.tmp 0 rfl) rfl)) ?_
        refine .cons (.plain rfl (ok_extract 2 (.tmp 0 rfl) rfl)) ?_
        refine .cons (.plain rfl (ok_alloc (D := Zero2) zeroI rfl (fun _ _ => rfl))) ?_
        refine .cons (.plain rfl (ok_alloc (D := Zero2) zeroI rfl (fun _ _ => rfl))) ?_
        exact .nil
      clear H35 a35 w35 B35
      intro a36 w36 B36 H36
      simp only [List.cons_append, List.nil_append] at H36
      refine ops_one ?_
      refine store_op (l' := [(59, .val (IsI (X.tdiv Y))), (60, .val (IsI (tremI X Y))), (61, .val (IsB (decide (Y ≠ 0)))), (12, .box 25 2 (IsI (X.tdiv Y))), (13, .box 25 2 (Zero2)), (11, .val (IsB (decide (Y ≠ 0)))), (9, .box 25 2 (IsI (X.tdiv Y))), (10, .box 25 2 (IsI (tremI X Y))), (8, .box 25 2 (IsN X)), (907, .val (Sz m7)), (7, .box 25 2 (IsI X)), (4, .box 25 2 (IsArg ngy ny xy)), (6, .val (IsB false))]) 3 H36 rfl tyI rfl (.tmp 0 rfl) shape_Z shape_I rfl rfl ?_
      clear H36 w36
      intro w37 H37
      refine ops_one ?_
      refine store_op (l' := [(59, .val (IsI (X.tdiv Y))), (60, .val (IsI (tremI X Y))), (61, .val (IsB (decide (Y ≠ 0)))), (12, .box 25 2 (IsI (X.tdiv Y))), (13, .box 25 2 (IsI (tremI X Y))), (11, .val (IsB (decide (Y ≠ 0)))), (9, .box 25 2 (IsI (X.tdiv Y))), (10, .box 25 2 (IsI (tremI X Y))), (8, .box 25 2 (IsN X)), (907, .val (Sz m7)), (7, .box 25 2 (IsI X)), (4, .box 25 2 (IsArg ngy ny xy)), (6, .val (IsB false))]) 4 H37 rfl tyI rfl (.tmp 1 rfl) shape_Z shape_I rfl rfl ?_
      clear H37 w37
      intro w38 H38
      refine ops_one ?_
      refine tail_op (D := .val (IsB (decide (Y ≠ 0)))) (l' := [(14, .val (IsB (decide (Y ≠ 0)))), (59, .val (IsI (X.tdiv Y))), (60, .val (IsI (tremI X Y))), (61, .val (IsB (decide (Y ≠ 0)))), (12, .box 25 2 (IsI (X.tdiv Y))), (13, .box 25 2 (IsI (tremI X Y))), (11, .val (IsB (decide (Y ≠ 0)))), (9, .box 25 2 (IsI (X.tdiv Y))), (10, .box 25 2 (IsI (tremI X Y))), (8, .box 25 2 (IsN X)), (907, .val (Sz m7)), (7, .box 25 2 (IsI X)), (4, .box 25 2 (IsArg ngy ny xy)), (6, .val (IsB false))]) H38 rfl rfl rfl (.plain rfl (ok_assign (.tmp 2 rfl))) rfl rfl ?_
      clear H38 a36 w38 B36
      intro a39 w39 B39 H39
      refine ops_done ?_
      refine then_normal ?_
      refine wp_seq ?_
      refine flow_region (dsts := [some 63, some 64, some 62, some 65, some 66, some 15, some 16]) (refs := [[.pre 11], [.res 0], [.res 1], [.res 2], [.res 2], [.res 3], [.res 4]]) (outs := [.res 5, .res 6, .pre 0, .pre 4, .pre 5, .pre 6, .pre 7, .pre 8, .pre 9, .pre 10, .pre 11, .pre 12, .pre 13]) (als := [false, false, false, false, false, false, false]) (posts := [.val (IsI X), .val (Tup [Lit (.string (strB (twosL X 9))), IsB (twosOk X 9)]), .val (Tup [Lit (.string (strB (twosL X 9))), IsB (twosOk X 9)]), .val (Lit (.string (strB (twosL X 9)))), .val (IsB (twosOk X 9)), .val (Lit (.string (strB (twosL X 9)))), .val (IsB (twosOk X 9))])
        (out := [(15, .val (Lit (.string (strB (twosL X 9))))), (16, .val (IsB (twosOk X 9))), (14, .val (IsB (decide (Y ≠ 0)))), (12, .box 25 2 (IsI (X.tdiv Y))), (13, .box 25 2 (IsI (tremI X Y))), (11, .val (IsB (decide (Y ≠ 0)))), (9, .box 25 2 (IsI (X.tdiv Y))), (10, .box 25 2 (IsI (tremI X Y))), (8, .box 25 2 (IsN X)), (907, .val (Sz m7)), (7, .box 25 2 (IsI X)), (4, .box 25 2 (IsArg ngy ny xy)), (6, .val (IsB false))]) (nb := []) H39 7 [] rfl (by kernel_rfl) rfl rfl ?_ ?_
      · refine .cons (.plain rfl (ok_load tyI (.tmp 0 rfl))) ?_
        refine .cons (.plain rfl (ok_call (con_twos X 9) (.cons (.weak (.tmp 0 rfl) weakIN) (.cons (.lit) (.nil))))) ?_
        refine .cons (.plain rfl (ok_move (.tmp 0 rfl))) ?_
        refine .cons (.plain rfl (ok_extract 0 (.tmp 0 rfl) rfl)) ?_
        refine .cons (.plain rfl (ok_extract 1 (.tmp 0 rfl) rfl)) ?_
        refine .cons (.plain rfl (ok_assign (.tmp 0 rfl))) ?_
        refine .cons (.plain rfl (ok_assign (.tmp 0 rfl))) ?_
        exact .nil
      clear H39 a39 w39 B39
      intro a40 w40 B40 H40
      refine ops_done ?_
      refine then_normal ?_
      refine wp_seq ?_
      refine flow_region (dsts := [some 68, some 69, some 67, some 70, some 71, some 17, some 18]) (refs := [[.pre 8], [.res 0], [.res 1], [.res 2], [.res 2], [.res 3], [.res 4]]) (outs := [.res 5, .res 6, .pre 0, .pre 1, .pre 2, .pre 3, .pre 4, .pre 5, .pre 6, .pre 7, .pre 8, .pre 9, .pre 10, .pre 11, .pre 12]) (als := [false, false, false, false, false, false, false]) (posts := [.val (IsN X), .val (Tup [Lit (.string (strB (twosL X 9))), IsB (twosOk X 9)]), .val (Tup [Lit (.string (strB (twosL X 9))), IsB (twosOk X 9)]), .val (Lit (.string (strB (twosL X 9)))), .val (IsB (twosOk X 9)), .val (Lit (.string (strB (twosL X 9)))), .val (IsB (twosOk X 9))])
        (out := [(17, .val (Lit (.string (strB (twosL X 9))))), (18, .val (IsB (twosOk X 9))), (15, .val (Lit (.string (strB (twosL X 9))))), (16, .val (IsB (twosOk X 9))), (14, .val (IsB (decide (Y ≠ 0)))), (12, .box 25 2 (IsI (X.tdiv Y))), (13, .box 25 2 (IsI (tremI X Y))), (11, .val (IsB (decide (Y ≠ 0)))), (9, .box 25 2 (IsI (X.tdiv Y))), (10, .box 25 2 (IsI (tremI X Y))), (8, .box 25 2 (IsN X)), (907, .val (Sz m7)), (7, .box 25 2 (IsI X)), (4, .box 25 2 (IsArg ngy ny xy)), (6, .val (IsB false))]) (nb := []) H40 7 [] rfl (by kernel_rfl) rfl rfl ?_ ?_
      · refine .cons (.plain rfl (ok_load tyI (.tmp 0 rfl))) ?_
        refine .cons (.plain rfl (ok_call (con_twos X 9) (.cons (.tmp 0 rfl) (.cons (.lit) (.nil))))) ?_
        refine .cons (.plain rfl (ok_move (.tmp 0 rfl))) ?_
        refine .cons (.plain rfl (ok_extract 0 (.tmp 0 rfl) rfl)) ?_
        refine .cons (.plain rfl (ok_extract 1 (.tmp 0 rfl) rfl)) ?_
        refine .cons (.plain rfl (ok_assign (.tmp 0 rfl))) ?_
        refine .cons (.plain rfl (ok_assign (.tmp 0 rfl))) ?_
        exact .nil
      clear H40 a40 w40 B40
      intro a41 w41 B41 H41
      refine ops_done ?_
      refine then_normal ?_
      refine wp_seq ?_
      refine flow_region (dsts := [some 73, some 74, some 72, some 75, some 76, some 19, some 20]) (refs := [[.pre 12], [.res 0], [.res 1], [.res 2], [.res 2], [.res 3], [.res 4]]) (outs := [.res 5, .res 6, .pre 0, .pre 1, .pre 2, .pre 3, .pre 4, .pre 5, .pre 6, .pre 7, .pre 8, .pre 9, .pre 10, .pre 11, .pre 12, .pre 13, .pre 14]) (als := [false, false, false, false, false, false, false]) (posts := [.val (IsI X), .val (Tup [Lit (.int .i64 (if okI64 X then X else 0)), IsB (okI64 X)]), .val (Tup [Lit (.int .i64 (if okI64 X then X else 0)), IsB (okI64 X)]), .val (Lit (.int .i64 (if okI64 X then X else 0))), .val (IsB (okI64 X)), .val (Lit (.int .i64 (if okI64 X then X else 0))), .val (IsB (okI64 X))])
        (out := [(19, .val (Lit (.int .i64 (if okI64 X then X else 0)))), (20, .val (IsB (okI64 X))), (17, .val (Lit (.string (strB (twosL X 9))))), (18, .val (IsB (twosOk X 9))), (15, .val (Lit (.string (strB (twosL X 9))))), (16, .val (IsB (twosOk X 9))), (14, .val (IsB (decide (Y ≠ 0)))), (12, .box 25 2 (IsI (X.tdiv Y))), (13, .box 25 2 (IsI (tremI X Y))), (11, .val (IsB (decide (Y ≠ 0)))), (9, .box 25 2 (IsI (X.tdiv Y))), (10, .box 25 2 (IsI (tremI X Y))), (8, .box 25 2 (IsN X)), (907, .val (Sz m7)), (7, .box 25 2 (IsI X)), (4, .box 25 2 (IsArg ngy ny xy)), (6, .val (IsB false))]) (nb := []) H41 7 [] rfl (by kernel_rfl) rfl rfl ?_ ?_
      · refine .cons (.plain rfl (ok_load tyI (.tmp 0 rfl))) ?_
        refine .cons (.plain rfl (ok_call (con_int64 X) (.cons (.weak (.tmp 0 rfl) weakIN) (.nil)))) ?_
        refine .cons (.plain rfl (ok_move (.tmp 0 rfl))) ?_
        refine .cons (.plain rfl (ok_extract 0 (.tmp 0 rfl) rfl)) ?_
        refine .cons (.plain rfl (ok_extract 1 (.tmp 0 rfl) rfl)) ?_
        refine .cons (.plain rfl (ok_assign (.tmp 0 rfl))) ?_
        refine .cons (.plain rfl (ok_assign (.tmp 0 rfl))) ?_
        exact .nil
      clear H41 a41 w41 B41
      intro a42 w42 B42 H42
      refine ops_done ?_
      refine then_normal ?_
      refine wp_seq ?_
      refine flow_region (dsts := [some 78, some 79, some 77, some 80, some 81, some 21, some 22]) (refs := [[.pre 12], [.res 0], [.res 1], [.res 2], [.res 2], [.res 3], [.res 4]]) (outs := [.res 5, .res 6, .pre 0, .pre 1, .pre 2, .pre 3, .pre 4, .pre 5, .pre 6, .pre 7, .pre 8, .pre 9, .pre 10, .pre 11, .pre 12, .pre 13, .pre 14, .pre 15, .pre 16]) (als := [false, false, false, false, false, false, false]) (posts := [.val (IsN X), .val (Tup [Lit (.int .i64 (if okI64 X then X else 0)), IsB (okI64 X)]), .val (Tup [Lit (.int .i64 (if okI64 X then X else 0)), IsB (okI64 X)]), .val (Lit (.int .i64 (if okI64 X then X else 0))), .val (IsB (okI64 X)), .val (Lit (.int .i64 (if okI64 X then X else 0))), .val (IsB (okI64 X))])
        (out := [(21, .val (Lit (.int .i64 (if okI64 X then X else 0)))), (22, .val (IsB (okI64 X))), (19, .val (Lit (.int .i64 (if okI64 X then X else 0)))), (20, .val (IsB (okI64 X))), (17, .val (Lit (.string (strB (twosL X 9))))), (18, .val (IsB (twosOk X 9))), (15, .val (Lit (.string (strB (twosL X 9))))), (16, .val (IsB (twosOk X 9))), (14, .val (IsB (decide (Y ≠ 0)))), (12, .box 25 2 (IsI (X.tdiv Y))), (13, .box 25 2 (IsI (tremI X Y))), (11, .val (IsB (decide (Y ≠ 0)))), (9, .box 25 2 (IsI (X.tdiv Y))), (10, .box 25 2 (IsI (tremI X Y))), (8, .box 25 2 (IsN X)), (907, .val (Sz m7)), (7, .box 25 2 (IsI X)), (4, .box 25 2 (IsArg ngy ny xy)), (6, .val (IsB false))]) (nb := []) H42 7 [] rfl (by kernel_rfl) rfl rfl ?_ ?_
      · refine .cons (.plain rfl (ok_load tyI (.tmp 0 rfl))) ?_
        refine .cons (.plain rfl (ok_call (con_int64 X) (.cons (.tmp 0 rfl) (.nil)))) ?_
        refine .cons (.plain rfl (ok_move (.tmp 0 rfl))) ?_
        refine .cons (.plain rfl (ok_extract 0 (.tmp 0 rfl) rfl)) ?_
        refine .cons (.plain rfl (ok_extract 1 (.tmp 0 rfl) rfl)) ?_
        refine .cons (.plain rfl (ok_assign (.tmp 0 rfl))) ?_
        refine .cons (.plain rfl (ok_assign (.tmp 0 rfl))) ?_
        exact .nil
      clear H42 a42 w42 B42
      intro a43 w43 B43 H43
      refine ops_done ?_
      refine then_normal ?_
      refine wp_seq ?_
      refine wp_seq ?_
      refine flow_drawT (dsts := [some 82, some 83, some 84, some 85, some 86, some 87, some 88, some 89, some 90, some 91, some 92, some 93, some 94, some 95, some 96, some 97, some 98, some 99, some 100, some 101, some 102, some 103, some 104, some 105, some 106, some 107, some 108, some 109, some 110, some 111, some 112, some 113, some 114, some 115, some 116, some 117, some 118, some 119, some 120, some 121, some 122, some 123, some 124, some 125, some 126, some 127, some 128, some 129]) (refs := [[.pre 2], [.pre 0], [.res 0, .res 1], [.res 2], [.res 3, .pre 3], [.res 3, .pre 1], [.res 3, .res 4, .res 5], [.res 3, .res 6], [.res 7], [.res 8, .pre 6], [.res 8, .pre 4], [.res 8, .res 9, .res 10], [.res 8, .res 11], [.res 12], [.res 13, .pre 7], [.res 13, .pre 5], [.res 13, .res 14, .res 15], [.res 13, .res 16], [.res 17], [.res 18, .pre 11], [.res 18, .pre 8], [.res 18, .res 19, .res 20], [.res 18, .res 21], [.res 22], [.res 23, .pre 12], [.res 23, .pre 9], [.res 23, .res 24, .res 25], [.res 23, .res 26], [.res 23, .res 27], [.res 28], [.res 29, .pre 13], [.res 29, .pre 10], [.res 29, .res 30, .res 31], [.res 29, .res 32], [.res 29, .res 33], [.res 34], [.res 35, .pre 16], [.res 35, .pre 14], [.res 35, .res 36, .res 37], [.res 35, .res 38], [.res 35, .res 39], [.res 40], [.res 41, .pre 16], [.res 41, .res 42], [.res 41, .pre 14], [.res 41, .res 44], [.res 41, .res 43, .res 45], [.res 41, .res 46]]) (outs := [.res 47, .pre 14, .pre 15, .pre 16, .pre 17, .pre 18]) (als := [false, false, false, false, false, false, false, false, false, false, false, false, false, false, false, false, false, false, false, false, false, false, false, false, false, false, false, false, false, false, false, false, false, false, false, false, false, false, false, false, false, false, false, false, false, false, false, false]) (posts := [.val (Lit (.int .i64 (if okI64 X then X else 0))), .val (Lit (.int .i64 (if okI64 X then X else 0))), .val (IsB false), .val (IsB false), .val (IsB (okI64 X)), .val (IsB (okI64 X)), .val (IsB false), .val (IsB false), .val (IsB false), .val (Lit (.string (strB (twosL X 9)))), .val (Lit (.string (strB (twosL X 9)))), .val (IsB false), .val (IsB false), .val (IsB false), .val (IsB (twosOk X 9)), .val (IsB (twosOk X 9)), .val (IsB false), .val (IsB false), .val (IsB false), .val (IsB (decide (Y ≠ 0))), .val (IsB (decide (Y ≠ 0))), .val (IsB false), .val (IsB false), .val (IsB false), .val (IsI (X.tdiv Y)), .val (IsI (X.tdiv Y)), .val (IsB true), .val (IsB false), .val (IsB false), .val (IsB false), .val (IsI (tremI X Y)), .val (IsI (tremI X Y)), .val (IsB true), .val (IsB false), .val (IsB false), .val (IsB false), .val (IsI X), .val (IsN X), .val (Lit (.int .i64 (cmpI X X))), .val (IsB false), .val (IsB false), .val (IsB false), .val (IsI X), .val (Lit (.string (strB (showL X)))), .val (IsN X), .val (Lit (.string (strB (showL X)))), .val (IsB false), .val (IsB false)])
        (out := [(129, .val (IsB false)), (8, .box 25 2 (IsN X)), (907, .val (Sz m7)), (7, .box 25 2 (IsI X)), (4, .box 25 2 (IsArg ngy ny xy)), (6, .val (IsB false))]) (nb := []) H43 (by kernel_rfl) 48 0 #[true, true, true, true, true, true, true, true, true, true, true, true, true, true, true, true, true, true, true, true, true, true, true, true, true, true, true, true, true, true, true, true, true, true, true, true, true, true, true, true, true, true, true, true, true, true, true, true] (by kernel_rfl) (by kernel_rfl) rfl rfl ?_ ?_
      · refine .cons (.plain rfl (ok_move (.tmp 0 rfl))) ?_
        refine .cons (.plain rfl (ok_move (.tmp 0 rfl))) ?_
        refine .cons (.plain rfl (ok_cmp (b := false) (.tmp 0 rfl) (.tmp 1 rfl) ((decide_eq_false (fun h => h rfl)).symm))) ?_
        refine .cons (.plain rfl (ok_move (.tmp 0 rfl))) ?_
        refine .cons (.wanted 3 false rfl rfl rfl 0 rfl (ok_move (.tmp 1 rfl))) ?_
        refine .cons (.wanted 3 false rfl rfl rfl 0 rfl (ok_move (.tmp 1 rfl))) ?_
        refine .cons (.wanted 3 false rfl rfl rfl 0 rfl (OpOk.eqB (b := (okI64 X) != (okI64 X)) (ok_neB Try.underlying4 (.tmp 1 rfl) (.tmp 2 rfl)) (bne_self_eq_false _))) ?_
        refine .cons (.plain rfl (ok_pickF (.tmp 0 rfl) (.tmp 1 rfl))) ?_
        refine .cons (.plain rfl (ok_move (.tmp 0 rfl))) ?_
        refine .cons (.wanted 8 false rfl rfl rfl 0 rfl (ok_move (.tmp 1 rfl))) ?_
        refine .cons (.wanted 8 false rfl rfl rfl 0 rfl (ok_move (.tmp 1 rfl))) ?_
        refine .cons (.wanted 8 false rfl rfl rfl 0 rfl (ok_neS (b := false) (.tmp 1 rfl) (.tmp 2 rfl) ((decide_eq_false (fun h => h rfl)).symm))) ?_
        refine .cons (.plain rfl (ok_pickF (.tmp 0 rfl) (.tmp 1 rfl))) ?_
        refine .cons (.plain rfl (ok_move (.tmp 0 rfl))) ?_
        refine .cons (.wanted 13 false rfl rfl rfl 0 rfl (ok_move (.tmp 1 rfl))) ?_
        refine .cons (.wanted 13 false rfl rfl rfl 0 rfl (ok_move (.tmp 1 rfl))) ?_
        refine .cons (.wanted 13 false rfl rfl rfl 0 rfl (OpOk.eqB (b := (twosOk X 9) != (twosOk X 9)) (ok_neB Try.underlying4 (.tmp 1 rfl) (.tmp 2 rfl)) (bne_self_eq_false _))) ?_
        refine .cons (.plain rfl (ok_pickF (.tmp 0 rfl) (.tmp 1 rfl))) ?_
        refine .cons (.plain rfl (ok_move (.tmp 0 rfl))) ?_
        refine .cons (.wanted 18 false rfl rfl rfl 0 rfl (ok_move (.tmp 1 rfl))) ?_
        refine .cons (.wanted 18 false rfl rfl rfl 0 rfl (ok_move (.tmp 1 rfl))) ?_
        refine .cons (.wanted 18 false rfl rfl rfl 0 rfl (OpOk.eqB (b := (decide (Y ≠ 0)) != (decide (Y ≠ 0))) (ok_neB Try.underlying4 (.tmp 1 rfl) (.tmp 2 rfl)) (bne_self_eq_false _))) ?_
        refine .cons (.plain rfl (ok_pickF (.tmp 0 rfl) (.tmp 1 rfl))) ?_
        refine .cons (.plain rfl (ok_move (.tmp 0 rfl))) ?_
        refine .cons (.wanted 23 false rfl rfl rfl 0 rfl (ok_load tyI (.tmp 1 rfl))) ?_
        refine .cons (.wanted 23 false rfl rfl rfl 0 rfl (ok_load tyI (.tmp 1 rfl))) ?_
        refine .cons (.wanted 23 false rfl rfl rfl 0 rfl (ok_call (con_sameT (X := (X.tdiv Y)) rfl) (.cons (.tmp 1 rfl) (.cons (.tmp 2 rfl) (.nil))))) ?_
        refine .cons (.wanted 23 false rfl rfl rfl 0 rfl (ok_not (b := true) (.tmp 1 rfl))) ?_
        refine .cons (.plain rfl (ok_pickF (.tmp 0 rfl) (.tmp 1 rfl))) ?_
        refine .cons (.plain rfl (ok_move (.tmp 0 rfl))) ?_
        refine .cons (.wanted 29 false rfl rfl rfl 0 rfl (ok_load tyI (.tmp 1 rfl))) ?_
        refine .cons (.wanted 29 false rfl rfl rfl 0 rfl (ok_load tyI (.tmp 1 rfl))) ?_
        refine .cons (.wanted 29 false rfl rfl rfl 0 rfl (ok_call (con_sameT (X := (tremI X Y)) rfl) (.cons (.tmp 1 rfl) (.cons (.tmp 2 rfl) (.nil))))) ?_
        refine .cons (.wanted 29 false rfl rfl rfl 0 rfl (ok_not (b := true) (.tmp 1 rfl))) ?_
        refine .cons (.plain rfl (ok_pickF (.tmp 0 rfl) (.tmp 1 rfl))) ?_
        refine .cons (.plain rfl (ok_move (.tmp 0 rfl))) ?_
        refine .cons (.wanted 35 false rfl rfl rfl 0 rfl (ok_load tyI (.tmp 1 rfl))) ?_
        refine .cons (.wanted 35 false rfl rfl rfl 0 rfl (ok_load tyI (.tmp 1 rfl))) ?_
        refine .cons (.wanted 35 false rfl rfl rfl 0 rfl (ok_call (con_cmp X X) (.cons (.weak (.tmp 1 rfl) weakIN) (.cons (.tmp 2 rfl) (.nil))))) ?_
        refine .cons (.wanted 35 false rfl rfl rfl 0 rfl (ok_cmp (b := false) (.tmp 1 rfl) (.lit) ((decide_eq_false (fun h => h (cmpI_eq rfl))).symm))) ?_
        refine .cons (.plain rfl (ok_pickF (.tmp 0 rfl) (.tmp 1 rfl))) ?_
        refine .cons (.plain rfl (ok_move (.tmp 0 rfl))) ?_
        refine .cons (.wanted 41 false rfl rfl rfl 0 rfl (ok_load tyI (.tmp 1 rfl))) ?_
        refine .cons (.wanted 41 false rfl rfl rfl 0 rfl (ok_call (con_show X) (.cons (.weak (.tmp 1 rfl) weakIN) (.nil)))) ?_
        refine .cons (.wanted 41 false rfl rfl rfl 0 rfl (ok_load tyI (.tmp 1 rfl))) ?_
        refine .cons (.wanted 41 false rfl rfl rfl 0 rfl (ok_call (con_show X) (.cons (.tmp 1 rfl) (.nil)))) ?_
        refine .cons (.wanted 41 false rfl rfl rfl 0 rfl (ok_neS (b := false) (.tmp 1 rfl) (.tmp 2 rfl) ((decide_eq_false (fun h => h rfl)).symm))) ?_
        refine .cons (.plain rfl (ok_pickF (.tmp 0 rfl) (.tmp 1 rfl))) ?_
        exact .nil
      clear H43 a43 w43 B43
      intro a44 w44 B44 H44
      refine any_done (by kernel_rfl) ?_
      refine then_normal ?_
      refine f_condF H44 (.tmp 0 rfl) ?_
      refine wp_skip ?_
      refine then_normal ?_
      refine wp_seq ?_
      refine flow_drawT (dsts := [some 130, some 131, some 132, some 133, some 134, some 135, some 136, some 137, some 138, some 139, some 140, some 141, some 142, some 143, some 144, some 145, some 146, some 147, some 148, some 149, some 150, some 151, some 152, some 153, some 154, some 155, some 156, some 157, some 158, some 159, some 160, some 161, some 162, some 163, some 164, some 165, some 166, some 167, some 168, some 169, some 170, some 6]) (refs := [[.pre 1], [.res 0], [.pre 3], [.res 1, .res 2], [.res 3], [.res 4, .pre 3], [.res 4, .pre 4], [.res 4, .res 5, .res 6], [.res 4, .pre 1], [.res 4, .pre 4], [.res 4, .res 8, .res 9], [.res 4, .res 7, .res 10], [.res 4, .res 11], [.res 12], [.res 13, .pre 4], [.res 13, .pre 1], [.res 13, .res 14, .res 15], [.res 13, .pre 4], [.res 13, .pre 3], [.res 13, .res 17, .res 18], [.res 13, .res 16, .res 19], [.res 13, .res 20], [.res 21], [.res 22, .pre 4], [.res 22, .pre 1], [.res 22, .res 23, .res 24], [.res 22, .pre 4], [.res 22, .pre 3], [.res 22, .res 26, .res 27], [.res 22, .res 25, .res 28], [.res 22, .res 29], [.res 30], [.res 31, .pre 3], [.res 31, .res 32], [.res 31, .pre 1], [.res 31, .res 34], [.res 31, .res 33, .res 35], [.res 31, .res 36], [.res 37], [.res 38], [.res 38, .res 39], [.res 40]]) (outs := [.res 41, .pre 2]) (als := [false, false, false, false, false, false, false, false, false, false, false, false, false, false, false, false, false, false, false, false, false, false, false, false, false, false, false, false, false, false, false, false, false, false, false, false, false, false, false, false, false, false]) (posts := [.val (IsN X), .val (IsI X), .val (IsI X), .val (IsB true), .val (IsB true), .val (IsI X), .val (IsArg ngy ny xy), .val (IsI (X + Y)), .val (IsN X), .val (IsArg ngy ny xy), .val (IsI (X + Y)), .val (IsB true), .val (IsB true), .val (IsB true), .val (IsArg ngy ny xy), .val (IsN X), .val (IsI (Y * X)), .val (IsArg ngy ny xy), .val (IsI X), .val (IsI (Y * X)), .val (IsB true), .val (IsB true), .val (IsB true), .val (IsArg ngy ny xy), .val (IsN X), .val (IsI (Y - X)), .val (IsArg ngy ny xy), .val (IsI X), .val (IsI (Y - X)), .val (IsB true), .val (IsB true), .val (IsB true), .val (IsI X), .val (IsI (-X)), .val (IsN X), .val (IsI (-X)), .val (IsB true), .val (IsB true), .val (IsB true), .val (IsB true), .val (IsB true), .val (IsB true)])
        (out := [(6, .val (IsB true)), (907, .val (Sz m7))]) (nb := []) H44 (by kernel_rfl) 42 0 #[true, true, true, true, true, true, true, true, true, true, true, true, true, true, true, true, true, true, true, true, true, true, true, true, true, true, true, true, true, true, true, true, true, true, true, true, true, true, true, true, true, true] (by kernel_rfl) (by kernel_rfl) rfl rfl ?_ ?_
      · refine .cons (.plain rfl (ok_load tyI (.tmp 0 rfl))) ?_
        refine .cons (.plain rfl (ok_call (con_norm X) (.cons (.tmp 0 rfl) (.nil)))) ?_
        refine .cons (.plain rfl (ok_load tyI (.tmp 0 rfl))) ?_
        refine .cons (.plain rfl (ok_call (con_sameT (X := X) rfl) (.cons (.tmp 0 rfl) (.cons (.tmp 1 rfl) (.nil))))) ?_
        refine .cons (.plain rfl (ok_move (.tmp 0 rfl))) ?_
        refine .cons (.wanted 4 true rfl rfl rfl 0 rfl (ok_load tyI (.tmp 1 rfl))) ?_
        refine .cons (.wanted 4 true rfl rfl rfl 0 rfl (ok_load tyI (.tmp 1 rfl))) ?_
        refine .cons (.wanted 4 true rfl rfl rfl 0 rfl (ok_call (con_add X Y (((fX.add fY)).fits (by omega))) (.cons (.weak (.tmp 1 rfl) weakIN) (.cons (.weak (.tmp 2 rfl) (weakAN (by omega) hY)) (.nil))))) ?_
        refine .cons (.wanted 4 true rfl rfl rfl 0 rfl (ok_load tyI (.tmp 1 rfl))) ?_
        refine .cons (.wanted 4 true rfl rfl rfl 0 rfl (ok_load tyI (.tmp 1 rfl))) ?_
        refine .cons (.wanted 4 true rfl rfl rfl 0 rfl (ok_call (con_add X Y (((fX.add fY)).fits (by omega))) (.cons (.tmp 1 rfl) (.cons (.weak (.tmp 2 rfl) (weakAN (by omega) hY)) (.nil))))) ?_
        refine .cons (.wanted 4 true rfl rfl rfl 0 rfl (ok_call (con_sameT (X := (X + Y)) rfl) (.cons (.tmp 1 rfl) (.cons (.tmp 2 rfl) (.nil))))) ?_
        refine .cons (.plain rfl (ok_pickT (.tmp 0 rfl) (.tmp 1 rfl))) ?_
        refine .cons (.plain rfl (ok_move (.tmp 0 rfl))) ?_
        refine .cons (.wanted 13 true rfl rfl rfl 0 rfl (ok_load tyI (.tmp 1 rfl))) ?_
        refine .cons (.wanted 13 true rfl rfl rfl 0 rfl (ok_load tyI (.tmp 1 rfl))) ?_
        refine .cons (.wanted 13 true rfl rfl rfl 0 rfl (ok_call (con_mul Y X (((fY.mul fX)).fits (by omega))) (.cons (.weak (.tmp 1 rfl) (weakAN (by omega) hY)) (.cons (.tmp 2 rfl) (.nil))))) ?_
        refine .cons (.wanted 13 true rfl rfl rfl 0 rfl (ok_load tyI (.tmp 1 rfl))) ?_
        refine .cons (.wanted 13 true rfl rfl rfl 0 rfl (ok_load tyI (.tmp 1 rfl))) ?_
        refine .cons (.wanted 13 true rfl rfl rfl 0 rfl (ok_call (con_mul Y X (((fY.mul fX)).fits (by omega))) (.cons (.weak (.tmp 1 rfl) (weakAN (by omega) hY)) (.cons (.weak (.tmp 2 rfl) weakIN) (.nil))))) ?_
        refine .cons (.wanted 13 true rfl rfl rfl 0 rfl (ok_call (con_sameT (X := (Y * X)) rfl) (.cons (.tmp 1 rfl) (.cons (.tmp 2 rfl) (.nil))))) ?_
        refine .cons (.plain rfl (ok_pickT (.tmp 0 rfl) (.tmp 1 rfl))) ?_
        refine .cons (.plain rfl (ok_move (.tmp 0 rfl))) ?_
        refine .cons (.wanted 22 true rfl rfl rfl 0 rfl (ok_load tyI (.tmp 1 rfl))) ?_
        refine .cons (.wanted 22 true rfl rfl rfl 0 rfl (ok_load tyI (.tmp 1 rfl))) ?_
        refine .cons (.wanted 22 true rfl rfl rfl 0 rfl (ok_call (con_sub Y X (((fY.sub fX)).fits (by omega))) (.cons (.weak (.tmp 1 rfl) (weakAN (by omega) hY)) (.cons (.tmp 2 rfl) (.nil))))) ?_
        refine .cons (.wanted 22 true rfl rfl rfl 0 rfl (ok_load tyI (.tmp 1 rfl))) ?_
        refine .cons (.wanted 22 true rfl rfl rfl 0 rfl (ok_load tyI (.tmp 1 rfl))) ?_
        refine .cons (.wanted 22 true rfl rfl rfl 0 rfl (ok_call (con_sub Y X (((fY.sub fX)).fits (by omega))) (.cons (.weak (.tmp 1 rfl) (weakAN (by omega) hY)) (.cons (.weak (.tmp 2 rfl) weakIN) (.nil))))) ?_
        refine .cons (.wanted 22 true rfl rfl rfl 0 rfl (ok_call (con_sameT (X := (Y - X)) rfl) (.cons (.tmp 1 rfl) (.cons (.tmp 2 rfl) (.nil))))) ?_
        refine .cons (.plain rfl (ok_pickT (.tmp 0 rfl) (.tmp 1 rfl))) ?_
        refine .cons (.plain rfl (ok_move (.tmp 0 rfl))) ?_
        refine .cons (.wanted 31 true rfl rfl rfl 0 rfl (ok_load tyI (.tmp 1 rfl))) ?_
        refine .cons (.wanted 31 true rfl rfl rfl 0 rfl (ok_call (con_neg X) (.cons (.weak (.tmp 1 rfl) weakIN) (.nil)))) ?_
        refine .cons (.wanted 31 true rfl rfl rfl 0 rfl (ok_load tyI (.tmp 1 rfl))) ?_
        refine .cons (.wanted 31 true rfl rfl rfl 0 rfl (ok_call (con_neg X) (.cons (.tmp 1 rfl) (.nil)))) ?_
        refine .cons (.wanted 31 true rfl rfl rfl 0 rfl (ok_call (con_sameT (X := (-X)) rfl) (.cons (.tmp 1 rfl) (.cons (.tmp 2 rfl) (.nil))))) ?_
        refine .cons (.plain rfl (ok_pickT (.tmp 0 rfl) (.tmp 1 rfl))) ?_
        refine .cons (.plain rfl (ok_move (.tmp 0 rfl))) ?_
        refine .cons (.wanted 38 true rfl rfl rfl 0 rfl (ok_call (con_lives3) (.nil))) ?_
        refine .cons (.plain rfl (ok_pickT (.tmp 0 rfl) (.tmp 1 rfl))) ?_
        refine .cons (.plain rfl (ok_assign (.tmp 0 rfl))) ?_
        exact .nil
      clear H44 a44 w44 B44
      intro a45 w45 B45 H45
      refine any_done (by kernel_rfl) ?_
      refine then_normal ?_
      refine wp_ret ?_
      exact f_ret H45 rfl 0 rfl (fun _ _ _ h => h)

theorem walk_WholeLoose (w : World) (ngx : Bool) (adx : Option Addr) (nx cx : Nat) (xx : List Int) (fx : Arg w adx nx cx xx) (yx : nx * 4 ≤ 140737488351232) (ngy : Bool) (ady : Option Addr) (ny cy : Nat) (xy : List Int) (fy : Arg w ady ny cy xy) (yy : ny * 4 ≤ 140737488351232) (c : Int) (hc : 0 ≤ c ∧ c < 256) :
    Calls Try.prog 12 #[.agg #[.bool ngx, .slice adx nx cx], .agg #[.bool ngy, .slice ady ny cy], .int .u8 c] w (fun e w' => e = .returned (.bool true) ∧ Below w.heap.size w w') := by
  refine ((con_WholeLoose ngx nx xx yx ngy ny xy yy c hc).calls [.agg #[.bool ngx, .slice adx nx cx], .agg #[.bool ngy, .slice ady ny cy], .int .u8 c] w (fun _ => False) (fun _ h => h.elim) ⟨⟨adx, cx, rfl, fx⟩, ⟨ady, cy, rfl, fy⟩, rfl, trivial⟩).mono ?_
  rintro e w' ⟨v, rfl, h, hb⟩
  obtain rfl := h
  exact ⟨rfl, hb⟩
end Go.Proofs.Ytgnophflogmmaaa
