/- Contracts of functions, and plain facts, part 40. -/
import Derived.Test.YtoimhjcpeifegaaGreatDoorPk39
set_option linter.unusedVariables false
set_option linter.unusedSimpArgs false
/- VCmpL. (Printed by flow15.py.) -/
namespace Go.Proofs.YtoimhjcpeifegaaGreatDoor
open Go Go.RowKit

set_option maxRecDepth 20000 in
set_option maxHeartbeats 8000000 in
theorem con_ncmpL (z1 z2 : NV) (hz1 : okNV z1) (hz2 : okNV z2) (X1 : Int) (q1 : whatV z1 = .exact X1) (x2 : Int) (q2 : whatV z2 = .broken x2) (b2 : 0 ≤ x2 ∧ x2 < 18446744073709551616) (p2 : pE 64 x2 < 0) : ConE Tryz.prog 34 [IsNum z1, IsNum z2] (Tup [Lit (.int .i64 (cmpO (whatV z1) (whatV z2)).1), IsB (cmpO (whatV z1) (whatV z2)).2]) := by
  refine f_enterE (N := 117) Tryz.ntmps34 (fun _ _ => by go_simp) Tryz.func34 rfl (by simp) ?_
  intro a0 w0 B0 H0
  replace H0 : St 117 w0 B0 a0 w0 B0 [(0, .val (IsNum z1)), (1, .val (IsNum z2)), (117, .val (EnvV))] [] := H0
  refine wp_seq ?_
  refine flow_region (dsts := [some 2, some 3, some 4, some 5]) (refs := [[.pre 0], [.pre 1], [], []]) (outs := [.res 0, .res 1, .res 2, .res 3, .pre 2]) (als := [true, true, false, false]) (posts := [.box 37 8 (IsNum z1), .box 37 8 (IsNum z2), .val (Lit (.int .i64 0)), .val (IsB false)])
    (out := [(2, .box 37 8 (IsNum z1)), (3, .box 37 8 (IsNum z2)), (4, .val (Lit (.int .i64 0))), (5, .val (IsB false)), (117, .val (EnvV))]) (nb := [2, 3]) H0 4 [] rfl (by kernel_rfl) rfl rfl ?_ ?_
  · refine .cons (.plain rfl (ok_box (.tmp 0 rfl) shape_Num.two)) ?_
    refine .cons (.plain rfl (ok_box (.tmp 0 rfl) shape_Num.two)) ?_
    refine .cons (.plain rfl (ok_assign (.lit))) ?_
    refine .cons (.plain rfl (ok_assign (.lit))) ?_
    exact .nil
  clear H0
  intro a1 w1 B1 H1
  simp only [List.cons_append, List.nil_append] at H1
  refine ops_done ?_
  refine then_normal ?_
  refine wp_seq ?_
  refine flow_drawT (dsts := [some 17, some 18, some 19, some 20, some 6, some 7]) (refs := [[.pre 0], [.res 0, .pre 4], [.pre 1], [.res 2, .pre 4], [.res 1], [.res 3]]) (outs := [.res 4, .res 5, .pre 2, .pre 3, .pre 4]) (als := [false, false, false, false, false, false]) (posts := [.val (IsNum z1), .val (IsOne (whatV z1)), .val (IsNum z2), .val (IsOne (whatV z2)), .val (IsOne (whatV z1)), .val (IsOne (whatV z2))])
    (out := [(6, .val (IsOne (whatV z1))), (7, .val (IsOne (whatV z2))), (4, .val (Lit (.int .i64 0))), (5, .val (IsB false)), (117, .val (EnvV))]) (nb := []) H1 (by kernel_rfl) 6 0 #[true, true, true, true, true, true] (by kernel_rfl) (by kernel_rfl) rfl rfl ?_ ?_
  · refine .cons (.plain rfl (ok_load tyV (.tmp 0 rfl))) ?_
    refine .cons (.plain rfl (ok_callE (con_what (z1) hz1) 1 rfl (.cons (.tmp 0 rfl) (.nil)))) ?_
    refine .cons (.plain rfl (ok_load tyV (.tmp 0 rfl))) ?_
    refine .cons (.plain rfl (ok_callE (con_what (z2) hz2) 1 rfl (.cons (.tmp 0 rfl) (.nil)))) ?_
    refine .cons (.plain rfl (ok_assign (.tmp 0 rfl))) ?_
    refine .cons (.plain rfl (ok_assign (.tmp 0 rfl))) ?_
    exact .nil
  clear H1 a1 w1 B1
  intro a2 w2 B2 H2
  refine any_done (by kernel_rfl) ?_
  refine then_normal ?_
  refine wp_seq ?_
  refine wp_seq ?_
  refine flow_region (dsts := [some 21, some 22, some 23, some 24, some 25, some 26]) (refs := [[.pre 0], [.res 0], [.res 1], [.res 2, .pre 1], [.res 2, .res 3], [.res 2, .res 4]]) (outs := [.res 5, .pre 0, .pre 1, .pre 2, .pre 3, .pre 4]) (als := [false, false, false, false, false, false]) (posts := [.val (IsOne (whatV z1)), .val (IsB false), .val (IsB false), .val (IsOne (whatV z2)), .val (IsB false), .val (IsB false)])
    (out := [(26, .val (IsB false)), (6, .val (IsOne (whatV z1))), (7, .val (IsOne (whatV z2))), (4, .val (Lit (.int .i64 0))), (5, .val (IsB false)), (117, .val (EnvV))]) (nb := []) H2 6 [] rfl (by kernel_rfl) rfl rfl ?_ ?_
  · refine .cons (.plain rfl (ok_move (.tmp 0 rfl))) ?_
    refine .cons (.plain rfl (ok_eqNil (.tmp 0 rfl) ((whatV_some _).symm))) ?_
    refine .cons (.plain rfl (ok_move (.tmp 0 rfl))) ?_
    refine .cons (.wanted 2 false rfl rfl rfl 0 rfl (ok_move (.tmp 1 rfl))) ?_
    refine .cons (.wanted 2 false rfl rfl rfl 0 rfl (ok_eqNil (.tmp 1 rfl) ((whatV_some _).symm))) ?_
    refine .cons (.plain rfl (ok_pickF (.tmp 0 rfl) (.tmp 1 rfl))) ?_
    exact .nil
  clear H2 a2 w2 B2
  intro a3 w3 B3 H3
  refine ops_done ?_
  refine then_normal ?_
  refine f_condF H3 (.tmp 0 rfl) ?_
  refine wp_skip ?_
  refine then_normal ?_
  refine wp_seq ?_
  refine flow_region (dsts := [some 27, some 8]) (refs := [[], []]) (outs := [.res 0, .res 1, .pre 1, .pre 2, .pre 3, .pre 4, .pre 5]) (als := [false, true]) (posts := [.val (A2 0 0), .box 120 2 (A2 0 0)])
    (out := [(27, .val (A2 0 0)), (8, .box 120 2 (A2 0 0)), (6, .val (IsOne (whatV z1))), (7, .val (IsOne (whatV z2))), (4, .val (Lit (.int .i64 0))), (5, .val (IsB false)), (117, .val (EnvV))]) (nb := [8]) H3 2 [2] rfl (by kernel_rfl) rfl rfl ?_ ?_
  · refine .cons (.plain rfl (ok_buildA2)) ?_
    refine .cons (.plain rfl (ok_allocA2)) ?_
    exact .nil
  clear H3 a3 w3 B3
  intro a4 w4 B4 H4
  simp only [List.cons_append, List.nil_append] at H4
  refine ops_one ?_
  refine store_op (l' := [(27, .val (A2 0 0)), (8, .box 120 2 (A2 0 0)), (6, .val (IsOne (whatV z1))), (7, .val (IsOne (whatV z2))), (4, .val (Lit (.int .i64 0))), (5, .val (IsB false)), (117, .val (EnvV))]) 1 H4 rfl tyA2 rfl (.tmp 0 rfl) shape_A2 shape_A2 rfl rfl ?_
  clear H4 w4
  intro w5 H5
  refine ops_done ?_
  refine then_normal ?_
  refine wp_seq ?_
  refine wp_seq ?_
  refine flow_region (dsts := [some 28, some 29, some 30, some 31, some 32]) (refs := [[.pre 2], [.pre 3], [.res 0, .res 1], [.res 2], []]) (outs := [.res 2, .res 3, .res 4, .pre 1, .pre 2, .pre 3, .pre 4, .pre 5, .pre 6]) (als := [false, false, false, false, false]) (posts := [.val (IsOne (whatV z1)), .val (IsOne (whatV z2)), .val (IsOnes (whatV z1) (whatV z2)), .val (Lit (.int .i64 2)), .val (Lit (.int .i64 0))])
    (out := [(30, .val (IsOnes (whatV z1) (whatV z2))), (31, .val (Lit (.int .i64 2))), (32, .val (Lit (.int .i64 0))), (8, .box 120 2 (A2 0 0)), (6, .val (IsOne (whatV z1))), (7, .val (IsOne (whatV z2))), (4, .val (Lit (.int .i64 0))), (5, .val (IsB false)), (117, .val (EnvV))]) (nb := []) H5 5 [] rfl (by kernel_rfl) rfl rfl ?_ ?_
  · refine .cons (.plain rfl (ok_move (.tmp 0 rfl))) ?_
    refine .cons (.plain rfl (ok_move (.tmp 0 rfl))) ?_
    refine .cons (.plain rfl (ok_ones (.tmp 0 rfl) (.tmp 1 rfl))) ?_
    refine .cons (.plain rfl (ok_lenOnes (.tmp 0 rfl))) ?_
    refine .cons (.plain rfl (ok_move (.lit))) ?_
    exact .nil
  clear H5 a4 w5 B4
  intro a6 w6 B6 H6
  refine ops_done ?_
  refine then_normal ?_
  refine wp_block ?_
  refine wp_loop_rounds 3 ?_
  rw [rounds_succ]
  refine wp_seq ?_
  refine flow_region (dsts := [some 33]) (refs := [[.pre 2, .pre 1]]) (outs := [.res 0, .pre 0, .pre 1, .pre 2, .pre 3, .pre 4, .pre 5, .pre 6, .pre 7, .pre 8]) (als := [false]) (posts := [.val (IsB true)])
    (out := [(33, .val (IsB true)), (30, .val (IsOnes (whatV z1) (whatV z2))), (31, .val (Lit (.int .i64 2))), (32, .val (Lit (.int .i64 0))), (8, .box 120 2 (A2 0 0)), (6, .val (IsOne (whatV z1))), (7, .val (IsOne (whatV z2))), (4, .val (Lit (.int .i64 0))), (5, .val (IsB false)), (117, .val (EnvV))]) (nb := []) H6 1 [] rfl (by kernel_rfl) rfl rfl ?_ ?_
  · refine .cons (.plain rfl (ok_cmp (b := true) (.tmp 0 rfl) (.tmp 1 rfl) (by decide))) ?_
    exact .nil
  clear H6 a6 w6 B6
  intro a7 w7 B7 H7
  refine ops_done ?_
  refine then_normal ?_
  refine wp_seq ?_
  refine f_condT H7 (.tmp 0 rfl) ?_
  refine wp_skip ?_
  refine then_normal ?_
  refine wp_seq ?_
  refine wp_block ?_
  refine wp_seq ?_
  refine flow_region (dsts := [some 34, some 35, some 36, some 9, some 10]) (refs := [[.pre 3], [.pre 1, .pre 3], [.res 1], [.res 0], [.res 2]]) (outs := [.res 3, .res 4, .pre 1, .pre 2, .pre 3, .pre 4, .pre 5, .pre 6, .pre 7, .pre 8, .pre 9]) (als := [false, false, false, false, false]) (posts := [.val (Lit (.int .i64 0)), .val (IsCellO (whatV z1)), .val (IsOne (whatV z1)), .val (Lit (.int .i64 0)), .val (IsOne (whatV z1))])
    (out := [(9, .val (Lit (.int .i64 0))), (10, .val (IsOne (whatV z1))), (30, .val (IsOnes (whatV z1) (whatV z2))), (31, .val (Lit (.int .i64 2))), (32, .val (Lit (.int .i64 0))), (8, .box 120 2 (A2 0 0)), (6, .val (IsOne (whatV z1))), (7, .val (IsOne (whatV z2))), (4, .val (Lit (.int .i64 0))), (5, .val (IsB false)), (117, .val (EnvV))]) (nb := []) H7 5 [] rfl (by kernel_rfl) rfl rfl ?_ ?_
  · refine .cons (.plain rfl (ok_move (.tmp 0 rfl))) ?_
    refine .cons (.plain rfl (ok_idxO0 (.tmp 0 rfl) (.tmp 1 rfl))) ?_
    refine .cons (.plain rfl (ok_loadCellO (.tmp 0 rfl))) ?_
    refine .cons (.plain rfl (ok_assign (.tmp 0 rfl))) ?_
    refine .cons (.plain rfl (ok_assign (.tmp 0 rfl))) ?_
    exact .nil
  clear H7 a7 w7 B7
  intro a8 w8 B8 H8
  refine ops_done ?_
  refine then_normal ?_
  refine wp_seq ?_
  have H9 := H8
  rw [q1] at H9
  clear H8
  replace H9 : St 117 w0 B0 a8 w8 B8 [(9, .val (Lit (.int .i64 0))), (10, .val (IsOne (.exact X1))), (30, .val (IsOnes (.exact X1) (whatV z2))), (31, .val (Lit (.int .i64 2))), (32, .val (Lit (.int .i64 0))), (8, .box 120 2 (A2 0 0)), (6, .val (IsOne (.exact X1))), (7, .val (IsOne (whatV z2))), (4, .val (Lit (.int .i64 0))), (5, .val (IsB false)), (117, .val (EnvV))] [8, 2, 3] := H9
  refine flow_region (dsts := [some 37]) (refs := [[.pre 1]]) (outs := [.res 0, .pre 0, .pre 2, .pre 3, .pre 4, .pre 5, .pre 6, .pre 7, .pre 8, .pre 9, .pre 10]) (als := [false]) (posts := [.val (IsOne (.exact X1))])
    (out := [(37, .val (IsOne (.exact X1))), (9, .val (Lit (.int .i64 0))), (30, .val (IsOnes (.exact X1) (whatV z2))), (31, .val (Lit (.int .i64 2))), (32, .val (Lit (.int .i64 0))), (8, .box 120 2 (A2 0 0)), (6, .val (IsOne (.exact X1))), (7, .val (IsOne (whatV z2))), (4, .val (Lit (.int .i64 0))), (5, .val (IsB false)), (117, .val (EnvV))]) (nb := []) H9 1 [] rfl (by kernel_rfl) rfl rfl ?_ ?_
  · refine .cons (.plain rfl (ok_move (.tmp 0 rfl))) ?_
    exact .nil
  clear H9 a8 w8 B8
  intro a10 w10 B10 H10
  refine ops_done ?_
  refine then_normal ?_
  refine wp_block ?_
  refine wp_seq ?_
  refine flow_region (dsts := [some 38, some 39, some 40]) (refs := [[.pre 0], [.res 0], [.res 0]]) (outs := [.res 1, .res 2, .pre 0, .pre 1, .pre 2, .pre 3, .pre 4, .pre 5, .pre 6, .pre 7, .pre 8, .pre 9, .pre 10]) (als := [false, false, false]) (posts := [.val (Tup [VP.top, IsB false]), .val (IsB false), .val (VP.top)])
    (out := [(39, .val (IsB false)), (40, .val (VP.top)), (37, .val (IsOne (.exact X1))), (9, .val (Lit (.int .i64 0))), (30, .val (IsOnes (.exact X1) (whatV z2))), (31, .val (Lit (.int .i64 2))), (32, .val (Lit (.int .i64 0))), (8, .box 120 2 (A2 0 0)), (6, .val (IsOne (.exact X1))), (7, .val (IsOne (whatV z2))), (4, .val (Lit (.int .i64 0))), (5, .val (IsB false)), (117, .val (EnvV))]) (nb := []) H10 3 [] rfl (by kernel_rfl) rfl rfl ?_ ?_
  · refine .cons (.plain rfl (ok_ta0 (.tmp 0 rfl) rfl (.inr (.inr (.inr rfl))) (show (166 : Nat) ≠ 123 by decide))) ?_
    refine .cons (.plain rfl (ok_extract 1 (.tmp 0 rfl) rfl)) ?_
    refine .cons (.plain rfl (ok_extract 0 (.tmp 0 rfl) rfl)) ?_
    exact .nil
  clear H10 a10 w10 B10
  intro a11 w11 B11 H11
  refine ops_done ?_
  refine then_normal ?_
  refine f_condF H11 (.tmp 0 rfl) ?_
  refine wp_seq ?_
  refine flow_region (dsts := [some 41, some 42, some 43]) (refs := [[.pre 2], [.res 0], [.res 0]]) (outs := [.res 1, .res 2, .pre 3, .pre 4, .pre 5, .pre 6, .pre 7, .pre 8, .pre 9, .pre 10, .pre 11, .pre 12]) (als := [false, false, false]) (posts := [.val (Tup [VP.top, IsB false]), .val (IsB false), .val (VP.top)])
    (out := [(42, .val (IsB false)), (43, .val (VP.top)), (9, .val (Lit (.int .i64 0))), (30, .val (IsOnes (.exact X1) (whatV z2))), (31, .val (Lit (.int .i64 2))), (32, .val (Lit (.int .i64 0))), (8, .box 120 2 (A2 0 0)), (6, .val (IsOne (.exact X1))), (7, .val (IsOne (whatV z2))), (4, .val (Lit (.int .i64 0))), (5, .val (IsB false)), (117, .val (EnvV))]) (nb := []) H11 3 [] rfl (by kernel_rfl) rfl rfl ?_ ?_
  · refine .cons (.plain rfl (ok_ta0 (.tmp 0 rfl) rfl (.inr (.inr (.inl rfl))) (show (166 : Nat) ≠ 124 by decide))) ?_
    refine .cons (.plain rfl (ok_extract 1 (.tmp 0 rfl) rfl)) ?_
    refine .cons (.plain rfl (ok_extract 0 (.tmp 0 rfl) rfl)) ?_
    exact .nil
  clear H11 a11 w11 B11
  intro a12 w12 B12 H12
  refine ops_done ?_
  refine then_normal ?_
  refine f_condF H12 (.tmp 0 rfl) ?_
  refine wp_skip ?_
  refine block_normal ?_
  refine block_normal ?_
  refine then_normal ?_
  refine flow_region (dsts := [some 49]) (refs := [[.pre 5]]) (outs := [.res 0, .pre 3, .pre 4, .pre 5, .pre 6, .pre 7, .pre 8, .pre 9, .pre 10, .pre 11]) (als := [false]) (posts := [.val (Lit (.int .i64 1))])
    (out := [(49, .val (Lit (.int .i64 1))), (30, .val (IsOnes (.exact X1) (whatV z2))), (31, .val (Lit (.int .i64 2))), (32, .val (Lit (.int .i64 0))), (8, .box 120 2 (A2 0 0)), (6, .val (IsOne (.exact X1))), (7, .val (IsOne (whatV z2))), (4, .val (Lit (.int .i64 0))), (5, .val (IsB false)), (117, .val (EnvV))]) (nb := []) H12 1 [1] rfl (by kernel_rfl) rfl rfl ?_ ?_
  · refine .cons (.plain rfl (ok_add (r := 1) (.tmp 0 rfl) (.lit) (by decide))) ?_
    exact .nil
  clear H12 a12 w12 B12
  intro a13 w13 B13 H13
  refine ops_one ?_
  refine tail_op (D := .val (Lit (.int .i64 1))) (l' := [(32, .val (Lit (.int .i64 1))), (49, .val (Lit (.int .i64 1))), (30, .val (IsOnes (.exact X1) (whatV z2))), (31, .val (Lit (.int .i64 2))), (8, .box 120 2 (A2 0 0)), (6, .val (IsOne (.exact X1))), (7, .val (IsOne (whatV z2))), (4, .val (Lit (.int .i64 0))), (5, .val (IsB false)), (117, .val (EnvV))]) H13 rfl rfl rfl (.plain rfl (ok_move (.tmp 0 rfl))) rfl rfl ?_
  clear H13 a13 w13 B13
  intro a14 w14 B14 H14
  refine ops_done ?_
  refine then_normal ?_
  rw [rounds_succ]
  refine wp_seq ?_
  refine flow_region (dsts := [some 33]) (refs := [[.pre 0, .pre 3]]) (outs := [.res 0, .pre 0, .pre 1, .pre 2, .pre 3, .pre 4, .pre 5, .pre 6, .pre 7, .pre 8, .pre 9]) (als := [false]) (posts := [.val (IsB true)])
    (out := [(33, .val (IsB true)), (32, .val (Lit (.int .i64 1))), (49, .val (Lit (.int .i64 1))), (30, .val (IsOnes (.exact X1) (whatV z2))), (31, .val (Lit (.int .i64 2))), (8, .box 120 2 (A2 0 0)), (6, .val (IsOne (.exact X1))), (7, .val (IsOne (whatV z2))), (4, .val (Lit (.int .i64 0))), (5, .val (IsB false)), (117, .val (EnvV))]) (nb := []) H14 1 [] rfl (by kernel_rfl) rfl rfl ?_ ?_
  · refine .cons (.plain rfl (ok_cmp (b := true) (.tmp 0 rfl) (.tmp 1 rfl) (by decide))) ?_
    exact .nil
  clear H14 a14 w14 B14
  intro a15 w15 B15 H15
  refine ops_done ?_
  refine then_normal ?_
  refine wp_seq ?_
  refine f_condT H15 (.tmp 0 rfl) ?_
  refine wp_skip ?_
  refine then_normal ?_
  refine wp_seq ?_
  refine wp_block ?_
  refine wp_seq ?_
  refine flow_region (dsts := [some 34, some 35, some 36, some 9, some 10]) (refs := [[.pre 1], [.pre 3, .pre 1], [.res 1], [.res 0], [.res 2]]) (outs := [.res 3, .res 4, .pre 1, .pre 2, .pre 3, .pre 4, .pre 5, .pre 6, .pre 7, .pre 8, .pre 9, .pre 10]) (als := [false, false, false, false, false]) (posts := [.val (Lit (.int .i64 1)), .val (IsCellO (whatV z2)), .val (IsOne (whatV z2)), .val (Lit (.int .i64 1)), .val (IsOne (whatV z2))])
    (out := [(9, .val (Lit (.int .i64 1))), (10, .val (IsOne (whatV z2))), (32, .val (Lit (.int .i64 1))), (49, .val (Lit (.int .i64 1))), (30, .val (IsOnes (.exact X1) (whatV z2))), (31, .val (Lit (.int .i64 2))), (8, .box 120 2 (A2 0 0)), (6, .val (IsOne (.exact X1))), (7, .val (IsOne (whatV z2))), (4, .val (Lit (.int .i64 0))), (5, .val (IsB false)), (117, .val (EnvV))]) (nb := []) H15 5 [] rfl (by kernel_rfl) rfl rfl ?_ ?_
  · refine .cons (.plain rfl (ok_move (.tmp 0 rfl))) ?_
    refine .cons (.plain rfl (ok_idxO1 (.tmp 0 rfl) (.tmp 1 rfl))) ?_
    refine .cons (.plain rfl (ok_loadCellO (.tmp 0 rfl))) ?_
    refine .cons (.plain rfl (ok_assign (.tmp 0 rfl))) ?_
    refine .cons (.plain rfl (ok_assign (.tmp 0 rfl))) ?_
    exact .nil
  clear H15 a15 w15 B15
  intro a16 w16 B16 H16
  refine ops_done ?_
  refine then_normal ?_
  refine wp_seq ?_
  have H17 := H16
  rw [q2] at H17
  clear H16
  replace H17 : St 117 w0 B0 a16 w16 B16 [(9, .val (Lit (.int .i64 1))), (10, .val (IsOne (.broken x2))), (32, .val (Lit (.int .i64 1))), (49, .val (Lit (.int .i64 1))), (30, .val (IsOnes (.exact X1) (.broken x2))), (31, .val (Lit (.int .i64 2))), (8, .box 120 2 (A2 0 0)), (6, .val (IsOne (.exact X1))), (7, .val (IsOne (.broken x2))), (4, .val (Lit (.int .i64 0))), (5, .val (IsB false)), (117, .val (EnvV))] [8, 2, 3] := H17
  have hp2 := pE_bd (W := 64) (by unfold Wide; omega) x2
  have hm2 := partN_bd x2
  refine flow_region (dsts := [some 37]) (refs := [[.pre 1]]) (outs := [.res 0, .pre 0, .pre 2, .pre 3, .pre 4, .pre 5, .pre 6, .pre 7, .pre 8, .pre 9, .pre 10, .pre 11]) (als := [false]) (posts := [.val (IsOne (.broken x2))])
    (out := [(37, .val (IsOne (.broken x2))), (9, .val (Lit (.int .i64 1))), (32, .val (Lit (.int .i64 1))), (49, .val (Lit (.int .i64 1))), (30, .val (IsOnes (.exact X1) (.broken x2))), (31, .val (Lit (.int .i64 2))), (8, .box 120 2 (A2 0 0)), (6, .val (IsOne (.exact X1))), (7, .val (IsOne (.broken x2))), (4, .val (Lit (.int .i64 0))), (5, .val (IsB false)), (117, .val (EnvV))]) (nb := []) H17 1 [] rfl (by kernel_rfl) rfl rfl ?_ ?_
  · refine .cons (.plain rfl (ok_move (.tmp 0 rfl))) ?_
    exact .nil
  clear H17 a16 w16 B16
  intro a18 w18 B18 H18
  refine ops_done ?_
  refine then_normal ?_
  refine wp_block ?_
  refine wp_seq ?_
  refine flow_region (dsts := [some 38, some 39, some 40]) (refs := [[.pre 0], [.res 0], [.res 0]]) (outs := [.res 1, .res 2, .pre 0, .pre 1, .pre 2, .pre 3, .pre 4, .pre 5, .pre 6, .pre 7, .pre 8, .pre 9, .pre 10, .pre 11]) (als := [false, false, false]) (posts := [.val (Tup [VP.top, IsB false]), .val (IsB false), .val (VP.top)])
    (out := [(39, .val (IsB false)), (40, .val (VP.top)), (37, .val (IsOne (.broken x2))), (9, .val (Lit (.int .i64 1))), (32, .val (Lit (.int .i64 1))), (49, .val (Lit (.int .i64 1))), (30, .val (IsOnes (.exact X1) (.broken x2))), (31, .val (Lit (.int .i64 2))), (8, .box 120 2 (A2 0 0)), (6, .val (IsOne (.exact X1))), (7, .val (IsOne (.broken x2))), (4, .val (Lit (.int .i64 0))), (5, .val (IsB false)), (117, .val (EnvV))]) (nb := []) H18 3 [] rfl (by kernel_rfl) rfl rfl ?_ ?_
  · refine .cons (.plain rfl (ok_ta0 (.tmp 0 rfl) rfl (.inr (.inr (.inr rfl))) (show (167 : Nat) ≠ 123 by decide))) ?_
    refine .cons (.plain rfl (ok_extract 1 (.tmp 0 rfl) rfl)) ?_
    refine .cons (.plain rfl (ok_extract 0 (.tmp 0 rfl) rfl)) ?_
    exact .nil
  clear H18 a18 w18 B18
  intro a19 w19 B19 H19
  refine ops_done ?_
  refine then_normal ?_
  refine f_condF H19 (.tmp 0 rfl) ?_
  refine wp_seq ?_
  refine flow_region (dsts := [some 41, some 42, some 43]) (refs := [[.pre 2], [.res 0], [.res 0]]) (outs := [.res 1, .res 2, .pre 3, .pre 4, .pre 5, .pre 6, .pre 7, .pre 8, .pre 9, .pre 10, .pre 11, .pre 12, .pre 13]) (als := [false, false, false]) (posts := [.val (Tup [VP.top, IsB false]), .val (IsB false), .val (VP.top)])
    (out := [(42, .val (IsB false)), (43, .val (VP.top)), (9, .val (Lit (.int .i64 1))), (32, .val (Lit (.int .i64 1))), (49, .val (Lit (.int .i64 1))), (30, .val (IsOnes (.exact X1) (.broken x2))), (31, .val (Lit (.int .i64 2))), (8, .box 120 2 (A2 0 0)), (6, .val (IsOne (.exact X1))), (7, .val (IsOne (.broken x2))), (4, .val (Lit (.int .i64 0))), (5, .val (IsB false)), (117, .val (EnvV))]) (nb := []) H19 3 [] rfl (by kernel_rfl) rfl rfl ?_ ?_
  · refine .cons (.plain rfl (ok_ta0 (.tmp 0 rfl) rfl (.inr (.inr (.inl rfl))) (show (167 : Nat) ≠ 124 by decide))) ?_
    refine .cons (.plain rfl (ok_extract 1 (.tmp 0 rfl) rfl)) ?_
    refine .cons (.plain rfl (ok_extract 0 (.tmp 0 rfl) rfl)) ?_
    exact .nil
  clear H19 a19 w19 B19
  intro a20 w20 B20 H20
  refine ops_done ?_
  refine then_normal ?_
  refine f_condF H20 (.tmp 0 rfl) ?_
  refine wp_skip ?_
  refine block_normal ?_
  refine block_normal ?_
  refine then_normal ?_
  have H21 : St 117 w0 B0 a20 w20 B20 [(42, .val (IsB false)), (43, .val (VP.top)), (9, .val (Lit (.int .i64 1))), (32, .val (Lit (.int .i64 1))), (30, .val (IsOnes (.exact X1) (.broken x2))), (31, .val (Lit (.int .i64 2))), (8, .box 120 2 (A2 0 0)), (6, .val (IsOne (.exact X1))), (7, .val (IsOne (.broken x2))), (4, .val (Lit (.int .i64 0))), (5, .val (IsB false)), (117, .val (EnvV))] [8, 2, 3] := St.pick H20 [0, 1, 2, 3, 5, 6, 7, 8, 9, 10, 11, 12] rfl
  clear H20
  refine flow_region (dsts := [some 49]) (refs := [[.pre 3]]) (outs := [.res 0, .pre 3, .pre 4, .pre 5, .pre 6, .pre 7, .pre 8, .pre 9, .pre 10, .pre 11]) (als := [false]) (posts := [.val (Lit (.int .i64 2))])
    (out := [(49, .val (Lit (.int .i64 2))), (32, .val (Lit (.int .i64 1))), (30, .val (IsOnes (.exact X1) (.broken x2))), (31, .val (Lit (.int .i64 2))), (8, .box 120 2 (A2 0 0)), (6, .val (IsOne (.exact X1))), (7, .val (IsOne (.broken x2))), (4, .val (Lit (.int .i64 0))), (5, .val (IsB false)), (117, .val (EnvV))]) (nb := []) H21 1 [1] rfl (by kernel_rfl) rfl rfl ?_ ?_
  · refine .cons (.plain rfl (ok_add (r := 2) (.tmp 0 rfl) (.lit) (by decide))) ?_
    exact .nil
  clear H21 a20 w20 B20
  intro a22 w22 B22 H22
  refine ops_one ?_
  refine tail_op (D := .val (Lit (.int .i64 2))) (l' := [(32, .val (Lit (.int .i64 2))), (49, .val (Lit (.int .i64 2))), (30, .val (IsOnes (.exact X1) (.broken x2))), (31, .val (Lit (.int .i64 2))), (8, .box 120 2 (A2 0 0)), (6, .val (IsOne (.exact X1))), (7, .val (IsOne (.broken x2))), (4, .val (Lit (.int .i64 0))), (5, .val (IsB false)), (117, .val (EnvV))]) H22 rfl rfl rfl (.plain rfl (ok_move (.tmp 0 rfl))) rfl rfl ?_
  clear H22 a22 w22 B22
  intro a23 w23 B23 H23
  refine ops_done ?_
  refine then_normal ?_
  rw [rounds_succ]
  refine wp_seq ?_
  refine flow_region (dsts := [some 33]) (refs := [[.pre 0, .pre 3]]) (outs := [.res 0, .pre 0, .pre 1, .pre 2, .pre 3, .pre 4, .pre 5, .pre 6, .pre 7, .pre 8, .pre 9]) (als := [false]) (posts := [.val (IsB false)])
    (out := [(33, .val (IsB false)), (32, .val (Lit (.int .i64 2))), (49, .val (Lit (.int .i64 2))), (30, .val (IsOnes (.exact X1) (.broken x2))), (31, .val (Lit (.int .i64 2))), (8, .box 120 2 (A2 0 0)), (6, .val (IsOne (.exact X1))), (7, .val (IsOne (.broken x2))), (4, .val (Lit (.int .i64 0))), (5, .val (IsB false)), (117, .val (EnvV))]) (nb := []) H23 1 [] rfl (by kernel_rfl) rfl rfl ?_ ?_
  · refine .cons (.plain rfl (ok_cmp (b := false) (.tmp 0 rfl) (.tmp 1 rfl) (by decide))) ?_
    exact .nil
  clear H23 a23 w23 B23
  intro a24 w24 B24 H24
  refine ops_done ?_
  refine then_normal ?_
  refine wp_seq ?_
  refine f_condF H24 (.tmp 0 rfl) ?_
  refine wp_exit ?_
  refine then_exit ?_
  refine then_exit ?_
  refine block_exit ?_
  refine then_normal ?_
  refine wp_seq ?_
  refine wp_seq ?_
  refine flow_region (dsts := [some 50, some 51, some 52]) (refs := [[.pre 5], [], [.res 0, .res 1]]) (outs := [.res 2, .pre 5, .pre 6, .pre 7, .pre 8, .pre 9, .pre 10]) (als := [false, false, false]) (posts := [.val (A2 0 0), .val (A2 0 0), .val (IsB false)])
    (out := [(52, .val (IsB false)), (8, .box 120 2 (A2 0 0)), (6, .val (IsOne (.exact X1))), (7, .val (IsOne (.broken x2))), (4, .val (Lit (.int .i64 0))), (5, .val (IsB false)), (117, .val (EnvV))]) (nb := []) H24 3 [] rfl (by kernel_rfl) rfl rfl ?_ ?_
  · refine .cons (.plain rfl (ok_load tyA2 (.tmp 0 rfl))) ?_
    refine .cons (.plain rfl (ok_buildA2)) ?_
    refine .cons (.plain rfl (ok_neA2 (.tmp 0 rfl) (.tmp 1 rfl) (rfl))) ?_
    exact .nil
  clear H24 a24 w24 B24
  intro a25 w25 B25 H25
  refine ops_done ?_
  refine then_normal ?_
  refine f_condF H25 (.tmp 0 rfl) ?_
  refine wp_skip ?_
  refine then_normal ?_
  refine wp_seq ?_
  refine flow_region (dsts := [some 61, some 62, some 60, some 63, some 64, some 13]) (refs := [[.pre 2], [.res 0], [.res 1], [.res 2], [.res 2], []]) (outs := [.res 3, .res 4, .res 5, .pre 3, .pre 4, .pre 5, .pre 6]) (als := [false, false, false, false, false, true]) (posts := [.val (IsOne (.exact X1)), .val (Tup [IsN X1, Lit (.int .i64 0)]), .val (Tup [IsN X1, Lit (.int .i64 0)]), .val (IsN X1), .val (Lit (.int .i64 0)), .box 34 2 (Zero2)])
    (out := [(63, .val (IsN X1)), (64, .val (Lit (.int .i64 0))), (13, .box 34 2 (Zero2)), (7, .val (IsOne (.broken x2))), (4, .val (Lit (.int .i64 0))), (5, .val (IsB false)), (117, .val (EnvV))]) (nb := [13]) H25 6 [6, 7] rfl (by kernel_rfl) rfl rfl ?_ ?_
  · refine .cons (.plain rfl (ok_move (.tmp 0 rfl))) ?_
    refine .cons (.plain rfl (ok_call (con_partsE X1) (.cons (.tmp 0 rfl) (.nil)))) ?_
    refine .cons (.plain rfl (ok_move (.tmp 0 rfl))) ?_
    refine .cons (.plain rfl (ok_extract 0 (.tmp 0 rfl) rfl)) ?_
    refine .cons (.plain rfl (ok_extract 1 (.tmp 0 rfl) rfl)) ?_
    refine .cons (.plain rfl (ok_alloc (D := Zero2) zeroI rfl (fun _ _ => rfl))) ?_
    exact .nil
  clear H25 a25 w25 B25
  intro a26 w26 B26 H26
  simp only [List.cons_append, List.nil_append] at H26
  refine ops_one ?_
  refine store_op (l' := [(63, .val (IsN X1)), (64, .val (Lit (.int .i64 0))), (13, .box 34 2 (IsN X1)), (7, .val (IsOne (.broken x2))), (4, .val (Lit (.int .i64 0))), (5, .val (IsB false)), (117, .val (EnvV))]) 2 H26 rfl tyI rfl (.tmp 0 rfl) shape_Z shape_N rfl rfl ?_
  clear H26 w26
  intro w27 H27
  refine ops_one ?_
  refine tail_op (D := .val (Lit (.int .i64 0))) (l' := [(14, .val (Lit (.int .i64 0))), (63, .val (IsN X1)), (64, .val (Lit (.int .i64 0))), (13, .box 34 2 (IsN X1)), (7, .val (IsOne (.broken x2))), (4, .val (Lit (.int .i64 0))), (5, .val (IsB false)), (117, .val (EnvV))]) H27 rfl rfl rfl (.plain rfl (ok_assign (.tmp 1 rfl))) rfl rfl ?_
  clear H27 a26 w27 B26
  intro a28 w28 B28 H28
  refine ops_done ?_
  refine then_normal ?_
  refine wp_seq ?_
  refine flow_region (dsts := [some 66, some 67, some 65, some 68, some 69, some 15]) (refs := [[.pre 4], [.res 0, .pre 7], [.res 1], [.res 2], [.res 2], []]) (outs := [.res 3, .res 4, .res 5, .pre 0, .pre 3, .pre 5, .pre 6, .pre 7]) (als := [false, false, false, false, false, true]) (posts := [.val (IsOne (.broken x2)), .val (Tup [IsN (sI (pNeg 64 x2) (pM 64 x2)), Lit (.int .i64 (pE 64 x2))]), .val (Tup [IsN (sI (pNeg 64 x2) (pM 64 x2)), Lit (.int .i64 (pE 64 x2))]), .val (IsN (sI (pNeg 64 x2) (pM 64 x2))), .val (Lit (.int .i64 (pE 64 x2))), .box 34 2 (Zero2)])
    (out := [(68, .val (IsN (sI (pNeg 64 x2) (pM 64 x2)))), (69, .val (Lit (.int .i64 (pE 64 x2)))), (15, .box 34 2 (Zero2)), (14, .val (Lit (.int .i64 0))), (13, .box 34 2 (IsN X1)), (4, .val (Lit (.int .i64 0))), (5, .val (IsB false)), (117, .val (EnvV))]) (nb := [15]) H28 6 [6, 7] rfl (by kernel_rfl) rfl rfl ?_ ?_
  · refine .cons (.plain rfl (ok_move (.tmp 0 rfl))) ?_
    refine .cons (.plain rfl (ok_callE (con_partsB x2 b2) 1 rfl (.cons (.tmp 0 rfl) (.nil)))) ?_
    refine .cons (.plain rfl (ok_move (.tmp 0 rfl))) ?_
    refine .cons (.plain rfl (ok_extract 0 (.tmp 0 rfl) rfl)) ?_
    refine .cons (.plain rfl (ok_extract 1 (.tmp 0 rfl) rfl)) ?_
    refine .cons (.plain rfl (ok_alloc (D := Zero2) zeroI rfl (fun _ _ => rfl))) ?_
    exact .nil
  clear H28 a28 w28 B28
  intro a29 w29 B29 H29
  simp only [List.cons_append, List.nil_append] at H29
  refine ops_one ?_
  refine store_op (l' := [(68, .val (IsN (sI (pNeg 64 x2) (pM 64 x2)))), (69, .val (Lit (.int .i64 (pE 64 x2)))), (15, .box 34 2 (IsN (sI (pNeg 64 x2) (pM 64 x2)))), (14, .val (Lit (.int .i64 0))), (13, .box 34 2 (IsN X1)), (4, .val (Lit (.int .i64 0))), (5, .val (IsB false)), (117, .val (EnvV))]) 2 H29 rfl tyI rfl (.tmp 0 rfl) shape_Z shape_N rfl rfl ?_
  clear H29 w29
  intro w30 H30
  refine ops_one ?_
  refine tail_op (D := .val (Lit (.int .i64 (pE 64 x2)))) (l' := [(16, .val (Lit (.int .i64 (pE 64 x2)))), (68, .val (IsN (sI (pNeg 64 x2) (pM 64 x2)))), (69, .val (Lit (.int .i64 (pE 64 x2)))), (15, .box 34 2 (IsN (sI (pNeg 64 x2) (pM 64 x2)))), (14, .val (Lit (.int .i64 0))), (13, .box 34 2 (IsN X1)), (4, .val (Lit (.int .i64 0))), (5, .val (IsB false)), (117, .val (EnvV))]) H30 rfl rfl rfl (.plain rfl (ok_assign (.tmp 1 rfl))) rfl rfl ?_
  clear H30 a29 w30 B29
  intro a31 w31 B31 H31
  refine ops_done ?_
  refine then_normal ?_
  refine wp_seq ?_
  refine wp_block ?_
  refine wp_seq ?_
  refine flow_region (dsts := [some 71, some 72, some 73, some 74, some 75, some 76, some 70]) (refs := [[.pre 4], [.res 0], [.res 1], [.res 2, .pre 0], [.res 2, .res 3], [.res 2, .res 4], [.res 5]]) (outs := [.res 6, .pre 0, .pre 3, .pre 4, .pre 5, .pre 6, .pre 7, .pre 8]) (als := [false, false, false, false, false, false, false]) (posts := [.val (Lit (.int .i64 0)), .val (IsB true), .val (IsB true), .val (Lit (.int .i64 (pE 64 x2))), .val (IsB false), .val (IsB false), .val (IsB false)])
    (out := [(70, .val (IsB false)), (16, .val (Lit (.int .i64 (pE 64 x2)))), (15, .box 34 2 (IsN (sI (pNeg 64 x2) (pM 64 x2)))), (14, .val (Lit (.int .i64 0))), (13, .box 34 2 (IsN X1)), (4, .val (Lit (.int .i64 0))), (5, .val (IsB false)), (117, .val (EnvV))]) (nb := []) H31 7 [] rfl (by kernel_rfl) rfl rfl ?_ ?_
  · refine .cons (.plain rfl (ok_move (.tmp 0 rfl))) ?_
    refine .cons (.plain rfl (ok_cmp (b := true) (.tmp 0 rfl) (.lit) (by decide))) ?_
    refine .cons (.plain rfl (ok_move (.tmp 0 rfl))) ?_
    refine .cons (.wanted 2 true rfl rfl rfl 0 rfl (ok_move (.tmp 1 rfl))) ?_
    refine .cons (.wanted 2 true rfl rfl rfl 0 rfl (ok_cmp (b := false) (.tmp 1 rfl) (.lit) ((decide_eq_false (by omega)).symm))) ?_
    refine .cons (.plain rfl (ok_pickT (.tmp 0 rfl) (.tmp 1 rfl))) ?_
    refine .cons (.plain rfl (ok_assign (.tmp 0 rfl))) ?_
    exact .nil
  clear H31 a31 w31 B31
  intro a32 w32 B32 H32
  refine ops_done ?_
  refine then_normal ?_
  refine f_condF H32 (.tmp 0 rfl) ?_
  refine wp_seq ?_
  refine flow_region (dsts := [some 81, some 82, some 83, some 84, some 85, some 86, some 87, some 88, some 80]) (refs := [[.pre 3], [.res 0], [.res 1], [.res 2, .pre 4], [.res 2, .res 3], [.res 2, .res 4], [.res 2, .res 5], [.res 2, .res 6], [.res 7]]) (outs := [.res 8, .pre 1, .pre 2, .pre 3, .pre 4, .pre 5, .pre 6, .pre 7]) (als := [false, false, false, false, false, false, false, false, false]) (posts := [.val (Lit (.int .i64 0)), .val (IsB true), .val (IsB true), .ptr 34 2 (IsN X1) 1, .val (IsM ((X1).natAbs : Int)), .val (Lit (.int .i64 (bitsOf ((X1).natAbs : Int)))), .val (IsB (decide (64 < bitsOf ((X1).natAbs : Int)))), .val (IsB (decide (64 < bitsOf ((X1).natAbs : Int)))), .val (IsB (decide (64 < bitsOf ((X1).natAbs : Int))))])
    (out := [(80, .val (IsB (decide (64 < bitsOf ((X1).natAbs : Int))))), (16, .val (Lit (.int .i64 (pE 64 x2)))), (15, .box 34 2 (IsN (sI (pNeg 64 x2) (pM 64 x2)))), (14, .val (Lit (.int .i64 0))), (13, .box 34 2 (IsN X1)), (4, .val (Lit (.int .i64 0))), (5, .val (IsB false)), (117, .val (EnvV))]) (nb := []) H32 9 [] rfl (by kernel_rfl) rfl rfl ?_ ?_
  · refine .cons (.plain rfl (ok_move (.tmp 0 rfl))) ?_
    refine .cons (.plain rfl (ok_cmp (b := true) (.tmp 0 rfl) (.lit) (by decide))) ?_
    refine .cons (.plain rfl (ok_move (.tmp 0 rfl))) ?_
    refine .cons (.wanted 2 true rfl rfl rfl 0 rfl (ok_addrI1 (.tmp 1 rfl))) ?_
    refine .cons (.wanted 2 true rfl rfl rfl 0 rfl (ok_loadMagN (.tmp 1 rfl))) ?_
    refine .cons (.wanted 2 true rfl rfl rfl 0 rfl (ok_call (con_nlen ((X1).natAbs : Int)) (.cons (.tmp 1 rfl) (.nil)))) ?_
    refine .cons (.wanted 2 true rfl rfl rfl 0 rfl (ok_cmp (.tmp 1 rfl) (.lit) rfl)) ?_
    refine .cons (.plain rfl (ok_pickT (.tmp 0 rfl) (.tmp 1 rfl))) ?_
    refine .cons (.plain rfl (ok_assign (.tmp 0 rfl))) ?_
    exact .nil
  clear H32 a32 w32 B32
  intro a33 w33 B33 H33
  refine ops_done ?_
  refine then_normal ?_
  refine f_cond H33 (.tmp 0 rfl) ?_ ?_
  · intro hc34
    replace hc34 := of_decide_eq_true hc34
    refine wp_seq ?_
    have H35 : St 117 w0 B0 a33 w33 B33 [(80, .val (IsB (decide (64 < bitsOf ((X1).natAbs : Int))))), (16, .val (Lit (.int .i64 (pE 64 x2)))), (15, .box 34 2 (IsN (sI (pNeg 64 x2) (pM 64 x2)))), (14, .val (Lit (.int .i64 0))), (13, .box 34 2 (IsN X1)), (117, .val (EnvV))] [15, 13, 8, 2, 3] := St.pick H33 [0, 1, 2, 3, 4, 7] rfl
    clear H33
    refine flow_region (dsts := [some 89, some 90, some 91, some 4, some 5]) (refs := [[.pre 4], [], [.res 0, .res 1], [.res 2], []]) (outs := [.res 3, .res 4, .pre 1, .pre 2, .pre 3, .pre 4, .pre 5]) (als := [false, false, false, false, false]) (posts := [.val (IsN X1), .val (Zero2), .val (Lit (.int .i64 (cmpI X1 0))), .val (Lit (.int .i64 (cmpI X1 0))), .val (IsB true)])
      (out := [(4, .val (Lit (.int .i64 (cmpI X1 0)))), (5, .val (IsB true)), (16, .val (Lit (.int .i64 (pE 64 x2)))), (15, .box 34 2 (IsN (sI (pNeg 64 x2) (pM 64 x2)))), (14, .val (Lit (.int .i64 0))), (13, .box 34 2 (IsN X1)), (117, .val (EnvV))]) (nb := []) H35 5 [] rfl (by kernel_rfl) rfl rfl ?_ ?_
    · refine .cons (.plain rfl (ok_load tyI (.tmp 0 rfl))) ?_
      refine .cons (.plain rfl (ok_build0)) ?_
      refine .cons (.plain rfl (ok_call (con_cmp X1 0) (.cons (.tmp 0 rfl) (.cons (.weak (.tmp 1 rfl) weakZN) (.nil))))) ?_
      refine .cons (.plain rfl (ok_assign (.tmp 0 rfl))) ?_
      refine .cons (.plain rfl (ok_assign (.lit))) ?_
      exact .nil
    clear H35 a33 w33 B33
    intro a36 w36 B36 H36
    refine ops_done ?_
    refine then_normal ?_
    refine wp_ret ?_
    refine block_ret ?_
    refine then_ret ?_
    exact f_retN H36 rfl rfl (.tmp 0 rfl (fun v w B h => int_e (by rw [q1, q2, cmpO_fin _ _ rfl rfl rfl rfl]; exact cmp_long1 _ _ _ hc34 hm2 p2) h) (.tmp 1 rfl (fun v w B h => isB_e (by rw [q1, q2, cmpO_fin _ _ rfl rfl rfl rfl]) h) (.nil)))
  · intro hc34
    replace hc34 := of_decide_eq_false hc34
    have hm1 : -18446744073709551616 < X1 ∧ X1 < 18446744073709551616 := by have := bits_small (by omega) hc34; omega
    refine wp_seq ?_
    refine flow_region (dsts := [some 93, some 94, some 95, some 96, some 97, some 98, some 99, some 100, some 92]) (refs := [[.pre 1], [.res 0], [.res 1], [.res 2], [.res 2], [.res 2], [.res 2], [.res 2], [.res 7]]) (outs := [.res 8, .pre 1, .pre 2, .pre 3, .pre 4, .pre 5, .pre 6, .pre 7]) (als := [false, false, false, false, false, false, false, false, false]) (posts := [.val (Lit (.int .i64 (pE 64 x2))), .val (IsB false), .val (IsB false), .val (IsUndef), .val (IsUndef), .val (IsUndef), .val (IsUndef), .val (IsB false), .val (IsB false)])
      (out := [(92, .val (IsB false)), (16, .val (Lit (.int .i64 (pE 64 x2)))), (15, .box 34 2 (IsN (sI (pNeg 64 x2) (pM 64 x2)))), (14, .val (Lit (.int .i64 0))), (13, .box 34 2 (IsN X1)), (4, .val (Lit (.int .i64 0))), (5, .val (IsB false)), (117, .val (EnvV))]) (nb := []) H33 9 [] rfl (by kernel_rfl) rfl rfl ?_ ?_
    · refine .cons (.plain rfl (ok_move (.tmp 0 rfl))) ?_
      refine .cons (.plain rfl (ok_cmp (b := false) (.tmp 0 rfl) (.lit) ((decide_eq_false (by omega)).symm))) ?_
      refine .cons (.plain rfl (ok_move (.tmp 0 rfl))) ?_
      refine .cons (.unwanted 2 true rfl rfl rfl 0 rfl) ?_
      refine .cons (.unwanted 2 true rfl rfl rfl 0 rfl) ?_
      refine .cons (.unwanted 2 true rfl rfl rfl 0 rfl) ?_
      refine .cons (.unwanted 2 true rfl rfl rfl 0 rfl) ?_
      refine .cons (.plain rfl (ok_pickF (.tmp 0 rfl) (.lit))) ?_
      refine .cons (.plain rfl (ok_assign (.tmp 0 rfl))) ?_
      exact .nil
    clear H33 a33 w33 B33
    intro a37 w37 B37 H37
    refine ops_done ?_
    refine then_normal ?_
    refine f_condF H37 (.tmp 0 rfl) ?_
    refine wp_skip ?_
    refine block_normal ?_
    refine then_normal ?_
    refine wp_seq ?_
    have H38 : St 117 w0 B0 a37 w37 B37 [(92, .val (IsB false)), (16, .val (Lit (.int .i64 (pE 64 x2)))), (15, .box 34 2 (IsN (sI (pNeg 64 x2) (pM 64 x2)))), (14, .val (Lit (.int .i64 0))), (13, .box 34 2 (IsN X1)), (117, .val (EnvV))] [15, 13, 8, 2, 3] := St.pick H37 [0, 1, 2, 3, 4, 7] rfl
    clear H37
    refine flow_drawT (dsts := [some 104, some 105, some 106, some 107, some 108, some 109, some 110, some 111, some 112, some 113, some 114, some 115, some 116, some 4, some 5]) (refs := [[.pre 4], [.pre 3], [.pre 1], [.res 1, .res 2], [.res 3], [.res 0, .res 4], [.pre 2], [.pre 1], [.pre 3], [.res 7, .res 8], [.res 9], [.res 6, .res 10], [.res 5, .res 11], [.res 12], []]) (outs := [.res 13, .res 14, .pre 5]) (als := [false, false, false, false, false, false, false, false, false, false, false, false, false, false, false]) (posts := [.val (IsN X1), .val (Lit (.int .i64 0)), .val (Lit (.int .i64 (pE 64 x2))), .val (Lit (.int .i64 (0 - (pE 64 x2)))), .val (Lit (.int .i64 (if 0 < (0 - (pE 64 x2)) then 0 - (pE 64 x2) else 0))), .val (IsN (X1 * 2 ^ (if 0 < (0 - (pE 64 x2)) then 0 - (pE 64 x2) else 0).toNat)), .val (IsN (sI (pNeg 64 x2) (pM 64 x2))), .val (Lit (.int .i64 (pE 64 x2))), .val (Lit (.int .i64 0)), .val (Lit (.int .i64 ((pE 64 x2) - 0))), .val (Lit (.int .i64 (if 0 < ((pE 64 x2) - 0) then (pE 64 x2) - 0 else 0))), .val (IsN ((sI (pNeg 64 x2) (pM 64 x2)) * 2 ^ (if 0 < ((pE 64 x2) - 0) then (pE 64 x2) - 0 else 0).toNat)), .val (Lit (.int .i64 (cmpI (X1 * 2 ^ (if 0 < (0 - (pE 64 x2)) then 0 - (pE 64 x2) else 0).toNat) ((sI (pNeg 64 x2) (pM 64 x2)) * 2 ^ (if 0 < ((pE 64 x2) - 0) then (pE 64 x2) - 0 else 0).toNat)))), .val (Lit (.int .i64 (cmpI (X1 * 2 ^ (if 0 < (0 - (pE 64 x2)) then 0 - (pE 64 x2) else 0).toNat) ((sI (pNeg 64 x2) (pM 64 x2)) * 2 ^ (if 0 < ((pE 64 x2) - 0) then (pE 64 x2) - 0 else 0).toNat)))), .val (IsB true)])
      (out := [(4, .val (Lit (.int .i64 (cmpI (X1 * 2 ^ (if 0 < (0 - (pE 64 x2)) then 0 - (pE 64 x2) else 0).toNat) ((sI (pNeg 64 x2) (pM 64 x2)) * 2 ^ (if 0 < ((pE 64 x2) - 0) then (pE 64 x2) - 0 else 0).toNat))))), (5, .val (IsB true)), (117, .val (EnvV))]) (nb := []) H38 (by kernel_rfl) 15 0 #[true, true, true, true, true, true, true, true, true, true, true, true, true, true, true] (by kernel_rfl) (by kernel_rfl) rfl rfl ?_ ?_
    · refine .cons (.plain rfl (ok_load tyI (.tmp 0 rfl))) ?_
      refine .cons (.plain rfl (ok_move (.tmp 0 rfl))) ?_
      refine .cons (.plain rfl (ok_move (.tmp 0 rfl))) ?_
      refine .cons (.plain rfl (ok_sub (r := (0 - (pE 64 x2))) (.tmp 0 rfl) (.tmp 1 rfl) (w_i64 (by omega)))) ?_
      refine .cons (.plain rfl (ok_max (.lit) (.tmp 0 rfl))) ?_
      refine .cons (.plain rfl (ok_call (con_raise X1 (if 0 < (0 - (pE 64 x2)) then 0 - (pE 64 x2) else 0) hm1 (by split <;> omega)) (.cons (.tmp 0 rfl) (.cons (.tmp 1 rfl) (.nil))))) ?_
      refine .cons (.plain rfl (ok_load tyI (.tmp 0 rfl))) ?_
      refine .cons (.plain rfl (ok_move (.tmp 0 rfl))) ?_
      refine .cons (.plain rfl (ok_move (.tmp 0 rfl))) ?_
      refine .cons (.plain rfl (ok_sub (r := ((pE 64 x2) - 0)) (.tmp 0 rfl) (.tmp 1 rfl) (w_i64 (by omega)))) ?_
      refine .cons (.plain rfl (ok_max (.lit) (.tmp 0 rfl))) ?_
      refine .cons (.plain rfl (ok_call (con_raise (sI (pNeg 64 x2) (pM 64 x2)) (if 0 < ((pE 64 x2) - 0) then (pE 64 x2) - 0 else 0) hm2 (by split <;> omega)) (.cons (.tmp 0 rfl) (.cons (.tmp 1 rfl) (.nil))))) ?_
      refine .cons (.plain rfl (ok_call (con_cmp (X1 * 2 ^ (if 0 < (0 - (pE 64 x2)) then 0 - (pE 64 x2) else 0).toNat) ((sI (pNeg 64 x2) (pM 64 x2)) * 2 ^ (if 0 < ((pE 64 x2) - 0) then (pE 64 x2) - 0 else 0).toNat)) (.cons (.tmp 0 rfl) (.cons (.tmp 1 rfl) (.nil))))) ?_
      refine .cons (.plain rfl (ok_assign (.tmp 0 rfl))) ?_
      refine .cons (.plain rfl (ok_assign (.lit))) ?_
      exact .nil
    clear H38 a37 w37 B37
    intro a39 w39 B39 H39
    refine any_done (by kernel_rfl) ?_
    refine then_normal ?_
    refine wp_ret ?_
    exact f_retN H39 rfl rfl (.tmp 0 rfl (fun v w B h => int_e (by rw [q1, q2, cmpO_fin _ _ rfl rfl rfl rfl]; rfl) h) (.tmp 1 rfl (fun v w B h => isB_e (by rw [q1, q2, cmpO_fin _ _ rfl rfl rfl rfl]) h) (.nil)))
end Go.Proofs.YtoimhjcpeifegaaGreatDoor

