/- Contracts of functions, and plain facts, part 28. -/
import Derived.Test.YtoimhjcpeifegaaGreatDoorPk24
set_option linter.unusedVariables false
set_option linter.unusedSimpArgs false
/- VCmpC. (Printed by flow15.py.) -/
namespace Go.Proofs.YtoimhjcpeifegaaGreatDoor
open Go Go.RowKit

set_option maxRecDepth 20000 in
set_option maxHeartbeats 8000000 in
theorem con_ncmpC (z1 z2 : NV) (hz1 : okNV z1) (hz2 : okNV z2) (y1 : Int) (q1 : whatV z1 = .endless y1) (b1 : 0 ≤ y1 ∧ y1 < 18446744073709551616) : ConE Tryz.prog 34 [IsNum z1, IsNum z2] (Tup [Lit (.int .i64 (cmpO (whatV z1) (whatV z2)).1), IsB (cmpO (whatV z1) (whatV z2)).2]) := by
  refine f_enterE (N := 117) Tryz.ntmps34 (fun _ _ => by go_simp) Tryz.func34 rfl (by simp) ?_
  intro a0 w0 B0 H0
  replace H0 : St 117 w0 B0 a0 w0 B0 [(0, .val (IsNum z1)), (1, .val (IsNum z2)), (117, .val (EnvV))] [] := H0
  refine wp_seq ?_
  refine flow_region (dsts := [some 2, some 3, some 4, some 5]) (refs := [[.pre 0], [.pre 1], [], []]) (outs := [.res 0, .res 1, .res 2, .res 3, .pre 2]) (als := [true, true, false, false]) (posts := [.box 37 8 (IsNum z1), .box 37 8 (IsNum z2), .val (Lit (.int .i64 0)), .val (IsB false)])
    (out := [(2, .box 37 8 (IsNum z1)), (3, .box 37 8 (IsNum z2)), (4, .val (Lit (.int .i64 0))), (5, .val (IsB false)), (117, .val (EnvV))]) (nb := [2, 3]) H0 4 [] rfl (by kernel_rfl) rfl rfl ?_ ?_
  · refine .cons (.plain rfl (ok_box (.tmp 0 rfl) shape_Num.two)) ?_
    refine .cons (.plain rfl (ok_box (.tmp 0 rfl) shape_Num.two)) ?_
    refine .cons (.plain rfl (ok_assign (.lit))) ?_
    refine .cons (.plain rfl (ok_assign (.lit))) ?_
    exact .nil
  clear H0
  intro a1 w1 B1 H1
  simp only [List.cons_append, List.nil_append] at H1
  refine ops_done ?_
  refine then_normal ?_
  refine wp_seq ?_
  refine flow_drawT (dsts := [some 17, some 18, some 19, some 20, some 6, some 7]) (refs := [[.pre 0], [.res 0, .pre 4], [.pre 1], [.res 2, .pre 4], [.res 1], [.res 3]]) (outs := [.res 4, .res 5, .pre 2, .pre 3, .pre 4]) (als := [false, false, false, false, false, false]) (posts := [.val (IsNum z1), .val (IsOne (whatV z1)), .val (IsNum z2), .val (IsOne (whatV z2)), .val (IsOne (whatV z1)), .val (IsOne (whatV z2))])
    (out := [(6, .val (IsOne (whatV z1))), (7, .val (IsOne (whatV z2))), (4, .val (Lit (.int .i64 0))), (5, .val (IsB false)), (117, .val (EnvV))]) (nb := []) H1 (by kernel_rfl) 6 0 #[true, true, true, true, true, true] (by kernel_rfl) (by kernel_rfl) rfl rfl ?_ ?_
  · refine .cons (.plain rfl (ok_load tyV (.tmp 0 rfl))) ?_
    refine .cons (.plain rfl (ok_callE (con_what (z1) hz1) 1 rfl (.cons (.tmp 0 rfl) (.nil)))) ?_
    refine .cons (.plain rfl (ok_load tyV (.tmp 0 rfl))) ?_
    refine .cons (.plain rfl (ok_callE (con_what (z2) hz2) 1 rfl (.cons (.tmp 0 rfl) (.nil)))) ?_
    refine .cons (.plain rfl (ok_assign (.tmp 0 rfl))) ?_
    refine .cons (.plain rfl (ok_assign (.tmp 0 rfl))) ?_
    exact .nil
  clear H1 a1 w1 B1
  intro a2 w2 B2 H2
  refine any_done (by kernel_rfl) ?_
  refine then_normal ?_
  refine wp_seq ?_
  refine wp_seq ?_
  refine flow_region (dsts := [some 21, some 22, some 23, some 24, some 25, some 26]) (refs := [[.pre 0], [.res 0], [.res 1], [.res 2, .pre 1], [.res 2, .res 3], [.res 2, .res 4]]) (outs := [.res 5, .pre 0, .pre 1, .pre 2, .pre 3, .pre 4]) (als := [false, false, false, false, false, false]) (posts := [.val (IsOne (whatV z1)), .val (IsB false), .val (IsB false), .val (IsOne (whatV z2)), .val (IsB false), .val (IsB false)])
    (out := [(26, .val (IsB false)), (6, .val (IsOne (whatV z1))), (7, .val (IsOne (whatV z2))), (4, .val (Lit (.int .i64 0))), (5, .val (IsB false)), (117, .val (EnvV))]) (nb := []) H2 6 [] rfl (by kernel_rfl) rfl rfl ?_ ?_
  · refine .cons (.plain rfl (ok_move (.tmp 0 rfl))) ?_
    refine .cons (.plain rfl (ok_eqNil (.tmp 0 rfl) ((whatV_some _).symm))) ?_
    refine .cons (.plain rfl (ok_move (.tmp 0 rfl))) ?_
    refine .cons (.wanted 2 false rfl rfl rfl 0 rfl (ok_move (.tmp 1 rfl))) ?_
    refine .cons (.wanted 2 false rfl rfl rfl 0 rfl (ok_eqNil (.tmp 1 rfl) ((whatV_some _).symm))) ?_
    refine .cons (.plain rfl (ok_pickF (.tmp 0 rfl) (.tmp 1 rfl))) ?_
    exact .nil
  clear H2 a2 w2 B2
  intro a3 w3 B3 H3
  refine ops_done ?_
  refine then_normal ?_
  refine f_condF H3 (.tmp 0 rfl) ?_
  refine wp_skip ?_
  refine then_normal ?_
  refine wp_seq ?_
  refine flow_region (dsts := [some 27, some 8]) (refs := [[], []]) (outs := [.res 0, .res 1, .pre 1, .pre 2, .pre 3, .pre 4, .pre 5]) (als := [false, true]) (posts := [.val (A2 0 0), .box 120 2 (A2 0 0)])
    (out := [(27, .val (A2 0 0)), (8, .box 120 2 (A2 0 0)), (6, .val (IsOne (whatV z1))), (7, .val (IsOne (whatV z2))), (4, .val (Lit (.int .i64 0))), (5, .val (IsB false)), (117, .val (EnvV))]) (nb := [8]) H3 2 [2] rfl (by kernel_rfl) rfl rfl ?_ ?_
  · refine .cons (.plain rfl (ok_buildA2)) ?_
    refine .cons (.plain rfl (ok_allocA2)) ?_
    exact .nil
  clear H3 a3 w3 B3
  intro a4 w4 B4 H4
  simp only [List.cons_append, List.nil_append] at H4
  refine ops_one ?_
  refine store_op (l' := [(27, .val (A2 0 0)), (8, .box 120 2 (A2 0 0)), (6, .val (IsOne (whatV z1))), (7, .val (IsOne (whatV z2))), (4, .val (Lit (.int .i64 0))), (5, .val (IsB false)), (117, .val (EnvV))]) 1 H4 rfl tyA2 rfl (.tmp 0 rfl) shape_A2 shape_A2 rfl rfl ?_
  clear H4 w4
  intro w5 H5
  refine ops_done ?_
  refine then_normal ?_
  refine wp_seq ?_
  refine wp_seq ?_
  refine flow_region (dsts := [some 28, some 29, some 30, some 31, some 32]) (refs := [[.pre 2], [.pre 3], [.res 0, .res 1], [.res 2], []]) (outs := [.res 2, .res 3, .res 4, .pre 1, .pre 2, .pre 3, .pre 4, .pre 5, .pre 6]) (als := [false, false, false, false, false]) (posts := [.val (IsOne (whatV z1)), .val (IsOne (whatV z2)), .val (IsOnes (whatV z1) (whatV z2)), .val (Lit (.int .i64 2)), .val (Lit (.int .i64 0))])
    (out := [(30, .val (IsOnes (whatV z1) (whatV z2))), (31, .val (Lit (.int .i64 2))), (32, .val (Lit (.int .i64 0))), (8, .box 120 2 (A2 0 0)), (6, .val (IsOne (whatV z1))), (7, .val (IsOne (whatV z2))), (4, .val (Lit (.int .i64 0))), (5, .val (IsB false)), (117, .val (EnvV))]) (nb := []) H5 5 [] rfl (by kernel_rfl) rfl rfl ?_ ?_
  · refine .cons (.plain rfl (ok_move (.tmp 0 rfl))) ?_
    refine .cons (.plain rfl (ok_move (.tmp 0 rfl))) ?_
    refine .cons (.plain rfl (ok_ones (.tmp 0 rfl) (.tmp 1 rfl))) ?_
    refine .cons (.plain rfl (ok_lenOnes (.tmp 0 rfl))) ?_
    refine .cons (.plain rfl (ok_move (.lit))) ?_
    exact .nil
  clear H5 a4 w5 B4
  intro a6 w6 B6 H6
  refine ops_done ?_
  refine then_normal ?_
  refine wp_block ?_
  refine wp_loop_rounds 3 ?_
  rw [rounds_succ]
  refine wp_seq ?_
  refine flow_region (dsts := [some 33]) (refs := [[.pre 2, .pre 1]]) (outs := [.res 0, .pre 0, .pre 1, .pre 2, .pre 3, .pre 4, .pre 5, .pre 6, .pre 7, .pre 8]) (als := [false]) (posts := [.val (IsB true)])
    (out := [(33, .val (IsB true)), (30, .val (IsOnes (whatV z1) (whatV z2))), (31, .val (Lit (.int .i64 2))), (32, .val (Lit (.int .i64 0))), (8, .box 120 2 (A2 0 0)), (6, .val (IsOne (whatV z1))), (7, .val (IsOne (whatV z2))), (4, .val (Lit (.int .i64 0))), (5, .val (IsB false)), (117, .val (EnvV))]) (nb := []) H6 1 [] rfl (by kernel_rfl) rfl rfl ?_ ?_
  · refine .cons (.plain rfl (ok_cmp (b := true) (.tmp 0 rfl) (.tmp 1 rfl) (by decide))) ?_
    exact .nil
  clear H6 a6 w6 B6
  intro a7 w7 B7 H7
  refine ops_done ?_
  refine then_normal ?_
  refine wp_seq ?_
  refine f_condT H7 (.tmp 0 rfl) ?_
  refine wp_skip ?_
  refine then_normal ?_
  refine wp_seq ?_
  refine wp_block ?_
  refine wp_seq ?_
  refine flow_region (dsts := [some 34, some 35, some 36, some 9, some 10]) (refs := [[.pre 3], [.pre 1, .pre 3], [.res 1], [.res 0], [.res 2]]) (outs := [.res 3, .res 4, .pre 1, .pre 2, .pre 3, .pre 4, .pre 5, .pre 6, .pre 7, .pre 8, .pre 9]) (als := [false, false, false, false, false]) (posts := [.val (Lit (.int .i64 0)), .val (IsCellO (whatV z1)), .val (IsOne (whatV z1)), .val (Lit (.int .i64 0)), .val (IsOne (whatV z1))])
    (out := [(9, .val (Lit (.int .i64 0))), (10, .val (IsOne (whatV z1))), (30, .val (IsOnes (whatV z1) (whatV z2))), (31, .val (Lit (.int .i64 2))), (32, .val (Lit (.int .i64 0))), (8, .box 120 2 (A2 0 0)), (6, .val (IsOne (whatV z1))), (7, .val (IsOne (whatV z2))), (4, .val (Lit (.int .i64 0))), (5, .val (IsB false)), (117, .val (EnvV))]) (nb := []) H7 5 [] rfl (by kernel_rfl) rfl rfl ?_ ?_
  · refine .cons (.plain rfl (ok_move (.tmp 0 rfl))) ?_
    refine .cons (.plain rfl (ok_idxO0 (.tmp 0 rfl) (.tmp 1 rfl))) ?_
    refine .cons (.plain rfl (ok_loadCellO (.tmp 0 rfl))) ?_
    refine .cons (.plain rfl (ok_assign (.tmp 0 rfl))) ?_
    refine .cons (.plain rfl (ok_assign (.tmp 0 rfl))) ?_
    exact .nil
  clear H7 a7 w7 B7
  intro a8 w8 B8 H8
  refine ops_done ?_
  refine then_normal ?_
  refine wp_seq ?_
  have H9 := H8
  rw [q1] at H9
  clear H8
  replace H9 : St 117 w0 B0 a8 w8 B8 [(9, .val (Lit (.int .i64 0))), (10, .val (IsOne (.endless y1))), (30, .val (IsOnes (.endless y1) (whatV z2))), (31, .val (Lit (.int .i64 2))), (32, .val (Lit (.int .i64 0))), (8, .box 120 2 (A2 0 0)), (6, .val (IsOne (.endless y1))), (7, .val (IsOne (whatV z2))), (4, .val (Lit (.int .i64 0))), (5, .val (IsB false)), (117, .val (EnvV))] [8, 2, 3] := H9
  have hs1 := sideI_bd y1
  refine flow_region (dsts := [some 37]) (refs := [[.pre 1]]) (outs := [.res 0, .pre 0, .pre 2, .pre 3, .pre 4, .pre 5, .pre 6, .pre 7, .pre 8, .pre 9, .pre 10]) (als := [false]) (posts := [.val (IsOne (.endless y1))])
    (out := [(37, .val (IsOne (.endless y1))), (9, .val (Lit (.int .i64 0))), (30, .val (IsOnes (.endless y1) (whatV z2))), (31, .val (Lit (.int .i64 2))), (32, .val (Lit (.int .i64 0))), (8, .box 120 2 (A2 0 0)), (6, .val (IsOne (.endless y1))), (7, .val (IsOne (whatV z2))), (4, .val (Lit (.int .i64 0))), (5, .val (IsB false)), (117, .val (EnvV))]) (nb := []) H9 1 [] rfl (by kernel_rfl) rfl rfl ?_ ?_
  · refine .cons (.plain rfl (ok_move (.tmp 0 rfl))) ?_
    exact .nil
  clear H9 a8 w8 B8
  intro a10 w10 B10 H10
  refine ops_done ?_
  refine then_normal ?_
  refine wp_block ?_
  refine wp_seq ?_
  refine flow_region (dsts := [some 38, some 39, some 40]) (refs := [[.pre 0], [.res 0], [.res 0]]) (outs := [.res 1, .res 2, .pre 0, .pre 1, .pre 2, .pre 3, .pre 4, .pre 5, .pre 6, .pre 7, .pre 8, .pre 9, .pre 10]) (als := [false, false, false]) (posts := [.val (Tup [VP.top, IsB false]), .val (IsB false), .val (VP.top)])
    (out := [(39, .val (IsB false)), (40, .val (VP.top)), (37, .val (IsOne (.endless y1))), (9, .val (Lit (.int .i64 0))), (30, .val (IsOnes (.endless y1) (whatV z2))), (31, .val (Lit (.int .i64 2))), (32, .val (Lit (.int .i64 0))), (8, .box 120 2 (A2 0 0)), (6, .val (IsOne (.endless y1))), (7, .val (IsOne (whatV z2))), (4, .val (Lit (.int .i64 0))), (5, .val (IsB false)), (117, .val (EnvV))]) (nb := []) H10 3 [] rfl (by kernel_rfl) rfl rfl ?_ ?_
  · refine .cons (.plain rfl (ok_ta0 (.tmp 0 rfl) rfl (.inr (.inr (.inr rfl))) (show (124 : Nat) ≠ 123 by decide))) ?_
    refine .cons (.plain rfl (ok_extract 1 (.tmp 0 rfl) rfl)) ?_
    refine .cons (.plain rfl (ok_extract 0 (.tmp 0 rfl) rfl)) ?_
    exact .nil
  clear H10 a10 w10 B10
  intro a11 w11 B11 H11
  refine ops_done ?_
  refine then_normal ?_
  refine f_condF H11 (.tmp 0 rfl) ?_
  refine wp_seq ?_
  refine flow_region (dsts := [some 41, some 42, some 43]) (refs := [[.pre 2], [.res 0], [.res 0]]) (outs := [.res 1, .res 2, .pre 3, .pre 4, .pre 5, .pre 6, .pre 7, .pre 8, .pre 9, .pre 10, .pre 11, .pre 12]) (als := [false, false, false]) (posts := [.val (Tup [U1 y1, IsB true]), .val (IsB true), .val (U1 y1)])
    (out := [(42, .val (IsB true)), (43, .val (U1 y1)), (9, .val (Lit (.int .i64 0))), (30, .val (IsOnes (.endless y1) (whatV z2))), (31, .val (Lit (.int .i64 2))), (32, .val (Lit (.int .i64 0))), (8, .box 120 2 (A2 0 0)), (6, .val (IsOne (.endless y1))), (7, .val (IsOne (whatV z2))), (4, .val (Lit (.int .i64 0))), (5, .val (IsB false)), (117, .val (EnvV))]) (nb := []) H11 3 [] rfl (by kernel_rfl) rfl rfl ?_ ?_
  · refine .cons (.plain rfl (ok_ta1 (.tmp 0 rfl) rfl rfl rfl)) ?_
    refine .cons (.plain rfl (ok_extract 1 (.tmp 0 rfl) rfl)) ?_
    refine .cons (.plain rfl (ok_extract 0 (.tmp 0 rfl) rfl)) ?_
    exact .nil
  clear H11 a11 w11 B11
  intro a12 w12 B12 H12
  refine ops_done ?_
  refine then_normal ?_
  refine f_condT H12 (.tmp 0 rfl) ?_
  refine wp_seq ?_
  refine flow_region (dsts := [some 12]) (refs := [[]]) (outs := [.res 0, .pre 1, .pre 2, .pre 3, .pre 4, .pre 5, .pre 6, .pre 7, .pre 8, .pre 9, .pre 10, .pre 11]) (als := [true]) (posts := [.box 124 1 (U1 0)])
    (out := [(12, .box 124 1 (U1 0)), (43, .val (U1 y1)), (9, .val (Lit (.int .i64 0))), (30, .val (IsOnes (.endless y1) (whatV z2))), (31, .val (Lit (.int .i64 2))), (32, .val (Lit (.int .i64 0))), (8, .box 120 2 (A2 0 0)), (6, .val (IsOne (.endless y1))), (7, .val (IsOne (whatV z2))), (4, .val (Lit (.int .i64 0))), (5, .val (IsB false)), (117, .val (EnvV))]) (nb := [12]) H12 1 [1] rfl (by kernel_rfl) rfl rfl ?_ ?_
  · refine .cons (.plain rfl (ok_allocEn)) ?_
    exact .nil
  clear H12 a12 w12 B12
  intro a13 w13 B13 H13
  simp only [List.cons_append, List.nil_append] at H13
  refine ops_one ?_
  refine store_op (l' := [(12, .box 124 1 (U1 y1)), (43, .val (U1 y1)), (9, .val (Lit (.int .i64 0))), (30, .val (IsOnes (.endless y1) (whatV z2))), (31, .val (Lit (.int .i64 2))), (32, .val (Lit (.int .i64 0))), (8, .box 120 2 (A2 0 0)), (6, .val (IsOne (.endless y1))), (7, .val (IsOne (whatV z2))), (4, .val (Lit (.int .i64 0))), (5, .val (IsB false)), (117, .val (EnvV))]) 0 H13 rfl tyEn rfl (.tmp 1 rfl) shape_U1 shape_U1 rfl rfl ?_
  clear H13 w13
  intro w14 H14
  refine ops_done ?_
  refine then_normal ?_
  refine flow_region (dsts := [some 44, some 45, some 46, some 47]) (refs := [[.pre 2], [.pre 0], [.res 1], [.res 2]]) (outs := [.res 0, .res 3, .pre 3, .pre 4, .pre 5, .pre 6, .pre 7, .pre 8, .pre 9, .pre 10, .pre 11]) (als := [false, false, false, false]) (posts := [.val (Lit (.int .i64 0)), .ptr 124 1 (U1 y1) 0, .val (Lit (.int .u64 y1)), .val (Lit (.int .i64 (sideI y1)))])
    (out := [(44, .val (Lit (.int .i64 0))), (47, .val (Lit (.int .i64 (sideI y1)))), (30, .val (IsOnes (.endless y1) (whatV z2))), (31, .val (Lit (.int .i64 2))), (32, .val (Lit (.int .i64 0))), (8, .box 120 2 (A2 0 0)), (6, .val (IsOne (.endless y1))), (7, .val (IsOne (whatV z2))), (4, .val (Lit (.int .i64 0))), (5, .val (IsB false)), (117, .val (EnvV))]) (nb := []) H14 4 [4, 5] rfl (by kernel_rfl) rfl rfl ?_ ?_
  · refine .cons (.plain rfl (ok_move (.tmp 0 rfl))) ?_
    refine .cons (.plain rfl (ok_addrEn (.tmp 0 rfl))) ?_
    refine .cons (.plain rfl (ok_loadU1 (.tmp 0 rfl))) ?_
    refine .cons (.plain rfl (ok_call (con_side y1 b1) (.cons (.tmp 0 rfl) (.nil)))) ?_
    exact .nil
  clear H14 a13 w14 B13
  intro a15 w15 B15 H15
  refine idx_store (off := 0) (D' := A2 (sideI y1) 0) (l' := [(44, .val (Lit (.int .i64 0))), (47, .val (Lit (.int .i64 (sideI y1)))), (30, .val (IsOnes (.endless y1) (whatV z2))), (31, .val (Lit (.int .i64 2))), (32, .val (Lit (.int .i64 0))), (8, .box 120 2 (A2 (sideI y1) 0)), (6, .val (IsOne (.endless y1))), (7, .val (IsOne (whatV z2))), (4, .val (Lit (.int .i64 0))), (5, .val (IsB false)), (117, .val (EnvV))]) 5 1 H15 rfl rfl (.tmp 0 rfl) run_idxA2_0 sizeIntT rfl rfl rfl shape_A2 (by decide) (setA2_0 _ _ _) rfl rfl ?_
  clear H15 a15 w15
  intro a16 w16 Hq16
  obtain ⟨B16, H16⟩ : ∃ B, St 117 w0 B0 a16 w16 B [(44, .val (Lit (.int .i64 0))), (47, .val (Lit (.int .i64 (sideI y1)))), (30, .val (IsOnes (.endless y1) (whatV z2))), (31, .val (Lit (.int .i64 2))), (32, .val (Lit (.int .i64 0))), (8, .box 120 2 (A2 (sideI y1) 0)), (6, .val (IsOne (.endless y1))), (7, .val (IsOne (whatV z2))), (4, .val (Lit (.int .i64 0))), (5, .val (IsB false)), (117, .val (EnvV))] [12, 8, 2, 3] := ⟨_, Hq16⟩
  clear Hq16 B15
  refine ops_done ?_
  refine block_normal ?_
  refine block_normal ?_
  refine then_normal ?_
  refine flow_region (dsts := [some 49]) (refs := [[.pre 4]]) (outs := [.res 0, .pre 2, .pre 3, .pre 4, .pre 5, .pre 6, .pre 7, .pre 8, .pre 9, .pre 10]) (als := [false]) (posts := [.val (Lit (.int .i64 1))])
    (out := [(49, .val (Lit (.int .i64 1))), (30, .val (IsOnes (.endless y1) (whatV z2))), (31, .val (Lit (.int .i64 2))), (32, .val (Lit (.int .i64 0))), (8, .box 120 2 (A2 (sideI y1) 0)), (6, .val (IsOne (.endless y1))), (7, .val (IsOne (whatV z2))), (4, .val (Lit (.int .i64 0))), (5, .val (IsB false)), (117, .val (EnvV))]) (nb := []) H16 1 [1] rfl (by kernel_rfl) rfl rfl ?_ ?_
  · refine .cons (.plain rfl (ok_add (r := 1) (.tmp 0 rfl) (.lit) (by decide))) ?_
    exact .nil
  clear H16 a16 w16 B16
  intro a17 w17 B17 H17
  refine ops_one ?_
  refine tail_op (D := .val (Lit (.int .i64 1))) (l' := [(32, .val (Lit (.int .i64 1))), (49, .val (Lit (.int .i64 1))), (30, .val (IsOnes (.endless y1) (whatV z2))), (31, .val (Lit (.int .i64 2))), (8, .box 120 2 (A2 (sideI y1) 0)), (6, .val (IsOne (.endless y1))), (7, .val (IsOne (whatV z2))), (4, .val (Lit (.int .i64 0))), (5, .val (IsB false)), (117, .val (EnvV))]) H17 rfl rfl rfl (.plain rfl (ok_move (.tmp 0 rfl))) rfl rfl ?_
  clear H17 a17 w17 B17
  intro a18 w18 B18 H18
  refine ops_done ?_
  refine then_normal ?_
  rw [rounds_succ]
  refine wp_seq ?_
  refine flow_region (dsts := [some 33]) (refs := [[.pre 0, .pre 3]]) (outs := [.res 0, .pre 0, .pre 1, .pre 2, .pre 3, .pre 4, .pre 5, .pre 6, .pre 7, .pre 8, .pre 9]) (als := [false]) (posts := [.val (IsB true)])
    (out := [(33, .val (IsB true)), (32, .val (Lit (.int .i64 1))), (49, .val (Lit (.int .i64 1))), (30, .val (IsOnes (.endless y1) (whatV z2))), (31, .val (Lit (.int .i64 2))), (8, .box 120 2 (A2 (sideI y1) 0)), (6, .val (IsOne (.endless y1))), (7, .val (IsOne (whatV z2))), (4, .val (Lit (.int .i64 0))), (5, .val (IsB false)), (117, .val (EnvV))]) (nb := []) H18 1 [] rfl (by kernel_rfl) rfl rfl ?_ ?_
  · refine .cons (.plain rfl (ok_cmp (b := true) (.tmp 0 rfl) (.tmp 1 rfl) (by decide))) ?_
    exact .nil
  clear H18 a18 w18 B18
  intro a19 w19 B19 H19
  refine ops_done ?_
  refine then_normal ?_
  refine wp_seq ?_
  refine f_condT H19 (.tmp 0 rfl) ?_
  refine wp_skip ?_
  refine then_normal ?_
  refine wp_seq ?_
  refine wp_block ?_
  refine wp_seq ?_
  refine flow_region (dsts := [some 34, some 35, some 36, some 9, some 10]) (refs := [[.pre 1], [.pre 3, .pre 1], [.res 1], [.res 0], [.res 2]]) (outs := [.res 3, .res 4, .pre 1, .pre 2, .pre 3, .pre 4, .pre 5, .pre 6, .pre 7, .pre 8, .pre 9, .pre 10]) (als := [false, false, false, false, false]) (posts := [.val (Lit (.int .i64 1)), .val (IsCellO (whatV z2)), .val (IsOne (whatV z2)), .val (Lit (.int .i64 1)), .val (IsOne (whatV z2))])
    (out := [(9, .val (Lit (.int .i64 1))), (10, .val (IsOne (whatV z2))), (32, .val (Lit (.int .i64 1))), (49, .val (Lit (.int .i64 1))), (30, .val (IsOnes (.endless y1) (whatV z2))), (31, .val (Lit (.int .i64 2))), (8, .box 120 2 (A2 (sideI y1) 0)), (6, .val (IsOne (.endless y1))), (7, .val (IsOne (whatV z2))), (4, .val (Lit (.int .i64 0))), (5, .val (IsB false)), (117, .val (EnvV))]) (nb := []) H19 5 [] rfl (by kernel_rfl) rfl rfl ?_ ?_
  · refine .cons (.plain rfl (ok_move (.tmp 0 rfl))) ?_
    refine .cons (.plain rfl (ok_idxO1 (.tmp 0 rfl) (.tmp 1 rfl))) ?_
    refine .cons (.plain rfl (ok_loadCellO (.tmp 0 rfl))) ?_
    refine .cons (.plain rfl (ok_assign (.tmp 0 rfl))) ?_
    refine .cons (.plain rfl (ok_assign (.tmp 0 rfl))) ?_
    exact .nil
  clear H19 a19 w19 B19
  intro a20 w20 B20 H20
  refine ops_done ?_
  refine then_normal ?_
  refine wp_seq ?_
  rcases (what_cases z2 hz2) with ⟨X2, q2⟩ | ⟨x2, q2, b2, p2⟩ | ⟨y2, q2, b2⟩ | ⟨v2, q2⟩
  · have H21 := H20
    rw [q2] at H21
    clear H20
    replace H21 : St 117 w0 B0 a20 w20 B20 [(9, .val (Lit (.int .i64 1))), (10, .val (IsOne (.exact X2))), (32, .val (Lit (.int .i64 1))), (49, .val (Lit (.int .i64 1))), (30, .val (IsOnes (.endless y1) (.exact X2))), (31, .val (Lit (.int .i64 2))), (8, .box 120 2 (A2 (sideI y1) 0)), (6, .val (IsOne (.endless y1))), (7, .val (IsOne (.exact X2))), (4, .val (Lit (.int .i64 0))), (5, .val (IsB false)), (117, .val (EnvV))] [12, 8, 2, 3] := H21
    refine flow_region (dsts := [some 37]) (refs := [[.pre 1]]) (outs := [.res 0, .pre 0, .pre 2, .pre 3, .pre 4, .pre 5, .pre 6, .pre 7, .pre 8, .pre 9, .pre 10, .pre 11]) (als := [false]) (posts := [.val (IsOne (.exact X2))])
      (out := [(37, .val (IsOne (.exact X2))), (9, .val (Lit (.int .i64 1))), (32, .val (Lit (.int .i64 1))), (49, .val (Lit (.int .i64 1))), (30, .val (IsOnes (.endless y1) (.exact X2))), (31, .val (Lit (.int .i64 2))), (8, .box 120 2 (A2 (sideI y1) 0)), (6, .val (IsOne (.endless y1))), (7, .val (IsOne (.exact X2))), (4, .val (Lit (.int .i64 0))), (5, .val (IsB false)), (117, .val (EnvV))]) (nb := []) H21 1 [] rfl (by kernel_rfl) rfl rfl ?_ ?_
    · refine .cons (.plain rfl (ok_move (.tmp 0 rfl))) ?_
      exact .nil
    clear H21 a20 w20 B20
    intro a22 w22 B22 H22
    refine ops_done ?_
    refine then_normal ?_
    refine wp_block ?_
    refine wp_seq ?_
    refine flow_region (dsts := [some 38, some 39, some 40]) (refs := [[.pre 0], [.res 0], [.res 0]]) (outs := [.res 1, .res 2, .pre 0, .pre 1, .pre 2, .pre 3, .pre 4, .pre 5, .pre 6, .pre 7, .pre 8, .pre 9, .pre 10, .pre 11]) (als := [false, false, false]) (posts := [.val (Tup [VP.top, IsB false]), .val (IsB false), .val (VP.top)])
      (out := [(39, .val (IsB false)), (40, .val (VP.top)), (37, .val (IsOne (.exact X2))), (9, .val (Lit (.int .i64 1))), (32, .val (Lit (.int .i64 1))), (49, .val (Lit (.int .i64 1))), (30, .val (IsOnes (.endless y1) (.exact X2))), (31, .val (Lit (.int .i64 2))), (8, .box 120 2 (A2 (sideI y1) 0)), (6, .val (IsOne (.endless y1))), (7, .val (IsOne (.exact X2))), (4, .val (Lit (.int .i64 0))), (5, .val (IsB false)), (117, .val (EnvV))]) (nb := []) H22 3 [] rfl (by kernel_rfl) rfl rfl ?_ ?_
    · refine .cons (.plain rfl (ok_ta0 (.tmp 0 rfl) rfl (.inr (.inr (.inr rfl))) (show (166 : Nat) ≠ 123 by decide))) ?_
      refine .cons (.plain rfl (ok_extract 1 (.tmp 0 rfl) rfl)) ?_
      refine .cons (.plain rfl (ok_extract 0 (.tmp 0 rfl) rfl)) ?_
      exact .nil
    clear H22 a22 w22 B22
    intro a23 w23 B23 H23
    refine ops_done ?_
    refine then_normal ?_
    refine f_condF H23 (.tmp 0 rfl) ?_
    refine wp_seq ?_
    refine flow_region (dsts := [some 41, some 42, some 43]) (refs := [[.pre 2], [.res 0], [.res 0]]) (outs := [.res 1, .res 2, .pre 3, .pre 4, .pre 5, .pre 6, .pre 7, .pre 8, .pre 9, .pre 10, .pre 11, .pre 12, .pre 13]) (als := [false, false, false]) (posts := [.val (Tup [VP.top, IsB false]), .val (IsB false), .val (VP.top)])
      (out := [(42, .val (IsB false)), (43, .val (VP.top)), (9, .val (Lit (.int .i64 1))), (32, .val (Lit (.int .i64 1))), (49, .val (Lit (.int .i64 1))), (30, .val (IsOnes (.endless y1) (.exact X2))), (31, .val (Lit (.int .i64 2))), (8, .box 120 2 (A2 (sideI y1) 0)), (6, .val (IsOne (.endless y1))), (7, .val (IsOne (.exact X2))), (4, .val (Lit (.int .i64 0))), (5, .val (IsB false)), (117, .val (EnvV))]) (nb := []) H23 3 [] rfl (by kernel_rfl) rfl rfl ?_ ?_
    · refine .cons (.plain rfl (ok_ta0 (.tmp 0 rfl) rfl (.inr (.inr (.inl rfl))) (show (166 : Nat) ≠ 124 by decide))) ?_
      refine .cons (.plain rfl (ok_extract 1 (.tmp 0 rfl) rfl)) ?_
      refine .cons (.plain rfl (ok_extract 0 (.tmp 0 rfl) rfl)) ?_
      exact .nil
    clear H23 a23 w23 B23
    intro a24 w24 B24 H24
    refine ops_done ?_
    refine then_normal ?_
    refine f_condF H24 (.tmp 0 rfl) ?_
    refine wp_skip ?_
    refine block_normal ?_
    refine block_normal ?_
    refine then_normal ?_
    have H25 : St 117 w0 B0 a24 w24 B24 [(42, .val (IsB false)), (43, .val (VP.top)), (9, .val (Lit (.int .i64 1))), (32, .val (Lit (.int .i64 1))), (30, .val (IsOnes (.endless y1) (.exact X2))), (31, .val (Lit (.int .i64 2))), (8, .box 120 2 (A2 (sideI y1) 0)), (6, .val (IsOne (.endless y1))), (7, .val (IsOne (.exact X2))), (4, .val (Lit (.int .i64 0))), (5, .val (IsB false)), (117, .val (EnvV))] [12, 8, 2, 3] := St.pick H24 [0, 1, 2, 3, 5, 6, 7, 8, 9, 10, 11, 12] rfl
    clear H24
    refine flow_region (dsts := [some 49]) (refs := [[.pre 3]]) (outs := [.res 0, .pre 3, .pre 4, .pre 5, .pre 6, .pre 7, .pre 8, .pre 9, .pre 10, .pre 11]) (als := [false]) (posts := [.val (Lit (.int .i64 2))])
      (out := [(49, .val (Lit (.int .i64 2))), (32, .val (Lit (.int .i64 1))), (30, .val (IsOnes (.endless y1) (.exact X2))), (31, .val (Lit (.int .i64 2))), (8, .box 120 2 (A2 (sideI y1) 0)), (6, .val (IsOne (.endless y1))), (7, .val (IsOne (.exact X2))), (4, .val (Lit (.int .i64 0))), (5, .val (IsB false)), (117, .val (EnvV))]) (nb := []) H25 1 [1] rfl (by kernel_rfl) rfl rfl ?_ ?_
    · refine .cons (.plain rfl (ok_add (r := 2) (.tmp 0 rfl) (.lit) (by decide))) ?_
      exact .nil
    clear H25 a24 w24 B24
    intro a26 w26 B26 H26
    refine ops_one ?_
    refine tail_op (D := .val (Lit (.int .i64 2))) (l' := [(32, .val (Lit (.int .i64 2))), (49, .val (Lit (.int .i64 2))), (30, .val (IsOnes (.endless y1) (.exact X2))), (31, .val (Lit (.int .i64 2))), (8, .box 120 2 (A2 (sideI y1) 0)), (6, .val (IsOne (.endless y1))), (7, .val (IsOne (.exact X2))), (4, .val (Lit (.int .i64 0))), (5, .val (IsB false)), (117, .val (EnvV))]) H26 rfl rfl rfl (.plain rfl (ok_move (.tmp 0 rfl))) rfl rfl ?_
    clear H26 a26 w26 B26
    intro a27 w27 B27 H27
    refine ops_done ?_
    refine then_normal ?_
    rw [rounds_succ]
    refine wp_seq ?_
    refine flow_region (dsts := [some 33]) (refs := [[.pre 0, .pre 3]]) (outs := [.res 0, .pre 0, .pre 1, .pre 2, .pre 3, .pre 4, .pre 5, .pre 6, .pre 7, .pre 8, .pre 9]) (als := [false]) (posts := [.val (IsB false)])
      (out := [(33, .val (IsB false)), (32, .val (Lit (.int .i64 2))), (49, .val (Lit (.int .i64 2))), (30, .val (IsOnes (.endless y1) (.exact X2))), (31, .val (Lit (.int .i64 2))), (8, .box 120 2 (A2 (sideI y1) 0)), (6, .val (IsOne (.endless y1))), (7, .val (IsOne (.exact X2))), (4, .val (Lit (.int .i64 0))), (5, .val (IsB false)), (117, .val (EnvV))]) (nb := []) H27 1 [] rfl (by kernel_rfl) rfl rfl ?_ ?_
    · refine .cons (.plain rfl (ok_cmp (b := false) (.tmp 0 rfl) (.tmp 1 rfl) (by decide))) ?_
      exact .nil
    clear H27 a27 w27 B27
    intro a28 w28 B28 H28
    refine ops_done ?_
    refine then_normal ?_
    refine wp_seq ?_
    refine f_condF H28 (.tmp 0 rfl) ?_
    refine wp_exit ?_
    refine then_exit ?_
    refine then_exit ?_
    refine block_exit ?_
    refine then_normal ?_
    refine wp_seq ?_
    refine wp_seq ?_
    refine flow_region (dsts := [some 50, some 51, some 52]) (refs := [[.pre 5], [], [.res 0, .res 1]]) (outs := [.res 2, .pre 5, .pre 6, .pre 7, .pre 8, .pre 9, .pre 10]) (als := [false, false, false]) (posts := [.val (A2 (sideI y1) 0), .val (A2 0 0), .val (IsB true)])
      (out := [(52, .val (IsB true)), (8, .box 120 2 (A2 (sideI y1) 0)), (6, .val (IsOne (.endless y1))), (7, .val (IsOne (.exact X2))), (4, .val (Lit (.int .i64 0))), (5, .val (IsB false)), (117, .val (EnvV))]) (nb := []) H28 3 [] rfl (by kernel_rfl) rfl rfl ?_ ?_
    · refine .cons (.plain rfl (ok_load tyA2 (.tmp 0 rfl))) ?_
      refine .cons (.plain rfl (ok_buildA2)) ?_
      refine .cons (.plain rfl (ok_neA2 (.tmp 0 rfl) (.tmp 1 rfl) (by simp [sideI_ne]))) ?_
      exact .nil
    clear H28 a28 w28 B28
    intro a29 w29 B29 H29
    refine ops_done ?_
    refine then_normal ?_
    refine f_condT H29 (.tmp 0 rfl) ?_
    refine wp_seq ?_
    have H30 : St 117 w0 B0 a29 w29 B29 [(52, .val (IsB true)), (8, .box 120 2 (A2 (sideI y1) 0)), (6, .val (IsOne (.endless y1))), (7, .val (IsOne (.exact X2))), (117, .val (EnvV))] [12, 8, 2, 3] := St.pick H29 [0, 1, 2, 3, 6] rfl
    clear H29
    refine flow_region (dsts := [some 53, some 54, some 55, some 56, some 57, some 58, some 59, some 4, some 5]) (refs := [[.pre 1], [.res 0], [.pre 1], [.res 2], [.res 1, .res 3], [.res 4], [.res 5], [.res 6], []]) (outs := [.res 7, .res 8, .pre 2, .pre 3, .pre 4]) (als := [false, false, false, false, false, false, false, false, false]) (posts := [.ptr 120 2 (A2 (sideI y1) 0) 0, .val (Lit (.int .i64 (sideI y1))), .ptr 120 2 (A2 (sideI y1) 0) 1, .val (Lit (.int .i64 0)), .val (Lit (.int .i64 ((sideI y1) - 0))), .val (Lit (.int .i64 (if ((sideI y1) - 0) < 1 then (sideI y1) - 0 else 1))), .val (Lit (.int .i64 (if -1 < (if ((sideI y1) - 0) < 1 then (sideI y1) - 0 else 1) then if ((sideI y1) - 0) < 1 then (sideI y1) - 0 else 1 else -1))), .val (Lit (.int .i64 (if -1 < (if ((sideI y1) - 0) < 1 then (sideI y1) - 0 else 1) then if ((sideI y1) - 0) < 1 then (sideI y1) - 0 else 1 else -1))), .val (IsB true)])
      (out := [(4, .val (Lit (.int .i64 (if -1 < (if ((sideI y1) - 0) < 1 then (sideI y1) - 0 else 1) then if ((sideI y1) - 0) < 1 then (sideI y1) - 0 else 1 else -1)))), (5, .val (IsB true)), (6, .val (IsOne (.endless y1))), (7, .val (IsOne (.exact X2))), (117, .val (EnvV))]) (nb := []) H30 9 [] rfl (by kernel_rfl) rfl rfl ?_ ?_
    · refine .cons (.plain rfl (ok_idxA2_0 (.tmp 0 rfl) (.lit))) ?_
      refine .cons (.plain rfl (ok_loadA2_0 (.tmp 0 rfl))) ?_
      refine .cons (.plain rfl (ok_idxA2_1 (.tmp 0 rfl) (.lit))) ?_
      refine .cons (.plain rfl (ok_loadA2_1 (.tmp 0 rfl))) ?_
      refine .cons (.plain rfl (ok_sub (r := ((sideI y1) - 0)) (.tmp 0 rfl) (.tmp 1 rfl) (w_i64 (by omega)))) ?_
      refine .cons (.plain rfl (ok_min2 (.lit) (.tmp 0 rfl))) ?_
      refine .cons (.plain rfl (ok_max (.lit) (.tmp 0 rfl))) ?_
      refine .cons (.plain rfl (ok_assign (.tmp 0 rfl))) ?_
      refine .cons (.plain rfl (ok_assign (.lit))) ?_
      exact .nil
    clear H30 a29 w29 B29
    intro a31 w31 B31 H31
    refine ops_done ?_
    refine then_normal ?_
    refine wp_ret ?_
    refine then_ret ?_
    exact f_retN H31 rfl rfl (.tmp 0 rfl (fun v w B h => int_e (by rw [q1, q2, cmpO_end _ _ rfl rfl (by simp [endO, sideI_ne])]; rfl) h) (.tmp 1 rfl (fun v w B h => isB_e (by rw [q1, q2, cmpO_end _ _ rfl rfl (by simp [endO, sideI_ne])]) h) (.nil)))
  · have H32 := H20
    rw [q2] at H32
    clear H20
    replace H32 : St 117 w0 B0 a20 w20 B20 [(9, .val (Lit (.int .i64 1))), (10, .val (IsOne (.broken x2))), (32, .val (Lit (.int .i64 1))), (49, .val (Lit (.int .i64 1))), (30, .val (IsOnes (.endless y1) (.broken x2))), (31, .val (Lit (.int .i64 2))), (8, .box 120 2 (A2 (sideI y1) 0)), (6, .val (IsOne (.endless y1))), (7, .val (IsOne (.broken x2))), (4, .val (Lit (.int .i64 0))), (5, .val (IsB false)), (117, .val (EnvV))] [12, 8, 2, 3] := H32
    have hp2 := pE_bd (W := 64) (by unfold Wide; omega) x2
    have hm2 := partN_bd x2
    refine flow_region (dsts := [some 37]) (refs := [[.pre 1]]) (outs := [.res 0, .pre 0, .pre 2, .pre 3, .pre 4, .pre 5, .pre 6, .pre 7, .pre 8, .pre 9, .pre 10, .pre 11]) (als := [false]) (posts := [.val (IsOne (.broken x2))])
      (out := [(37, .val (IsOne (.broken x2))), (9, .val (Lit (.int .i64 1))), (32, .val (Lit (.int .i64 1))), (49, .val (Lit (.int .i64 1))), (30, .val (IsOnes (.endless y1) (.broken x2))), (31, .val (Lit (.int .i64 2))), (8, .box 120 2 (A2 (sideI y1) 0)), (6, .val (IsOne (.endless y1))), (7, .val (IsOne (.broken x2))), (4, .val (Lit (.int .i64 0))), (5, .val (IsB false)), (117, .val (EnvV))]) (nb := []) H32 1 [] rfl (by kernel_rfl) rfl rfl ?_ ?_
    · refine .cons (.plain rfl (ok_move (.tmp 0 rfl))) ?_
      exact .nil
    clear H32 a20 w20 B20
    intro a33 w33 B33 H33
    refine ops_done ?_
    refine then_normal ?_
    refine wp_block ?_
    refine wp_seq ?_
    refine flow_region (dsts := [some 38, some 39, some 40]) (refs := [[.pre 0], [.res 0], [.res 0]]) (outs := [.res 1, .res 2, .pre 0, .pre 1, .pre 2, .pre 3, .pre 4, .pre 5, .pre 6, .pre 7, .pre 8, .pre 9, .pre 10, .pre 11]) (als := [false, false, false]) (posts := [.val (Tup [VP.top, IsB false]), .val (IsB false), .val (VP.top)])
      (out := [(39, .val (IsB false)), (40, .val (VP.top)), (37, .val (IsOne (.broken x2))), (9, .val (Lit (.int .i64 1))), (32, .val (Lit (.int .i64 1))), (49, .val (Lit (.int .i64 1))), (30, .val (IsOnes (.endless y1) (.broken x2))), (31, .val (Lit (.int .i64 2))), (8, .box 120 2 (A2 (sideI y1) 0)), (6, .val (IsOne (.endless y1))), (7, .val (IsOne (.broken x2))), (4, .val (Lit (.int .i64 0))), (5, .val (IsB false)), (117, .val (EnvV))]) (nb := []) H33 3 [] rfl (by kernel_rfl) rfl rfl ?_ ?_
    · refine .cons (.plain rfl (ok_ta0 (.tmp 0 rfl) rfl (.inr (.inr (.inr rfl))) (show (167 : Nat) ≠ 123 by decide))) ?_
      refine .cons (.plain rfl (ok_extract 1 (.tmp 0 rfl) rfl)) ?_
      refine .cons (.plain rfl (ok_extract 0 (.tmp 0 rfl) rfl)) ?_
      exact .nil
    clear H33 a33 w33 B33
    intro a34 w34 B34 H34
    refine ops_done ?_
    refine then_normal ?_
    refine f_condF H34 (.tmp 0 rfl) ?_
    refine wp_seq ?_
    refine flow_region (dsts := [some 41, some 42, some 43]) (refs := [[.pre 2], [.res 0], [.res 0]]) (outs := [.res 1, .res 2, .pre 3, .pre 4, .pre 5, .pre 6, .pre 7, .pre 8, .pre 9, .pre 10, .pre 11, .pre 12, .pre 13]) (als := [false, false, false]) (posts := [.val (Tup [VP.top, IsB false]), .val (IsB false), .val (VP.top)])
      (out := [(42, .val (IsB false)), (43, .val (VP.top)), (9, .val (Lit (.int .i64 1))), (32, .val (Lit (.int .i64 1))), (49, .val (Lit (.int .i64 1))), (30, .val (IsOnes (.endless y1) (.broken x2))), (31, .val (Lit (.int .i64 2))), (8, .box 120 2 (A2 (sideI y1) 0)), (6, .val (IsOne (.endless y1))), (7, .val (IsOne (.broken x2))), (4, .val (Lit (.int .i64 0))), (5, .val (IsB false)), (117, .val (EnvV))]) (nb := []) H34 3 [] rfl (by kernel_rfl) rfl rfl ?_ ?_
    · refine .cons (.plain rfl (ok_ta0 (.tmp 0 rfl) rfl (.inr (.inr (.inl rfl))) (show (167 : Nat) ≠ 124 by decide))) ?_
      refine .cons (.plain rfl (ok_extract 1 (.tmp 0 rfl) rfl)) ?_
      refine .cons (.plain rfl (ok_extract 0 (.tmp 0 rfl) rfl)) ?_
      exact .nil
    clear H34 a34 w34 B34
    intro a35 w35 B35 H35
    refine ops_done ?_
    refine then_normal ?_
    refine f_condF H35 (.tmp 0 rfl) ?_
    refine wp_skip ?_
    refine block_normal ?_
    refine block_normal ?_
    refine then_normal ?_
    have H36 : St 117 w0 B0 a35 w35 B35 [(42, .val (IsB false)), (43, .val (VP.top)), (9, .val (Lit (.int .i64 1))), (32, .val (Lit (.int .i64 1))), (30, .val (IsOnes (.endless y1) (.broken x2))), (31, .val (Lit (.int .i64 2))), (8, .box 120 2 (A2 (sideI y1) 0)), (6, .val (IsOne (.endless y1))), (7, .val (IsOne (.broken x2))), (4, .val (Lit (.int .i64 0))), (5, .val (IsB false)), (117, .val (EnvV))] [12, 8, 2, 3] := St.pick H35 [0, 1, 2, 3, 5, 6, 7, 8, 9, 10, 11, 12] rfl
    clear H35
    refine flow_region (dsts := [some 49]) (refs := [[.pre 3]]) (outs := [.res 0, .pre 3, .pre 4, .pre 5, .pre 6, .pre 7, .pre 8, .pre 9, .pre 10, .pre 11]) (als := [false]) (posts := [.val (Lit (.int .i64 2))])
      (out := [(49, .val (Lit (.int .i64 2))), (32, .val (Lit (.int .i64 1))), (30, .val (IsOnes (.endless y1) (.broken x2))), (31, .val (Lit (.int .i64 2))), (8, .box 120 2 (A2 (sideI y1) 0)), (6, .val (IsOne (.endless y1))), (7, .val (IsOne (.broken x2))), (4, .val (Lit (.int .i64 0))), (5, .val (IsB false)), (117, .val (EnvV))]) (nb := []) H36 1 [1] rfl (by kernel_rfl) rfl rfl ?_ ?_
    · refine .cons (.plain rfl (ok_add (r := 2) (.tmp 0 rfl) (.lit) (by decide))) ?_
      exact .nil
    clear H36 a35 w35 B35
    intro a37 w37 B37 H37
    refine ops_one ?_
    refine tail_op (D := .val (Lit (.int .i64 2))) (l' := [(32, .val (Lit (.int .i64 2))), (49, .val (Lit (.int .i64 2))), (30, .val (IsOnes (.endless y1) (.broken x2))), (31, .val (Lit (.int .i64 2))), (8, .box 120 2 (A2 (sideI y1) 0)), (6, .val (IsOne (.endless y1))), (7, .val (IsOne (.broken x2))), (4, .val (Lit (.int .i64 0))), (5, .val (IsB false)), (117, .val (EnvV))]) H37 rfl rfl rfl (.plain rfl (ok_move (.tmp 0 rfl))) rfl rfl ?_
    clear H37 a37 w37 B37
    intro a38 w38 B38 H38
    refine ops_done ?_
    refine then_normal ?_
    rw [rounds_succ]
    refine wp_seq ?_
    refine flow_region (dsts := [some 33]) (refs := [[.pre 0, .pre 3]]) (outs := [.res 0, .pre 0, .pre 1, .pre 2, .pre 3, .pre 4, .pre 5, .pre 6, .pre 7, .pre 8, .pre 9]) (als := [false]) (posts := [.val (IsB false)])
      (out := [(33, .val (IsB false)), (32, .val (Lit (.int .i64 2))), (49, .val (Lit (.int .i64 2))), (30, .val (IsOnes (.endless y1) (.broken x2))), (31, .val (Lit (.int .i64 2))), (8, .box 120 2 (A2 (sideI y1) 0)), (6, .val (IsOne (.endless y1))), (7, .val (IsOne (.broken x2))), (4, .val (Lit (.int .i64 0))), (5, .val (IsB false)), (117, .val (EnvV))]) (nb := []) H38 1 [] rfl (by kernel_rfl) rfl rfl ?_ ?_
    · refine .cons (.plain rfl (ok_cmp (b := false) (.tmp 0 rfl) (.tmp 1 rfl) (by decide))) ?_
      exact .nil
    clear H38 a38 w38 B38
    intro a39 w39 B39 H39
    refine ops_done ?_
    refine then_normal ?_
    refine wp_seq ?_
    refine f_condF H39 (.tmp 0 rfl) ?_
    refine wp_exit ?_
    refine then_exit ?_
    refine then_exit ?_
    refine block_exit ?_
    refine then_normal ?_
    refine wp_seq ?_
    refine wp_seq ?_
    refine flow_region (dsts := [some 50, some 51, some 52]) (refs := [[.pre 5], [], [.res 0, .res 1]]) (outs := [.res 2, .pre 5, .pre 6, .pre 7, .pre 8, .pre 9, .pre 10]) (als := [false, false, false]) (posts := [.val (A2 (sideI y1) 0), .val (A2 0 0), .val (IsB true)])
      (out := [(52, .val (IsB true)), (8, .box 120 2 (A2 (sideI y1) 0)), (6, .val (IsOne (.endless y1))), (7, .val (IsOne (.broken x2))), (4, .val (Lit (.int .i64 0))), (5, .val (IsB false)), (117, .val (EnvV))]) (nb := []) H39 3 [] rfl (by kernel_rfl) rfl rfl ?_ ?_
    · refine .cons (.plain rfl (ok_load tyA2 (.tmp 0 rfl))) ?_
      refine .cons (.plain rfl (ok_buildA2)) ?_
      refine .cons (.plain rfl (ok_neA2 (.tmp 0 rfl) (.tmp 1 rfl) (by simp [sideI_ne]))) ?_
      exact .nil
    clear H39 a39 w39 B39
    intro a40 w40 B40 H40
    refine ops_done ?_
    refine then_normal ?_
    refine f_condT H40 (.tmp 0 rfl) ?_
    refine wp_seq ?_
    have H41 : St 117 w0 B0 a40 w40 B40 [(52, .val (IsB true)), (8, .box 120 2 (A2 (sideI y1) 0)), (6, .val (IsOne (.endless y1))), (7, .val (IsOne (.broken x2))), (117, .val (EnvV))] [12, 8, 2, 3] := St.pick H40 [0, 1, 2, 3, 6] rfl
    clear H40
    refine flow_region (dsts := [some 53, some 54, some 55, some 56, some 57, some 58, some 59, some 4, some 5]) (refs := [[.pre 1], [.res 0], [.pre 1], [.res 2], [.res 1, .res 3], [.res 4], [.res 5], [.res 6], []]) (outs := [.res 7, .res 8, .pre 2, .pre 3, .pre 4]) (als := [false, false, false, false, false, false, false, false, false]) (posts := [.ptr 120 2 (A2 (sideI y1) 0) 0, .val (Lit (.int .i64 (sideI y1))), .ptr 120 2 (A2 (sideI y1) 0) 1, .val (Lit (.int .i64 0)), .val (Lit (.int .i64 ((sideI y1) - 0))), .val (Lit (.int .i64 (if ((sideI y1) - 0) < 1 then (sideI y1) - 0 else 1))), .val (Lit (.int .i64 (if -1 < (if ((sideI y1) - 0) < 1 then (sideI y1) - 0 else 1) then if ((sideI y1) - 0) < 1 then (sideI y1) - 0 else 1 else -1))), .val (Lit (.int .i64 (if -1 < (if ((sideI y1) - 0) < 1 then (sideI y1) - 0 else 1) then if ((sideI y1) - 0) < 1 then (sideI y1) - 0 else 1 else -1))), .val (IsB true)])
      (out := [(4, .val (Lit (.int .i64 (if -1 < (if ((sideI y1) - 0) < 1 then (sideI y1) - 0 else 1) then if ((sideI y1) - 0) < 1 then (sideI y1) - 0 else 1 else -1)))), (5, .val (IsB true)), (6, .val (IsOne (.endless y1))), (7, .val (IsOne (.broken x2))), (117, .val (EnvV))]) (nb := []) H41 9 [] rfl (by kernel_rfl) rfl rfl ?_ ?_
    · refine .cons (.plain rfl (ok_idxA2_0 (.tmp 0 rfl) (.lit))) ?_
      refine .cons (.plain rfl (ok_loadA2_0 (.tmp 0 rfl))) ?_
      refine .cons (.plain rfl (ok_idxA2_1 (.tmp 0 rfl) (.lit))) ?_
      refine .cons (.plain rfl (ok_loadA2_1 (.tmp 0 rfl))) ?_
      refine .cons (.plain rfl (ok_sub (r := ((sideI y1) - 0)) (.tmp 0 rfl) (.tmp 1 rfl) (w_i64 (by omega)))) ?_
      refine .cons (.plain rfl (ok_min2 (.lit) (.tmp 0 rfl))) ?_
      refine .cons (.plain rfl (ok_max (.lit) (.tmp 0 rfl))) ?_
      refine .cons (.plain rfl (ok_assign (.tmp 0 rfl))) ?_
      refine .cons (.plain rfl (ok_assign (.lit))) ?_
      exact .nil
    clear H41 a40 w40 B40
    intro a42 w42 B42 H42
    refine ops_done ?_
    refine then_normal ?_
    refine wp_ret ?_
    refine then_ret ?_
    exact f_retN H42 rfl rfl (.tmp 0 rfl (fun v w B h => int_e (by rw [q1, q2, cmpO_end _ _ rfl rfl (by simp [endO, sideI_ne])]; rfl) h) (.tmp 1 rfl (fun v w B h => isB_e (by rw [q1, q2, cmpO_end _ _ rfl rfl (by simp [endO, sideI_ne])]) h) (.nil)))
  · have H43 := H20
    rw [q2] at H43
    clear H20
    replace H43 : St 117 w0 B0 a20 w20 B20 [(9, .val (Lit (.int .i64 1))), (10, .val (IsOne (.endless y2))), (32, .val (Lit (.int .i64 1))), (49, .val (Lit (.int .i64 1))), (30, .val (IsOnes (.endless y1) (.endless y2))), (31, .val (Lit (.int .i64 2))), (8, .box 120 2 (A2 (sideI y1) 0)), (6, .val (IsOne (.endless y1))), (7, .val (IsOne (.endless y2))), (4, .val (Lit (.int .i64 0))), (5, .val (IsB false)), (117, .val (EnvV))] [12, 8, 2, 3] := H43
    have hs2 := sideI_bd y2
    refine flow_region (dsts := [some 37]) (refs := [[.pre 1]]) (outs := [.res 0, .pre 0, .pre 2, .pre 3, .pre 4, .pre 5, .pre 6, .pre 7, .pre 8, .pre 9, .pre 10, .pre 11]) (als := [false]) (posts := [.val (IsOne (.endless y2))])
      (out := [(37, .val (IsOne (.endless y2))), (9, .val (Lit (.int .i64 1))), (32, .val (Lit (.int .i64 1))), (49, .val (Lit (.int .i64 1))), (30, .val (IsOnes (.endless y1) (.endless y2))), (31, .val (Lit (.int .i64 2))), (8, .box 120 2 (A2 (sideI y1) 0)), (6, .val (IsOne (.endless y1))), (7, .val (IsOne (.endless y2))), (4, .val (Lit (.int .i64 0))), (5, .val (IsB false)), (117, .val (EnvV))]) (nb := []) H43 1 [] rfl (by kernel_rfl) rfl rfl ?_ ?_
    · refine .cons (.plain rfl (ok_move (.tmp 0 rfl))) ?_
      exact .nil
    clear H43 a20 w20 B20
    intro a44 w44 B44 H44
    refine ops_done ?_
    refine then_normal ?_
    refine wp_block ?_
    refine wp_seq ?_
    refine flow_region (dsts := [some 38, some 39, some 40]) (refs := [[.pre 0], [.res 0], [.res 0]]) (outs := [.res 1, .res 2, .pre 0, .pre 1, .pre 2, .pre 3, .pre 4, .pre 5, .pre 6, .pre 7, .pre 8, .pre 9, .pre 10, .pre 11]) (als := [false, false, false]) (posts := [.val (Tup [VP.top, IsB false]), .val (IsB false), .val (VP.top)])
      (out := [(39, .val (IsB false)), (40, .val (VP.top)), (37, .val (IsOne (.endless y2))), (9, .val (Lit (.int .i64 1))), (32, .val (Lit (.int .i64 1))), (49, .val (Lit (.int .i64 1))), (30, .val (IsOnes (.endless y1) (.endless y2))), (31, .val (Lit (.int .i64 2))), (8, .box 120 2 (A2 (sideI y1) 0)), (6, .val (IsOne (.endless y1))), (7, .val (IsOne (.endless y2))), (4, .val (Lit (.int .i64 0))), (5, .val (IsB false)), (117, .val (EnvV))]) (nb := []) H44 3 [] rfl (by kernel_rfl) rfl rfl ?_ ?_
    · refine .cons (.plain rfl (ok_ta0 (.tmp 0 rfl) rfl (.inr (.inr (.inr rfl))) (show (124 : Nat) ≠ 123 by decide))) ?_
      refine .cons (.plain rfl (ok_extract 1 (.tmp 0 rfl) rfl)) ?_
      refine .cons (.plain rfl (ok_extract 0 (.tmp 0 rfl) rfl)) ?_
      exact .nil
    clear H44 a44 w44 B44
    intro a45 w45 B45 H45
    refine ops_done ?_
    refine then_normal ?_
    refine f_condF H45 (.tmp 0 rfl) ?_
    refine wp_seq ?_
    refine flow_region (dsts := [some 41, some 42, some 43]) (refs := [[.pre 2], [.res 0], [.res 0]]) (outs := [.res 1, .res 2, .pre 3, .pre 4, .pre 5, .pre 6, .pre 7, .pre 8, .pre 9, .pre 10, .pre 11, .pre 12, .pre 13]) (als := [false, false, false]) (posts := [.val (Tup [U1 y2, IsB true]), .val (IsB true), .val (U1 y2)])
      (out := [(42, .val (IsB true)), (43, .val (U1 y2)), (9, .val (Lit (.int .i64 1))), (32, .val (Lit (.int .i64 1))), (49, .val (Lit (.int .i64 1))), (30, .val (IsOnes (.endless y1) (.endless y2))), (31, .val (Lit (.int .i64 2))), (8, .box 120 2 (A2 (sideI y1) 0)), (6, .val (IsOne (.endless y1))), (7, .val (IsOne (.endless y2))), (4, .val (Lit (.int .i64 0))), (5, .val (IsB false)), (117, .val (EnvV))]) (nb := []) H45 3 [] rfl (by kernel_rfl) rfl rfl ?_ ?_
    · refine .cons (.plain rfl (ok_ta1 (.tmp 0 rfl) rfl rfl rfl)) ?_
      refine .cons (.plain rfl (ok_extract 1 (.tmp 0 rfl) rfl)) ?_
      refine .cons (.plain rfl (ok_extract 0 (.tmp 0 rfl) rfl)) ?_
      exact .nil
    clear H45 a45 w45 B45
    intro a46 w46 B46 H46
    refine ops_done ?_
    refine then_normal ?_
    refine f_condT H46 (.tmp 0 rfl) ?_
    refine wp_seq ?_
    have H47 : St 117 w0 B0 a46 w46 B46 [(42, .val (IsB true)), (43, .val (U1 y2)), (9, .val (Lit (.int .i64 1))), (32, .val (Lit (.int .i64 1))), (49, .val (Lit (.int .i64 1))), (30, .val (IsOnes (.endless y1) (.endless y2))), (31, .val (Lit (.int .i64 2))), (8, .box 120 2 (A2 (sideI y1) 0)), (6, .val (IsOne (.endless y1))), (7, .val (IsOne (.endless y2))), (4, .val (Lit (.int .i64 0))), (5, .val (IsB false)), (117, .val (EnvV))] [8, 2, 3] := St.unbox H46 _ rfl
    clear H46
    refine flow_region (dsts := [some 12]) (refs := [[]]) (outs := [.res 0, .pre 1, .pre 2, .pre 3, .pre 4, .pre 5, .pre 6, .pre 7, .pre 8, .pre 9, .pre 10, .pre 11, .pre 12]) (als := [true]) (posts := [.box 124 1 (U1 0)])
      (out := [(12, .box 124 1 (U1 0)), (43, .val (U1 y2)), (9, .val (Lit (.int .i64 1))), (32, .val (Lit (.int .i64 1))), (49, .val (Lit (.int .i64 1))), (30, .val (IsOnes (.endless y1) (.endless y2))), (31, .val (Lit (.int .i64 2))), (8, .box 120 2 (A2 (sideI y1) 0)), (6, .val (IsOne (.endless y1))), (7, .val (IsOne (.endless y2))), (4, .val (Lit (.int .i64 0))), (5, .val (IsB false)), (117, .val (EnvV))]) (nb := [12]) H47 1 [1] rfl (by kernel_rfl) rfl rfl ?_ ?_
    · refine .cons (.plain rfl (ok_allocEn)) ?_
      exact .nil
    clear H47 a46 w46 B46
    intro a48 w48 B48 H48
    simp only [List.cons_append, List.nil_append] at H48
    refine ops_one ?_
    refine store_op (l' := [(12, .box 124 1 (U1 y2)), (43, .val (U1 y2)), (9, .val (Lit (.int .i64 1))), (32, .val (Lit (.int .i64 1))), (49, .val (Lit (.int .i64 1))), (30, .val (IsOnes (.endless y1) (.endless y2))), (31, .val (Lit (.int .i64 2))), (8, .box 120 2 (A2 (sideI y1) 0)), (6, .val (IsOne (.endless y1))), (7, .val (IsOne (.endless y2))), (4, .val (Lit (.int .i64 0))), (5, .val (IsB false)), (117, .val (EnvV))]) 0 H48 rfl tyEn rfl (.tmp 1 rfl) shape_U1 shape_U1 rfl rfl ?_
    clear H48 w48
    intro w49 H49
    refine ops_done ?_
    refine then_normal ?_
    refine flow_region (dsts := [some 44, some 45, some 46, some 47]) (refs := [[.pre 2], [.pre 0], [.res 1], [.res 2]]) (outs := [.res 0, .res 3, .pre 3, .pre 4, .pre 5, .pre 6, .pre 7, .pre 8, .pre 9, .pre 10, .pre 11, .pre 12]) (als := [false, false, false, false]) (posts := [.val (Lit (.int .i64 1)), .ptr 124 1 (U1 y2) 0, .val (Lit (.int .u64 y2)), .val (Lit (.int .i64 (sideI y2)))])
      (out := [(44, .val (Lit (.int .i64 1))), (47, .val (Lit (.int .i64 (sideI y2)))), (32, .val (Lit (.int .i64 1))), (49, .val (Lit (.int .i64 1))), (30, .val (IsOnes (.endless y1) (.endless y2))), (31, .val (Lit (.int .i64 2))), (8, .box 120 2 (A2 (sideI y1) 0)), (6, .val (IsOne (.endless y1))), (7, .val (IsOne (.endless y2))), (4, .val (Lit (.int .i64 0))), (5, .val (IsB false)), (117, .val (EnvV))]) (nb := []) H49 4 [4, 5] rfl (by kernel_rfl) rfl rfl ?_ ?_
    · refine .cons (.plain rfl (ok_move (.tmp 0 rfl))) ?_
      refine .cons (.plain rfl (ok_addrEn (.tmp 0 rfl))) ?_
      refine .cons (.plain rfl (ok_loadU1 (.tmp 0 rfl))) ?_
      refine .cons (.plain rfl (ok_call (con_side y2 b2) (.cons (.tmp 0 rfl) (.nil)))) ?_
      exact .nil
    clear H49 a48 w49 B48
    intro a50 w50 B50 H50
    refine idx_store (off := 1) (D' := A2 (sideI y1) (sideI y2)) (l' := [(44, .val (Lit (.int .i64 1))), (47, .val (Lit (.int .i64 (sideI y2)))), (32, .val (Lit (.int .i64 1))), (49, .val (Lit (.int .i64 1))), (30, .val (IsOnes (.endless y1) (.endless y2))), (31, .val (Lit (.int .i64 2))), (8, .box 120 2 (A2 (sideI y1) (sideI y2))), (6, .val (IsOne (.endless y1))), (7, .val (IsOne (.endless y2))), (4, .val (Lit (.int .i64 0))), (5, .val (IsB false)), (117, .val (EnvV))]) 6 1 H50 rfl rfl (.tmp 0 rfl) run_idxA2_1 sizeIntT rfl rfl rfl shape_A2 (by decide) (setA2_1 _ _ _) rfl rfl ?_
    clear H50 a50 w50
    intro a51 w51 Hq51
    obtain ⟨B51, H51⟩ : ∃ B, St 117 w0 B0 a51 w51 B [(44, .val (Lit (.int .i64 1))), (47, .val (Lit (.int .i64 (sideI y2)))), (32, .val (Lit (.int .i64 1))), (49, .val (Lit (.int .i64 1))), (30, .val (IsOnes (.endless y1) (.endless y2))), (31, .val (Lit (.int .i64 2))), (8, .box 120 2 (A2 (sideI y1) (sideI y2))), (6, .val (IsOne (.endless y1))), (7, .val (IsOne (.endless y2))), (4, .val (Lit (.int .i64 0))), (5, .val (IsB false)), (117, .val (EnvV))] [12, 8, 2, 3] := ⟨_, Hq51⟩
    clear Hq51 B50
    refine ops_done ?_
    refine block_normal ?_
    refine block_normal ?_
    refine then_normal ?_
    have H52 : St 117 w0 B0 a51 w51 B51 [(44, .val (Lit (.int .i64 1))), (47, .val (Lit (.int .i64 (sideI y2)))), (32, .val (Lit (.int .i64 1))), (30, .val (IsOnes (.endless y1) (.endless y2))), (31, .val (Lit (.int .i64 2))), (8, .box 120 2 (A2 (sideI y1) (sideI y2))), (6, .val (IsOne (.endless y1))), (7, .val (IsOne (.endless y2))), (4, .val (Lit (.int .i64 0))), (5, .val (IsB false)), (117, .val (EnvV))] [12, 8, 2, 3] := St.pick H51 [0, 1, 2, 4, 5, 6, 7, 8, 9, 10, 11] rfl
    clear H51
    refine flow_region (dsts := [some 49]) (refs := [[.pre 2]]) (outs := [.res 0, .pre 2, .pre 3, .pre 4, .pre 5, .pre 6, .pre 7, .pre 8, .pre 9, .pre 10]) (als := [false]) (posts := [.val (Lit (.int .i64 2))])
      (out := [(49, .val (Lit (.int .i64 2))), (32, .val (Lit (.int .i64 1))), (30, .val (IsOnes (.endless y1) (.endless y2))), (31, .val (Lit (.int .i64 2))), (8, .box 120 2 (A2 (sideI y1) (sideI y2))), (6, .val (IsOne (.endless y1))), (7, .val (IsOne (.endless y2))), (4, .val (Lit (.int .i64 0))), (5, .val (IsB false)), (117, .val (EnvV))]) (nb := []) H52 1 [1] rfl (by kernel_rfl) rfl rfl ?_ ?_
    · refine .cons (.plain rfl (ok_add (r := 2) (.tmp 0 rfl) (.lit) (by decide))) ?_
      exact .nil
    clear H52 a51 w51 B51
    intro a53 w53 B53 H53
    refine ops_one ?_
    refine tail_op (D := .val (Lit (.int .i64 2))) (l' := [(32, .val (Lit (.int .i64 2))), (49, .val (Lit (.int .i64 2))), (30, .val (IsOnes (.endless y1) (.endless y2))), (31, .val (Lit (.int .i64 2))), (8, .box 120 2 (A2 (sideI y1) (sideI y2))), (6, .val (IsOne (.endless y1))), (7, .val (IsOne (.endless y2))), (4, .val (Lit (.int .i64 0))), (5, .val (IsB false)), (117, .val (EnvV))]) H53 rfl rfl rfl (.plain rfl (ok_move (.tmp 0 rfl))) rfl rfl ?_
    clear H53 a53 w53 B53
    intro a54 w54 B54 H54
    refine ops_done ?_
    refine then_normal ?_
    rw [rounds_succ]
    refine wp_seq ?_
    refine flow_region (dsts := [some 33]) (refs := [[.pre 0, .pre 3]]) (outs := [.res 0, .pre 0, .pre 1, .pre 2, .pre 3, .pre 4, .pre 5, .pre 6, .pre 7, .pre 8, .pre 9]) (als := [false]) (posts := [.val (IsB false)])
      (out := [(33, .val (IsB false)), (32, .val (Lit (.int .i64 2))), (49, .val (Lit (.int .i64 2))), (30, .val (IsOnes (.endless y1) (.endless y2))), (31, .val (Lit (.int .i64 2))), (8, .box 120 2 (A2 (sideI y1) (sideI y2))), (6, .val (IsOne (.endless y1))), (7, .val (IsOne (.endless y2))), (4, .val (Lit (.int .i64 0))), (5, .val (IsB false)), (117, .val (EnvV))]) (nb := []) H54 1 [] rfl (by kernel_rfl) rfl rfl ?_ ?_
    · refine .cons (.plain rfl (ok_cmp (b := false) (.tmp 0 rfl) (.tmp 1 rfl) (by decide))) ?_
      exact .nil
    clear H54 a54 w54 B54
    intro a55 w55 B55 H55
    refine ops_done ?_
    refine then_normal ?_
    refine wp_seq ?_
    refine f_condF H55 (.tmp 0 rfl) ?_
    refine wp_exit ?_
    refine then_exit ?_
    refine then_exit ?_
    refine block_exit ?_
    refine then_normal ?_
    refine wp_seq ?_
    refine wp_seq ?_
    refine flow_region (dsts := [some 50, some 51, some 52]) (refs := [[.pre 5], [], [.res 0, .res 1]]) (outs := [.res 2, .pre 5, .pre 6, .pre 7, .pre 8, .pre 9, .pre 10]) (als := [false, false, false]) (posts := [.val (A2 (sideI y1) (sideI y2)), .val (A2 0 0), .val (IsB true)])
      (out := [(52, .val (IsB true)), (8, .box 120 2 (A2 (sideI y1) (sideI y2))), (6, .val (IsOne (.endless y1))), (7, .val (IsOne (.endless y2))), (4, .val (Lit (.int .i64 0))), (5, .val (IsB false)), (117, .val (EnvV))]) (nb := []) H55 3 [] rfl (by kernel_rfl) rfl rfl ?_ ?_
    · refine .cons (.plain rfl (ok_load tyA2 (.tmp 0 rfl))) ?_
      refine .cons (.plain rfl (ok_buildA2)) ?_
      refine .cons (.plain rfl (ok_neA2 (.tmp 0 rfl) (.tmp 1 rfl) (by simp [sideI_ne]))) ?_
      exact .nil
    clear H55 a55 w55 B55
    intro a56 w56 B56 H56
    refine ops_done ?_
    refine then_normal ?_
    refine f_condT H56 (.tmp 0 rfl) ?_
    refine wp_seq ?_
    have H57 : St 117 w0 B0 a56 w56 B56 [(52, .val (IsB true)), (8, .box 120 2 (A2 (sideI y1) (sideI y2))), (6, .val (IsOne (.endless y1))), (7, .val (IsOne (.endless y2))), (117, .val (EnvV))] [12, 8, 2, 3] := St.pick H56 [0, 1, 2, 3, 6] rfl
    clear H56
    refine flow_region (dsts := [some 53, some 54, some 55, some 56, some 57, some 58, some 59, some 4, some 5]) (refs := [[.pre 1], [.res 0], [.pre 1], [.res 2], [.res 1, .res 3], [.res 4], [.res 5], [.res 6], []]) (outs := [.res 7, .res 8, .pre 2, .pre 3, .pre 4]) (als := [false, false, false, false, false, false, false, false, false]) (posts := [.ptr 120 2 (A2 (sideI y1) (sideI y2)) 0, .val (Lit (.int .i64 (sideI y1))), .ptr 120 2 (A2 (sideI y1) (sideI y2)) 1, .val (Lit (.int .i64 (sideI y2))), .val (Lit (.int .i64 ((sideI y1) - (sideI y2)))), .val (Lit (.int .i64 (if ((sideI y1) - (sideI y2)) < 1 then (sideI y1) - (sideI y2) else 1))), .val (Lit (.int .i64 (if -1 < (if ((sideI y1) - (sideI y2)) < 1 then (sideI y1) - (sideI y2) else 1) then if ((sideI y1) - (sideI y2)) < 1 then (sideI y1) - (sideI y2) else 1 else -1))), .val (Lit (.int .i64 (if -1 < (if ((sideI y1) - (sideI y2)) < 1 then (sideI y1) - (sideI y2) else 1) then if ((sideI y1) - (sideI y2)) < 1 then (sideI y1) - (sideI y2) else 1 else -1))), .val (IsB true)])
      (out := [(4, .val (Lit (.int .i64 (if -1 < (if ((sideI y1) - (sideI y2)) < 1 then (sideI y1) - (sideI y2) else 1) then if ((sideI y1) - (sideI y2)) < 1 then (sideI y1) - (sideI y2) else 1 else -1)))), (5, .val (IsB true)), (6, .val (IsOne (.endless y1))), (7, .val (IsOne (.endless y2))), (117, .val (EnvV))]) (nb := []) H57 9 [] rfl (by kernel_rfl) rfl rfl ?_ ?_
    · refine .cons (.plain rfl (ok_idxA2_0 (.tmp 0 rfl) (.lit))) ?_
      refine .cons (.plain rfl (ok_loadA2_0 (.tmp 0 rfl))) ?_
      refine .cons (.plain rfl (ok_idxA2_1 (.tmp 0 rfl) (.lit))) ?_
      refine .cons (.plain rfl (ok_loadA2_1 (.tmp 0 rfl))) ?_
      refine .cons (.plain rfl (ok_sub (r := ((sideI y1) - (sideI y2))) (.tmp 0 rfl) (.tmp 1 rfl) (w_i64 (by omega)))) ?_
      refine .cons (.plain rfl (ok_min2 (.lit) (.tmp 0 rfl))) ?_
      refine .cons (.plain rfl (ok_max (.lit) (.tmp 0 rfl))) ?_
      refine .cons (.plain rfl (ok_assign (.tmp 0 rfl))) ?_
      refine .cons (.plain rfl (ok_assign (.lit))) ?_
      exact .nil
    clear H57 a56 w56 B56
    intro a58 w58 B58 H58
    refine ops_done ?_
    refine then_normal ?_
    refine wp_ret ?_
    refine then_ret ?_
    exact f_retN H58 rfl rfl (.tmp 0 rfl (fun v w B h => int_e (by rw [q1, q2, cmpO_end _ _ rfl rfl (by simp [endO, sideI_ne])]; rfl) h) (.tmp 1 rfl (fun v w B h => isB_e (by rw [q1, q2, cmpO_end _ _ rfl rfl (by simp [endO, sideI_ne])]) h) (.nil)))
  · have H59 := H20
    rw [q2] at H59
    clear H20
    replace H59 : St 117 w0 B0 a20 w20 B20 [(9, .val (Lit (.int .i64 1))), (10, .val (IsOne (.nothing v2))), (32, .val (Lit (.int .i64 1))), (49, .val (Lit (.int .i64 1))), (30, .val (IsOnes (.endless y1) (.nothing v2))), (31, .val (Lit (.int .i64 2))), (8, .box 120 2 (A2 (sideI y1) 0)), (6, .val (IsOne (.endless y1))), (7, .val (IsOne (.nothing v2))), (4, .val (Lit (.int .i64 0))), (5, .val (IsB false)), (117, .val (EnvV))] [12, 8, 2, 3] := H59
    refine flow_region (dsts := [some 37]) (refs := [[.pre 1]]) (outs := [.res 0, .pre 0, .pre 2, .pre 3, .pre 4, .pre 5, .pre 6, .pre 7, .pre 8, .pre 9, .pre 10, .pre 11]) (als := [false]) (posts := [.val (IsOne (.nothing v2))])
      (out := [(37, .val (IsOne (.nothing v2))), (9, .val (Lit (.int .i64 1))), (32, .val (Lit (.int .i64 1))), (49, .val (Lit (.int .i64 1))), (30, .val (IsOnes (.endless y1) (.nothing v2))), (31, .val (Lit (.int .i64 2))), (8, .box 120 2 (A2 (sideI y1) 0)), (6, .val (IsOne (.endless y1))), (7, .val (IsOne (.nothing v2))), (4, .val (Lit (.int .i64 0))), (5, .val (IsB false)), (117, .val (EnvV))]) (nb := []) H59 1 [] rfl (by kernel_rfl) rfl rfl ?_ ?_
    · refine .cons (.plain rfl (ok_move (.tmp 0 rfl))) ?_
      exact .nil
    clear H59 a20 w20 B20
    intro a60 w60 B60 H60
    refine ops_done ?_
    refine then_normal ?_
    refine wp_block ?_
    refine wp_seq ?_
    refine flow_region (dsts := [some 38, some 39, some 40]) (refs := [[.pre 0], [.res 0], [.res 0]]) (outs := [.res 1, .res 2, .pre 0, .pre 1, .pre 2, .pre 3, .pre 4, .pre 5, .pre 6, .pre 7, .pre 8, .pre 9, .pre 10, .pre 11]) (als := [false, false, false]) (posts := [.val (Tup [U1 v2, IsB true]), .val (IsB true), .val (U1 v2)])
      (out := [(39, .val (IsB true)), (40, .val (U1 v2)), (37, .val (IsOne (.nothing v2))), (9, .val (Lit (.int .i64 1))), (32, .val (Lit (.int .i64 1))), (49, .val (Lit (.int .i64 1))), (30, .val (IsOnes (.endless y1) (.nothing v2))), (31, .val (Lit (.int .i64 2))), (8, .box 120 2 (A2 (sideI y1) 0)), (6, .val (IsOne (.endless y1))), (7, .val (IsOne (.nothing v2))), (4, .val (Lit (.int .i64 0))), (5, .val (IsB false)), (117, .val (EnvV))]) (nb := []) H60 3 [] rfl (by kernel_rfl) rfl rfl ?_ ?_
    · refine .cons (.plain rfl (ok_ta1 (.tmp 0 rfl) rfl rfl rfl)) ?_
      refine .cons (.plain rfl (ok_extract 1 (.tmp 0 rfl) rfl)) ?_
      refine .cons (.plain rfl (ok_extract 0 (.tmp 0 rfl) rfl)) ?_
      exact .nil
    clear H60 a60 w60 B60
    intro a61 w61 B61 H61
    refine ops_done ?_
    refine then_normal ?_
    refine f_condT H61 (.tmp 0 rfl) ?_
    refine wp_seq ?_
    refine flow_region (dsts := [some 11]) (refs := [[]]) (outs := [.res 0, .pre 1, .pre 2, .pre 3, .pre 4, .pre 5, .pre 6, .pre 7, .pre 8, .pre 9, .pre 10, .pre 11, .pre 12, .pre 13]) (als := [true]) (posts := [.box 123 1 (U1 0)])
      (out := [(11, .box 123 1 (U1 0)), (40, .val (U1 v2)), (37, .val (IsOne (.nothing v2))), (9, .val (Lit (.int .i64 1))), (32, .val (Lit (.int .i64 1))), (49, .val (Lit (.int .i64 1))), (30, .val (IsOnes (.endless y1) (.nothing v2))), (31, .val (Lit (.int .i64 2))), (8, .box 120 2 (A2 (sideI y1) 0)), (6, .val (IsOne (.endless y1))), (7, .val (IsOne (.nothing v2))), (4, .val (Lit (.int .i64 0))), (5, .val (IsB false)), (117, .val (EnvV))]) (nb := [11]) H61 1 [1] rfl (by kernel_rfl) rfl rfl ?_ ?_
    · refine .cons (.plain rfl (ok_allocNo)) ?_
      exact .nil
    clear H61 a61 w61 B61
    intro a62 w62 B62 H62
    simp only [List.cons_append, List.nil_append] at H62
    refine ops_one ?_
    refine store_op (l' := [(11, .box 123 1 (U1 v2)), (40, .val (U1 v2)), (37, .val (IsOne (.nothing v2))), (9, .val (Lit (.int .i64 1))), (32, .val (Lit (.int .i64 1))), (49, .val (Lit (.int .i64 1))), (30, .val (IsOnes (.endless y1) (.nothing v2))), (31, .val (Lit (.int .i64 2))), (8, .box 120 2 (A2 (sideI y1) 0)), (6, .val (IsOne (.endless y1))), (7, .val (IsOne (.nothing v2))), (4, .val (Lit (.int .i64 0))), (5, .val (IsB false)), (117, .val (EnvV))]) 0 H62 rfl tyNo rfl (.tmp 1 rfl) shape_U1 shape_U1 rfl rfl ?_
    clear H62 w62
    intro w63 H63
    refine ops_done ?_
    refine then_normal ?_
    refine wp_seq ?_
    have H64 : St 117 w0 B0 a62 w63 B62 [(11, .box 123 1 (U1 v2)), (40, .val (U1 v2)), (37, .val (IsOne (.nothing v2))), (9, .val (Lit (.int .i64 1))), (32, .val (Lit (.int .i64 1))), (49, .val (Lit (.int .i64 1))), (30, .val (IsOnes (.endless y1) (.nothing v2))), (31, .val (Lit (.int .i64 2))), (8, .box 120 2 (A2 (sideI y1) 0)), (6, .val (IsOne (.endless y1))), (7, .val (IsOne (.nothing v2))), (117, .val (EnvV))] [11, 12, 8, 2, 3] := St.pick H63 [0, 1, 2, 3, 4, 5, 6, 7, 8, 9, 10, 13] rfl
    clear H63
    refine flow_region (dsts := [some 4, some 5]) (refs := [[], []]) (outs := [.res 0, .res 1, .pre 2, .pre 3, .pre 4, .pre 5, .pre 6, .pre 7, .pre 8, .pre 9, .pre 10, .pre 11]) (als := [false, false]) (posts := [.val (Lit (.int .i64 0)), .val (IsB false)])
      (out := [(4, .val (Lit (.int .i64 0))), (5, .val (IsB false)), (37, .val (IsOne (.nothing v2))), (9, .val (Lit (.int .i64 1))), (32, .val (Lit (.int .i64 1))), (49, .val (Lit (.int .i64 1))), (30, .val (IsOnes (.endless y1) (.nothing v2))), (31, .val (Lit (.int .i64 2))), (8, .box 120 2 (A2 (sideI y1) 0)), (6, .val (IsOne (.endless y1))), (7, .val (IsOne (.nothing v2))), (117, .val (EnvV))]) (nb := []) H64 2 [] rfl (by kernel_rfl) rfl rfl ?_ ?_
    · refine .cons (.plain rfl (ok_assign (.lit))) ?_
      refine .cons (.plain rfl (ok_assign (.lit))) ?_
      exact .nil
    clear H64 a62 w63 B62
    intro a65 w65 B65 H65
    refine ops_done ?_
    refine then_normal ?_
    refine wp_ret ?_
    refine block_ret ?_
    refine block_ret ?_
    refine then_ret ?_
    refine then_ret ?_
    refine block_ret ?_
    refine then_ret ?_
    exact f_retN H65 rfl rfl (.tmp 0 rfl (fun v w B h => int_e (by rw [q2, cmpO_no2]) h) (.tmp 1 rfl (fun v w B h => isB_e (by rw [q2, cmpO_no2]) h) (.nil)))
end Go.Proofs.YtoimhjcpeifegaaGreatDoor

