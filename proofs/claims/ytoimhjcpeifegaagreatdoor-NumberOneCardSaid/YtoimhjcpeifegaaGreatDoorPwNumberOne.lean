/- The law NumberOne: its walk. -/
import Derived.Test.YtoimhjcpeifegaaGreatDoorPk29
import Derived.Test.YtoimhjcpeifegaaGreatDoorPk30
set_option linter.unusedVariables false
set_option linter.unusedSimpArgs false
/- WalkNumberOne. (Printed by flow15.py.) -/
namespace Go.Proofs.YtoimhjcpeifegaaGreatDoor
open Go Go.RowKit

set_option maxRecDepth 20000 in
set_option maxHeartbeats 4000000 in
theorem con_NumberOne (x : Int) (hx : 0 ≤ x ∧ x < 18446744073709551616) (y : Int) (hy : 0 ≤ y ∧ y < 4294967296) (z : Int) (hz : 0 ≤ z ∧ z < 65536) : ConE Tryz.prog 10 [Lit (.int .u64 x), Lit (.int .u32 y), Lit (.int .u16 z)] (IsB true) := by
  refine f_enterE (N := 124) Tryz.ntmps10 (fun _ _ => by go_simp) Tryz.func10 rfl (by simp) ?_
  intro a0 w0 B0 H0
  replace H0 : St 124 w0 B0 a0 w0 B0 [(0, .val (Lit (.int .u64 x))), (1, .val (Lit (.int .u32 y))), (2, .val (Lit (.int .u16 z))), (124, .val (EnvV))] [] := H0
  have hy2 : 0 ≤ y ∧ y < 2 ^ 32 := by rw [show (2 : Int) ^ 32 = 4294967296 from by decide]; exact hy
  have hz3 : 0 ≤ z ∧ z < 2 ^ 16 := by rw [show (2 : Int) ^ 16 = 65536 from by decide]; exact hz
  have hb2 := toW_bd2 w64 32 y
  have hb3 := toW_bd2 w64 16 z
  rw [show (2 : Int) ^ 64 = 18446744073709551616 from by decide] at hb2 hb3
  have hPb : ∀ j : Nat, 0 ≤ sel3 x (toW 64 32 y).1 (toW 64 16 z).1 j ∧ sel3 x (toW 64 32 y).1 (toW 64 16 z).1 j < 18446744073709551616 := sel3_all (fun v => 0 ≤ v ∧ v < 18446744073709551616) hx hb2 hb3
  have hZo : ∀ j : Nat, okNV (sel3 (ofV 64 x) (ofV 32 y) (ofV 16 z) j) := sel3_all okNV (ok_of w64 x (hx64 hx)) (ok_of w32 y hy2) (ok_of w16 z hz3)
  have hZe : ∀ j : Nat, sel3 (ofV 64 x) (ofV 32 y) (ofV 16 z) j = ofV 64 (sel3 x (toW 64 32 y).1 (toW 64 16 z).1 j) := fun j => by rw [← of_wide w32 y hy2, ← of_wide w16 z hz3]; exact sel3_map (ofV 64) _ _ _ j
  refine wp_seq ?_
  refine flow_region (dsts := [some 6]) (refs := [[]]) (outs := [.res 0, .pre 0, .pre 1, .pre 2, .pre 3]) (als := [false]) (posts := [.val (IsB false)])
    (out := [(6, .val (IsB false)), (0, .val (Lit (.int .u64 x))), (1, .val (Lit (.int .u32 y))), (2, .val (Lit (.int .u16 z))), (124, .val (EnvV))]) (nb := []) H0 1 [] rfl (by kernel_rfl) rfl rfl ?_ ?_
  · refine .cons (.plain rfl (ok_assign (.lit))) ?_
    exact .nil
  clear H0
  intro a1 w1 B1 H1
  refine ops_done ?_
  refine then_normal ?_
  refine wp_seq ?_
  refine flow_region (dsts := [some 23, some 24, some 25, some 26, some 27, some 28, some 7, some 8, some 9]) (refs := [[.pre 1], [.res 0, .pre 4], [.pre 2], [.res 2, .pre 4], [.pre 3], [.res 4, .pre 4], [], [], []]) (outs := [.res 1, .res 3, .res 5, .res 6, .res 7, .res 8, .pre 0, .pre 1, .pre 2, .pre 3, .pre 4]) (als := [false, false, false, false, false, false, true, true, true]) (posts := [.val (Lit (.int .u64 x)), .val (IsNum (ofV 64 x)), .val (Lit (.int .u32 y)), .val (IsNum (ofV 32 y)), .val (Lit (.int .u16 z)), .val (IsNum (ofV 16 z)), .box 37 8 (IsVal 0 0 (IsI 0) 0 0 (⟨#[]⟩) (K0)), .box 37 8 (IsVal 0 0 (IsI 0) 0 0 (⟨#[]⟩) (K0)), .box 37 8 (IsVal 0 0 (IsI 0) 0 0 (⟨#[]⟩) (K0))])
    (out := [(24, .val (IsNum (ofV 64 x))), (26, .val (IsNum (ofV 32 y))), (28, .val (IsNum (ofV 16 z))), (7, .box 37 8 (IsVal 0 0 (IsI 0) 0 0 (⟨#[]⟩) (K0))), (8, .box 37 8 (IsVal 0 0 (IsI 0) 0 0 (⟨#[]⟩) (K0))), (9, .box 37 8 (IsVal 0 0 (IsI 0) 0 0 (⟨#[]⟩) (K0))), (6, .val (IsB false)), (0, .val (Lit (.int .u64 x))), (1, .val (Lit (.int .u32 y))), (2, .val (Lit (.int .u16 z))), (124, .val (EnvV))]) (nb := [7, 8, 9]) H1 9 [9, 10, 11] rfl (by kernel_rfl) rfl rfl ?_ ?_
  · refine .cons (.plain rfl (ok_move (.tmp 0 rfl))) ?_
    refine .cons (.plain rfl (ok_callE (con_of64 x hx) 1 rfl (.cons (.tmp 0 rfl) (.nil)))) ?_
    refine .cons (.plain rfl (ok_move (.tmp 0 rfl))) ?_
    refine .cons (.plain rfl (ok_callE (con_of32 y hy) 1 rfl (.cons (.tmp 0 rfl) (.nil)))) ?_
    refine .cons (.plain rfl (ok_move (.tmp 0 rfl))) ?_
    refine .cons (.plain rfl (ok_callE (con_of16 z hz) 1 rfl (.cons (.tmp 0 rfl) (.nil)))) ?_
    refine .cons (.plain rfl (ok_allocV)) ?_
    refine .cons (.plain rfl (ok_allocV)) ?_
    refine .cons (.plain rfl (ok_allocV)) ?_
    exact .nil
  clear H1 a1 w1 B1
  intro a2 w2 B2 H2
  simp only [List.cons_append, List.nil_append] at H2
  refine ops_one ?_
  refine store_op (l' := [(24, .val (IsNum (ofV 64 x))), (26, .val (IsNum (ofV 32 y))), (28, .val (IsNum (ofV 16 z))), (7, .box 37 8 (IsNum (ofV 64 x))), (8, .box 37 8 (IsVal 0 0 (IsI 0) 0 0 (⟨#[]⟩) (K0))), (9, .box 37 8 (IsVal 0 0 (IsI 0) 0 0 (⟨#[]⟩) (K0))), (6, .val (IsB false)), (0, .val (Lit (.int .u64 x))), (1, .val (Lit (.int .u32 y))), (2, .val (Lit (.int .u16 z))), (124, .val (EnvV))]) 3 H2 rfl tyV rfl (.tmp 0 rfl) (shape_Val shape_I oneK0) shape_Num rfl rfl ?_
  clear H2 w2
  intro w3 H3
  refine ops_one ?_
  refine store_op (l' := [(24, .val (IsNum (ofV 64 x))), (26, .val (IsNum (ofV 32 y))), (28, .val (IsNum (ofV 16 z))), (7, .box 37 8 (IsNum (ofV 64 x))), (8, .box 37 8 (IsNum (ofV 32 y))), (9, .box 37 8 (IsVal 0 0 (IsI 0) 0 0 (⟨#[]⟩) (K0))), (6, .val (IsB false)), (0, .val (Lit (.int .u64 x))), (1, .val (Lit (.int .u32 y))), (2, .val (Lit (.int .u16 z))), (124, .val (EnvV))]) 4 H3 rfl tyV rfl (.tmp 1 rfl) (shape_Val shape_I oneK0) shape_Num rfl rfl ?_
  clear H3 w3
  intro w4 H4
  refine ops_one ?_
  refine store_op (l' := [(24, .val (IsNum (ofV 64 x))), (26, .val (IsNum (ofV 32 y))), (28, .val (IsNum (ofV 16 z))), (7, .box 37 8 (IsNum (ofV 64 x))), (8, .box 37 8 (IsNum (ofV 32 y))), (9, .box 37 8 (IsNum (ofV 16 z))), (6, .val (IsB false)), (0, .val (Lit (.int .u64 x))), (1, .val (Lit (.int .u32 y))), (2, .val (Lit (.int .u16 z))), (124, .val (EnvV))]) 5 H4 rfl tyV rfl (.tmp 2 rfl) (shape_Val shape_I oneK0) shape_Num rfl rfl ?_
  clear H4 w4
  intro w5 H5
  refine ops_done ?_
  refine then_normal ?_
  refine wp_seq ?_
  refine flow_region (dsts := [some 30, some 31, some 29, some 32, some 33, some 10, some 11]) (refs := [[.pre 8], [.res 0, .pre 10], [.res 1], [.res 2], [.res 2], [.res 3], [.res 4]]) (outs := [.res 5, .pre 3, .pre 4, .pre 5, .pre 6, .pre 7, .pre 9, .pre 10]) (als := [false, false, false, false, false, false, false]) (posts := [.val (Lit (.int .u32 y)), .val (Tup [Lit (.int .u64 ((toW 64 32 y).1)), IsB ((toW 64 32 y).2)]), .val (Tup [Lit (.int .u64 ((toW 64 32 y).1)), IsB ((toW 64 32 y).2)]), .val (Lit (.int .u64 ((toW 64 32 y).1))), .val (IsB ((toW 64 32 y).2)), .val (Lit (.int .u64 ((toW 64 32 y).1))), .val (IsB ((toW 64 32 y).2))])
    (out := [(10, .val (Lit (.int .u64 ((toW 64 32 y).1)))), (7, .box 37 8 (IsNum (ofV 64 x))), (8, .box 37 8 (IsNum (ofV 32 y))), (9, .box 37 8 (IsNum (ofV 16 z))), (6, .val (IsB false)), (0, .val (Lit (.int .u64 x))), (2, .val (Lit (.int .u16 z))), (124, .val (EnvV))]) (nb := []) H5 7 [] rfl (by kernel_rfl) rfl rfl ?_ ?_
  · refine .cons (.plain rfl (ok_move (.tmp 0 rfl))) ?_
    refine .cons (.plain rfl (ok_callE (con_to6432 y hy) 1 rfl (.cons (.tmp 0 rfl) (.nil)))) ?_
    refine .cons (.plain rfl (ok_move (.tmp 0 rfl))) ?_
    refine .cons (.plain rfl (ok_extract 0 (.tmp 0 rfl) rfl)) ?_
    refine .cons (.plain rfl (ok_extract 1 (.tmp 0 rfl) rfl)) ?_
    refine .cons (.plain rfl (ok_assign (.tmp 0 rfl))) ?_
    refine .cons (.plain rfl (ok_assign (.tmp 0 rfl))) ?_
    exact .nil
  clear H5 a2 w5 B2
  intro a6 w6 B6 H6
  refine ops_done ?_
  refine then_normal ?_
  refine wp_seq ?_
  refine flow_region (dsts := [some 35, some 36, some 34, some 37, some 38, some 12, some 13]) (refs := [[.pre 6], [.res 0, .pre 7], [.res 1], [.res 2], [.res 2], [.res 3], [.res 4]]) (outs := [.res 5, .pre 0, .pre 1, .pre 2, .pre 3, .pre 4, .pre 5, .pre 7]) (als := [false, false, false, false, false, false, false]) (posts := [.val (Lit (.int .u16 z)), .val (Tup [Lit (.int .u64 ((toW 64 16 z).1)), IsB ((toW 64 16 z).2)]), .val (Tup [Lit (.int .u64 ((toW 64 16 z).1)), IsB ((toW 64 16 z).2)]), .val (Lit (.int .u64 ((toW 64 16 z).1))), .val (IsB ((toW 64 16 z).2)), .val (Lit (.int .u64 ((toW 64 16 z).1))), .val (IsB ((toW 64 16 z).2))])
    (out := [(12, .val (Lit (.int .u64 ((toW 64 16 z).1)))), (10, .val (Lit (.int .u64 ((toW 64 32 y).1)))), (7, .box 37 8 (IsNum (ofV 64 x))), (8, .box 37 8 (IsNum (ofV 32 y))), (9, .box 37 8 (IsNum (ofV 16 z))), (6, .val (IsB false)), (0, .val (Lit (.int .u64 x))), (124, .val (EnvV))]) (nb := []) H6 7 [] rfl (by kernel_rfl) rfl rfl ?_ ?_
  · refine .cons (.plain rfl (ok_move (.tmp 0 rfl))) ?_
    refine .cons (.plain rfl (ok_callE (con_to6416 z hz) 1 rfl (.cons (.tmp 0 rfl) (.nil)))) ?_
    refine .cons (.plain rfl (ok_move (.tmp 0 rfl))) ?_
    refine .cons (.plain rfl (ok_extract 0 (.tmp 0 rfl) rfl)) ?_
    refine .cons (.plain rfl (ok_extract 1 (.tmp 0 rfl) rfl)) ?_
    refine .cons (.plain rfl (ok_assign (.tmp 0 rfl))) ?_
    refine .cons (.plain rfl (ok_assign (.tmp 0 rfl))) ?_
    exact .nil
  clear H6 a6 w6 B6
  intro a7 w7 B7 H7
  refine ops_done ?_
  refine then_normal ?_
  refine wp_seq ?_
  refine wp_seq ?_
  refine flow_drawT (dsts := [some 39, some 40, some 41, some 42, some 43, some 44, some 45, some 46, some 47, some 48, some 49, some 50]) (refs := [[.pre 1], [.res 0, .pre 7], [.pre 3], [.res 1, .res 2], [.res 3], [.res 4], [.res 5, .pre 0], [.res 5, .res 6, .pre 7], [.res 5, .pre 4], [.res 5, .res 7, .res 8], [.res 5, .res 9], [.res 5, .res 10]]) (outs := [.res 11, .pre 0, .pre 1, .pre 2, .pre 3, .pre 4, .pre 5, .pre 6, .pre 7]) (als := [false, false, false, false, false, false, false, false, false, false, false, false]) (posts := [.val (Lit (.int .u64 ((toW 64 32 y).1))), .val (IsNum (ofV 32 y)), .val (IsNum (ofV 32 y)), .val (IsB true), .val (IsB false), .val (IsB false), .val (Lit (.int .u64 ((toW 64 16 z).1))), .val (IsNum (ofV 16 z)), .val (IsNum (ofV 16 z)), .val (IsB true), .val (IsB false), .val (IsB false)])
    (out := [(50, .val (IsB false)), (12, .val (Lit (.int .u64 ((toW 64 16 z).1)))), (10, .val (Lit (.int .u64 ((toW 64 32 y).1)))), (7, .box 37 8 (IsNum (ofV 64 x))), (8, .box 37 8 (IsNum (ofV 32 y))), (9, .box 37 8 (IsNum (ofV 16 z))), (6, .val (IsB false)), (0, .val (Lit (.int .u64 x))), (124, .val (EnvV))]) (nb := []) H7 (by kernel_rfl) 12 0 #[true, true, true, true, true, true, true, true, true, true, true, true] (by kernel_rfl) (by kernel_rfl) rfl rfl ?_ ?_
  · refine .cons (.plain rfl (ok_move (.tmp 0 rfl))) ?_
    refine .cons (.plain rfl (ok_callE ((con_of64 ((toW 64 32 y).1) hb2).weak (fun v w B h => num_eq (of_wide w32 y hy2) h)) 1 rfl (.cons (.tmp 0 rfl) (.nil)))) ?_
    refine .cons (.plain rfl (ok_load tyV (.tmp 0 rfl))) ?_
    refine .cons (.plain rfl (ok_call ((con_sameval (ofV 32 y) (ofV 32 y)).weak (fun v w B h => isB_e (decide_eq_true rfl) h)) (.cons (.tmp 0 rfl) (.cons (.tmp 1 rfl) (.nil))))) ?_
    refine .cons (.plain rfl (ok_not (b := true) (.tmp 0 rfl))) ?_
    refine .cons (.plain rfl (ok_move (.tmp 0 rfl))) ?_
    refine .cons (.wanted 5 false rfl rfl rfl 0 rfl (ok_move (.tmp 1 rfl))) ?_
    refine .cons (.wanted 5 false rfl rfl rfl 0 rfl (ok_callE ((con_of64 ((toW 64 16 z).1) hb3).weak (fun v w B h => num_eq (of_wide w16 z hz3) h)) 2 rfl (.cons (.tmp 1 rfl) (.nil)))) ?_
    refine .cons (.wanted 5 false rfl rfl rfl 0 rfl (ok_load tyV (.tmp 1 rfl))) ?_
    refine .cons (.wanted 5 false rfl rfl rfl 0 rfl (ok_call ((con_sameval (ofV 16 z) (ofV 16 z)).weak (fun v w B h => isB_e (decide_eq_true rfl) h)) (.cons (.tmp 1 rfl) (.cons (.tmp 2 rfl) (.nil))))) ?_
    refine .cons (.wanted 5 false rfl rfl rfl 0 rfl (ok_not (b := true) (.tmp 1 rfl))) ?_
    refine .cons (.plain rfl (ok_pickF (.tmp 0 rfl) (.tmp 1 rfl))) ?_
    exact .nil
  clear H7 a7 w7 B7
  intro a8 w8 B8 H8
  refine any_done (by kernel_rfl) ?_
  refine then_normal ?_
  refine f_condF H8 (.tmp 0 rfl) ?_
  refine wp_skip ?_
  refine then_normal ?_
  refine wp_seq ?_
  refine flow_region (dsts := [some 51, some 52, some 53, some 54, some 14]) (refs := [[.pre 7], [.pre 2], [.pre 1], [.res 0, .res 1, .res 2], []]) (outs := [.res 3, .res 4, .pre 3, .pre 4, .pre 5, .pre 6, .pre 8]) (als := [false, false, false, false, true]) (posts := [.val (Lit (.int .u64 x)), .val (Lit (.int .u64 ((toW 64 32 y).1))), .val (Lit (.int .u64 ((toW 64 16 z).1))), .val (A3 x ((toW 64 32 y).1) ((toW 64 16 z).1)), .box 82 3 (A3 0 0 0)])
    (out := [(54, .val (A3 x ((toW 64 32 y).1) ((toW 64 16 z).1))), (14, .box 82 3 (A3 0 0 0)), (7, .box 37 8 (IsNum (ofV 64 x))), (8, .box 37 8 (IsNum (ofV 32 y))), (9, .box 37 8 (IsNum (ofV 16 z))), (6, .val (IsB false)), (124, .val (EnvV))]) (nb := [14]) H8 5 [5] rfl (by kernel_rfl) rfl rfl ?_ ?_
  · refine .cons (.plain rfl (ok_move (.tmp 0 rfl))) ?_
    refine .cons (.plain rfl (ok_move (.tmp 0 rfl))) ?_
    refine .cons (.plain rfl (ok_move (.tmp 0 rfl))) ?_
    refine .cons (.plain rfl (ok_buildA3 (.tmp 0 rfl) (.tmp 1 rfl) (.tmp 2 rfl))) ?_
    refine .cons (.plain rfl (ok_allocA3)) ?_
    exact .nil
  clear H8 a8 w8 B8
  intro a9 w9 B9 H9
  simp only [List.cons_append, List.nil_append] at H9
  refine ops_one ?_
  refine store_op (l' := [(54, .val (A3 x ((toW 64 32 y).1) ((toW 64 16 z).1))), (14, .box 82 3 (A3 x ((toW 64 32 y).1) ((toW 64 16 z).1))), (7, .box 37 8 (IsNum (ofV 64 x))), (8, .box 37 8 (IsNum (ofV 32 y))), (9, .box 37 8 (IsNum (ofV 16 z))), (6, .val (IsB false)), (124, .val (EnvV))]) 1 H9 rfl tyA3 rfl (.tmp 0 rfl) shape_A3 shape_A3 rfl rfl ?_
  clear H9 w9
  intro w10 H10
  refine ops_done ?_
  refine then_normal ?_
  refine wp_seq ?_
  refine flow_region (dsts := [some 55, some 56, some 57, some 58, some 15]) (refs := [[.pre 2], [.pre 3], [.pre 4], [.res 0, .res 1, .res 2], []]) (outs := [.res 3, .res 4, .pre 1, .pre 5, .pre 6]) (als := [false, false, false, false, true]) (posts := [.val (IsNum (ofV 64 x)), .val (IsNum (ofV 32 y)), .val (IsNum (ofV 16 z)), .val (A3V (ofV 64 x) (ofV 32 y) (ofV 16 z)), .box 83 24 (Any24)])
    (out := [(58, .val (A3V (ofV 64 x) (ofV 32 y) (ofV 16 z))), (15, .box 83 24 (Any24)), (14, .box 82 3 (A3 x ((toW 64 32 y).1) ((toW 64 16 z).1))), (6, .val (IsB false)), (124, .val (EnvV))]) (nb := [15]) H10 5 [5] rfl (by kernel_rfl) rfl rfl ?_ ?_
  · refine .cons (.plain rfl (ok_load tyV (.tmp 0 rfl))) ?_
    refine .cons (.plain rfl (ok_load tyV (.tmp 0 rfl))) ?_
    refine .cons (.plain rfl (ok_load tyV (.tmp 0 rfl))) ?_
    refine .cons (.plain rfl (ok_buildA3V (.tmp 0 rfl) (.tmp 1 rfl) (.tmp 2 rfl))) ?_
    refine .cons (.plain rfl (ok_allocA3V)) ?_
    exact .nil
  clear H10 a9 w10 B9
  intro a11 w11 B11 H11
  simp only [List.cons_append, List.nil_append] at H11
  refine ops_one ?_
  refine store_op (l' := [(58, .val (A3V (ofV 64 x) (ofV 32 y) (ofV 16 z))), (15, .box 83 24 (A3V (ofV 64 x) (ofV 32 y) (ofV 16 z))), (14, .box 82 3 (A3 x ((toW 64 32 y).1) ((toW 64 16 z).1))), (6, .val (IsB false)), (124, .val (EnvV))]) 1 H11 rfl tyA3V rfl (.tmp 0 rfl) shape_Any24 shape_A3V rfl rfl ?_
  clear H11 w11
  intro w12 H12
  refine ops_done ?_
  refine then_normal ?_
  refine wp_seq ?_
  refine wp_seq ?_
  refine flow_region (dsts := [some 16]) (refs := [[]]) (outs := [.res 0, .pre 1, .pre 2, .pre 3, .pre 4]) (als := [false]) (posts := [.val (Lit (.int .i64 0))])
    (out := [(16, .val (Lit (.int .i64 0))), (15, .box 83 24 (A3V (ofV 64 x) (ofV 32 y) (ofV 16 z))), (14, .box 82 3 (A3 x ((toW 64 32 y).1) ((toW 64 16 z).1))), (6, .val (IsB false)), (124, .val (EnvV))]) (nb := []) H12 1 [] rfl (by kernel_rfl) rfl rfl ?_ ?_
  · refine .cons (.plain rfl (ok_assign (.lit))) ?_
    exact .nil
  clear H12 a11 w12 B11
  intro a13 w13 B13 H13
  refine ops_done ?_
  refine then_normal ?_
  refine wp_block ?_
  refine f_loop (fun (i : Int) => [(16, .val (Lit (.int .i64 i))), (15, .box 83 24 (A3V (ofV 64 x) (ofV 32 y) (ofV 16 z))), (14, .box 82 3 (A3 x ((toW 64 32 y).1) ((toW 64 16 z).1))), (6, .val (IsB false)), (124, .val (EnvV))]) (fun (i : Int) => 0 ≤ i ∧ i ≤ 3) (fun (i : Int) => (3 - i).toNat) (0) (St.pick H13 [0, 1, 2, 3, 4] rfl) (by omega) ?_
  clear H13 a13 w13 B13
  rintro i a14 w14 B14 hI14 H14
  replace hI14 : 0 ≤ i ∧ i ≤ 3 := hI14
  replace H14 : St 124 w0 B0 a14 w14 B14 [(16, .val (Lit (.int .i64 i))), (15, .box 83 24 (A3V (ofV 64 x) (ofV 32 y) (ofV 16 z))), (14, .box 82 3 (A3 x ((toW 64 32 y).1) ((toW 64 16 z).1))), (6, .val (IsB false)), (124, .val (EnvV))] [15, 14, 7, 8, 9] := H14
  obtain ⟨hi0, hi1⟩ := hI14
  refine wp_seq ?_
  refine wp_seq ?_
  refine flow_region (dsts := [some 59, some 60]) (refs := [[.pre 0], [.res 0]]) (outs := [.res 1, .pre 0, .pre 1, .pre 2, .pre 3, .pre 4]) (als := [false, false]) (posts := [.val (Lit (.int .i64 i)), .val (IsB (decide (i < 3)))])
    (out := [(60, .val (IsB (decide (i < 3)))), (16, .val (Lit (.int .i64 i))), (15, .box 83 24 (A3V (ofV 64 x) (ofV 32 y) (ofV 16 z))), (14, .box 82 3 (A3 x ((toW 64 32 y).1) ((toW 64 16 z).1))), (6, .val (IsB false)), (124, .val (EnvV))]) (nb := []) H14 2 [] rfl (by kernel_rfl) rfl rfl ?_ ?_
  · refine .cons (.plain rfl (ok_move (.tmp 0 rfl))) ?_
    refine .cons (.plain rfl (ok_cmp (.tmp 0 rfl) (.lit) rfl)) ?_
    exact .nil
  clear H14 a14 w14 B14
  intro a15 w15 B15 H15
  refine ops_done ?_
  refine then_normal ?_
  refine f_cond H15 (.tmp 0 rfl) ?_ ?_
  · intro hc16
    replace hc16 := of_decide_eq_true hc16
    refine wp_skip ?_
    refine then_normal ?_
    refine wp_seq ?_
    refine wp_block ?_
    refine wp_seq ?_
    refine flow_region (dsts := [some 17]) (refs := [[]]) (outs := [.res 0, .pre 1, .pre 2, .pre 3, .pre 4, .pre 5]) (als := [false]) (posts := [.val (Lit (.int .i64 0))])
      (out := [(17, .val (Lit (.int .i64 0))), (16, .val (Lit (.int .i64 i))), (15, .box 83 24 (A3V (ofV 64 x) (ofV 32 y) (ofV 16 z))), (14, .box 82 3 (A3 x ((toW 64 32 y).1) ((toW 64 16 z).1))), (6, .val (IsB false)), (124, .val (EnvV))]) (nb := []) H15 1 [] rfl (by kernel_rfl) rfl rfl ?_ ?_
    · refine .cons (.plain rfl (ok_assign (.lit))) ?_
      exact .nil
    clear H15 a15 w15 B15
    intro a17 w17 B17 H17
    refine ops_done ?_
    refine then_normal ?_
    refine wp_block ?_
    refine f_loop (fun (k : Int) => [(17, .val (Lit (.int .i64 k))), (16, .val (Lit (.int .i64 i))), (15, .box 83 24 (A3V (ofV 64 x) (ofV 32 y) (ofV 16 z))), (14, .box 82 3 (A3 x ((toW 64 32 y).1) ((toW 64 16 z).1))), (6, .val (IsB false)), (124, .val (EnvV))]) (fun (k : Int) => 0 ≤ k ∧ k ≤ 3) (fun (k : Int) => (3 - k).toNat) (0) (St.pick H17 [0, 1, 2, 3, 4, 5] rfl) (by omega) ?_
    clear H17 a17 w17 B17
    rintro k a18 w18 B18 hI18 H18
    replace hI18 : 0 ≤ k ∧ k ≤ 3 := hI18
    replace H18 : St 124 w0 B0 a18 w18 B18 [(17, .val (Lit (.int .i64 k))), (16, .val (Lit (.int .i64 i))), (15, .box 83 24 (A3V (ofV 64 x) (ofV 32 y) (ofV 16 z))), (14, .box 82 3 (A3 x ((toW 64 32 y).1) ((toW 64 16 z).1))), (6, .val (IsB false)), (124, .val (EnvV))] [15, 14, 7, 8, 9] := H18
    obtain ⟨hk0, hk1⟩ := hI18
    refine wp_seq ?_
    refine wp_seq ?_
    refine flow_region (dsts := [some 63, some 64]) (refs := [[.pre 0], [.res 0]]) (outs := [.res 1, .pre 0, .pre 1, .pre 2, .pre 3, .pre 4, .pre 5]) (als := [false, false]) (posts := [.val (Lit (.int .i64 k)), .val (IsB (decide (k < 3)))])
      (out := [(64, .val (IsB (decide (k < 3)))), (17, .val (Lit (.int .i64 k))), (16, .val (Lit (.int .i64 i))), (15, .box 83 24 (A3V (ofV 64 x) (ofV 32 y) (ofV 16 z))), (14, .box 82 3 (A3 x ((toW 64 32 y).1) ((toW 64 16 z).1))), (6, .val (IsB false)), (124, .val (EnvV))]) (nb := []) H18 2 [] rfl (by kernel_rfl) rfl rfl ?_ ?_
    · refine .cons (.plain rfl (ok_move (.tmp 0 rfl))) ?_
      refine .cons (.plain rfl (ok_cmp (.tmp 0 rfl) (.lit) rfl)) ?_
      exact .nil
    clear H18 a18 w18 B18
    intro a19 w19 B19 H19
    refine ops_done ?_
    refine then_normal ?_
    refine f_cond H19 (.tmp 0 rfl) ?_ ?_
    · intro hc20
      replace hc20 := of_decide_eq_true hc20
      refine wp_skip ?_
      refine then_normal ?_
      refine wp_seq ?_
      refine wp_block ?_
      refine wp_seq ?_
      rcases (one_cases (sel3 x (toW 64 32 y).1 (toW 64 16 z).1 i.toNat) (sel3 x (toW 64 32 y).1 (toW 64 16 z).1 k.toNat) (hPb _) (hPb _)) with ⟨n1, n2, hc, hs⟩ | ⟨n1, n2, hc, hs⟩ | ⟨n1, hc, hs⟩ | ⟨hc, hs⟩ | ⟨n1, n, hc, hn, hs⟩
      · refine flow_drawT (dsts := [some 68, some 69, some 70, some 71, some 72, some 73, some 74, some 67, some 75, some 76, some 18, some 19]) (refs := [[.pre 2], [.pre 4, .res 0], [.res 1], [.pre 1], [.pre 4, .res 3], [.res 4], [.res 2, .res 5, .pre 6], [.res 6], [.res 7], [.res 7], [.res 8], [.res 9]]) (outs := [.res 10, .res 11, .pre 1, .pre 2, .pre 3, .pre 4, .pre 5, .pre 6]) (als := [false, false, false, false, false, false, false, false, false, false, false, false]) (posts := [.val (Lit (.int .i64 i)), .ptr 82 3 (A3 x ((toW 64 32 y).1) ((toW 64 16 z).1)) (i.toNat), .val (Lit (.int .u64 (sel3 x ((toW 64 32 y).1) ((toW 64 16 z).1) i.toNat))), .val (Lit (.int .i64 k)), .ptr 82 3 (A3 x ((toW 64 32 y).1) ((toW 64 16 z).1)) (k.toNat), .val (Lit (.int .u64 (sel3 x ((toW 64 32 y).1) ((toW 64 16 z).1) k.toNat))), .val (Tup [Lit (.int .i64 0), IsB false]), .val (Tup [Lit (.int .i64 0), IsB false]), .val (Lit (.int .i64 0)), .val (IsB false), .val (Lit (.int .i64 0)), .val (IsB false)])
          (out := [(18, .val (Lit (.int .i64 0))), (19, .val (IsB false)), (17, .val (Lit (.int .i64 k))), (16, .val (Lit (.int .i64 i))), (15, .box 83 24 (A3V (ofV 64 x) (ofV 32 y) (ofV 16 z))), (14, .box 82 3 (A3 x ((toW 64 32 y).1) ((toW 64 16 z).1))), (6, .val (IsB false)), (124, .val (EnvV))]) (nb := []) H19 (by kernel_rfl) 12 0 #[true, true, true, true, true, true, true, true, true, true, true, true] (by kernel_rfl) (by kernel_rfl) rfl rfl ?_ ?_
        · refine .cons (.plain rfl (ok_move (.tmp 0 rfl))) ?_
          refine .cons (.plain rfl (ok_idxA3 i.toNat (by omega) (by omega) (.tmp 0 rfl) (.tmp 1 rfl))) ?_
          refine .cons (.plain rfl (ok_loadA3 (by omega) (.tmp 0 rfl))) ?_
          refine .cons (.plain rfl (ok_move (.tmp 0 rfl))) ?_
          refine .cons (.plain rfl (ok_idxA3 k.toNat (by omega) (by omega) (.tmp 0 rfl) (.tmp 1 rfl))) ?_
          refine .cons (.plain rfl (ok_loadA3 (by omega) (.tmp 0 rfl))) ?_
          refine .cons (.plain rfl (ok_callE ((con_icmp64 (sel3 x (toW 64 32 y).1 (toW 64 16 z).1 i.toNat) (sel3 x (toW 64 32 y).1 (toW 64 16 z).1 k.toNat) (hPb _) (hPb _)).weak (fun v w B h => by rw [hc] at h; exact h)) 2 rfl (.cons (.tmp 0 rfl) (.cons (.tmp 1 rfl) (.nil))))) ?_
          refine .cons (.plain rfl (ok_move (.tmp 0 rfl))) ?_
          refine .cons (.plain rfl (ok_extract 0 (.tmp 0 rfl) rfl)) ?_
          refine .cons (.plain rfl (ok_extract 1 (.tmp 0 rfl) rfl)) ?_
          refine .cons (.plain rfl (ok_assign (.tmp 0 rfl))) ?_
          refine .cons (.plain rfl (ok_assign (.tmp 0 rfl))) ?_
          exact .nil
        clear H19 a19 w19 B19
        intro a21 w21 B21 H21
        refine any_done (by kernel_rfl) ?_
        refine then_normal ?_
        refine wp_seq ?_
        refine flow_region (dsts := [some 77, some 78, some 79, some 80, some 81, some 82, some 83, some 84, some 85, some 86, some 87, some 88, some 89, some 90, some 91, some 92, some 93, some 20]) (refs := [[.pre 1], [.res 0], [.res 1], [.res 1], [.res 1], [.res 4], [.res 5, .pre 3], [.res 5, .pre 5, .res 6], [.res 5, .res 7], [.res 5, .res 8, .pre 7], [.res 5, .res 9], [.res 10, .pre 2], [.res 10, .pre 5, .res 11], [.res 10, .res 12], [.res 10, .res 13, .pre 7], [.res 5, .res 10, .res 14], [.res 5, .res 15], [.res 16]]) (outs := [.res 17, .pre 0, .pre 1, .pre 2, .pre 3, .pre 4, .pre 5, .pre 6, .pre 7]) (als := [false, false, false, false, false, false, false, false, false, false, false, false, false, false, false, false, false, false]) (posts := [.val (IsB false), .val (IsB false), .val (IsUndef), .val (IsUndef), .val (IsB false), .val (IsB false), .val (Lit (.int .i64 i)), .ptr 82 3 (A3 x ((toW 64 32 y).1) ((toW 64 16 z).1)) (i.toNat), .val (Lit (.int .u64 (sel3 x ((toW 64 32 y).1) ((toW 64 16 z).1) i.toNat))), .val (IsB true), .val (IsB true), .val (Lit (.int .i64 k)), .ptr 82 3 (A3 x ((toW 64 32 y).1) ((toW 64 16 z).1)) (k.toNat), .val (Lit (.int .u64 (sel3 x ((toW 64 32 y).1) ((toW 64 16 z).1) k.toNat))), .val (IsB true), .val (IsB true), .val (IsB true), .val (IsB true)])
          (out := [(20, .val (IsB true)), (18, .val (Lit (.int .i64 0))), (19, .val (IsB false)), (17, .val (Lit (.int .i64 k))), (16, .val (Lit (.int .i64 i))), (15, .box 83 24 (A3V (ofV 64 x) (ofV 32 y) (ofV 16 z))), (14, .box 82 3 (A3 x ((toW 64 32 y).1) ((toW 64 16 z).1))), (6, .val (IsB false)), (124, .val (EnvV))]) (nb := []) H21 18 [] rfl (by kernel_rfl) rfl rfl ?_ ?_
        · refine .cons (.plain rfl (ok_move (.tmp 0 rfl))) ?_
          refine .cons (.plain rfl (ok_move (.tmp 0 rfl))) ?_
          refine .cons (.unwanted 1 true rfl rfl rfl 0 rfl) ?_
          refine .cons (.unwanted 1 true rfl rfl rfl 0 rfl) ?_
          refine .cons (.plain rfl (ok_pickF (.tmp 0 rfl) (.lit))) ?_
          refine .cons (.plain rfl (ok_move (.tmp 0 rfl))) ?_
          refine .cons (.wanted 5 false rfl rfl rfl 0 rfl (ok_move (.tmp 1 rfl))) ?_
          refine .cons (.wanted 5 false rfl rfl rfl 0 rfl (ok_idxA3 i.toNat (by omega) (by omega) (.tmp 1 rfl) (.tmp 2 rfl))) ?_
          refine .cons (.wanted 5 false rfl rfl rfl 0 rfl (ok_loadA3 (by omega) (.tmp 1 rfl))) ?_
          refine .cons (.wanted 5 false rfl rfl rfl 0 rfl (ok_callE ((con_nan15 (sel3 x ((toW 64 32 y).1) ((toW 64 16 z).1) i.toNat) (hPb _)).weak (fun v w B h => by rw [n1] at h; exact h)) 2 rfl (.cons (.tmp 1 rfl) (.nil)))) ?_
          refine .cons (.wanted 5 false rfl rfl rfl 0 rfl (ok_move (.tmp 1 rfl))) ?_
          refine .cons (.wanted 10 true rfl rfl rfl 0 rfl (ok_move (.tmp 1 rfl))) ?_
          refine .cons (.wanted 10 true rfl rfl rfl 0 rfl (ok_idxA3 k.toNat (by omega) (by omega) (.tmp 1 rfl) (.tmp 2 rfl))) ?_
          refine .cons (.wanted 10 true rfl rfl rfl 0 rfl (ok_loadA3 (by omega) (.tmp 1 rfl))) ?_
          refine .cons (.wanted 10 true rfl rfl rfl 0 rfl (ok_callE ((con_nan15 (sel3 x ((toW 64 32 y).1) ((toW 64 16 z).1) k.toNat) (hPb _)).weak (fun v w B h => by rw [n2] at h; exact h)) 2 rfl (.cons (.tmp 1 rfl) (.nil)))) ?_
          refine .cons (.wanted 5 false rfl rfl rfl 0 rfl (ok_pickT (.tmp 1 rfl) (.tmp 2 rfl))) ?_
          refine .cons (.plain rfl (ok_pickF (.tmp 0 rfl) (.tmp 1 rfl))) ?_
          refine .cons (.plain rfl (ok_assign (.tmp 0 rfl))) ?_
          exact .nil
        clear H21 a21 w21 B21
        intro a22 w22 B22 H22
        refine ops_done ?_
        refine then_normal ?_
        refine wp_seq ?_
        refine flow_drawT (dsts := [some 95, some 96, some 97, some 98, some 99, some 100, some 101, some 94, some 102, some 103, some 21, some 22]) (refs := [[.pre 4], [.pre 5, .res 0], [.res 1], [.pre 3], [.pre 5, .res 3], [.res 4], [.res 2, .res 5, .pre 8], [.res 6], [.res 7], [.res 7], [.res 8], [.res 9]]) (outs := [.res 10, .res 11, .pre 0, .pre 1, .pre 2, .pre 3, .pre 4, .pre 5, .pre 6, .pre 7, .pre 8]) (als := [false, false, false, false, false, false, false, false, false, false, false, false]) (posts := [.val (Lit (.int .i64 i)), .ptr 83 24 (A3V (ofV 64 x) (ofV 32 y) (ofV 16 z)) (8 * i.toNat), .val (IsNum (sel3 (ofV 64 x) (ofV 32 y) (ofV 16 z) i.toNat)), .val (Lit (.int .i64 k)), .ptr 83 24 (A3V (ofV 64 x) (ofV 32 y) (ofV 16 z)) (8 * k.toNat), .val (IsNum (sel3 (ofV 64 x) (ofV 32 y) (ofV 16 z) k.toNat)), .val (Tup [Lit (.int .i64 0), IsB false]), .val (Tup [Lit (.int .i64 0), IsB false]), .val (Lit (.int .i64 0)), .val (IsB false), .val (Lit (.int .i64 0)), .val (IsB false)])
          (out := [(21, .val (Lit (.int .i64 0))), (22, .val (IsB false)), (20, .val (IsB true)), (18, .val (Lit (.int .i64 0))), (19, .val (IsB false)), (17, .val (Lit (.int .i64 k))), (16, .val (Lit (.int .i64 i))), (15, .box 83 24 (A3V (ofV 64 x) (ofV 32 y) (ofV 16 z))), (14, .box 82 3 (A3 x ((toW 64 32 y).1) ((toW 64 16 z).1))), (6, .val (IsB false)), (124, .val (EnvV))]) (nb := []) H22 (by kernel_rfl) 12 0 #[true, true, true, true, true, true, true, true, true, true, true, true] (by kernel_rfl) (by kernel_rfl) rfl rfl ?_ ?_
        · refine .cons (.plain rfl (ok_move (.tmp 0 rfl))) ?_
          refine .cons (.plain rfl (ok_idxA3V i.toNat (by omega) (by omega) (.tmp 0 rfl) (.tmp 1 rfl))) ?_
          refine .cons (.plain rfl (ok_loadA3V (by omega) (.tmp 0 rfl))) ?_
          refine .cons (.plain rfl (ok_move (.tmp 0 rfl))) ?_
          refine .cons (.plain rfl (ok_idxA3V k.toNat (by omega) (by omega) (.tmp 0 rfl) (.tmp 1 rfl))) ?_
          refine .cons (.plain rfl (ok_loadA3V (by omega) (.tmp 0 rfl))) ?_
          refine .cons (.plain rfl (ok_callE ((con_ncmp (sel3 (ofV 64 x) (ofV 32 y) (ofV 16 z) i.toNat) (sel3 (ofV 64 x) (ofV 32 y) (ofV 16 z) k.toNat) (hZo _) (hZo _)).weak (fun v w B h => by rw [hZe, hZe, cmp_of _ _ (hPb _) (hPb _), hc] at h; exact h)) 2 rfl (.cons (.tmp 0 rfl) (.cons (.tmp 1 rfl) (.nil))))) ?_
          refine .cons (.plain rfl (ok_move (.tmp 0 rfl))) ?_
          refine .cons (.plain rfl (ok_extract 0 (.tmp 0 rfl) rfl)) ?_
          refine .cons (.plain rfl (ok_extract 1 (.tmp 0 rfl) rfl)) ?_
          refine .cons (.plain rfl (ok_assign (.tmp 0 rfl))) ?_
          refine .cons (.plain rfl (ok_assign (.tmp 0 rfl))) ?_
          exact .nil
        clear H22 a22 w22 B22
        intro a23 w23 B23 H23
        refine any_done (by kernel_rfl) ?_
        refine then_normal ?_
        refine wp_seq ?_
        refine flow_drawT (dsts := [some 104, some 105, some 106, some 107, some 108, some 109, some 110, some 111, some 112, some 113, some 114, some 115, some 116, some 117, some 118, some 119, some 120, some 121, some 122]) (refs := [[.pre 2], [.pre 6], [.pre 7, .res 1], [.res 2], [.pre 5], [.pre 7, .res 4], [.res 5], [.res 3, .res 6], [.res 0, .res 7], [.res 8], [.res 9, .pre 0], [.res 9, .pre 3], [.res 9, .res 10, .res 11], [.res 9, .res 12], [.res 13], [.res 14, .pre 1], [.res 14, .pre 4], [.res 14, .res 15, .res 16], [.res 14, .res 17]]) (outs := [.res 18, .pre 5, .pre 6, .pre 7, .pre 8, .pre 9, .pre 10]) (als := [false, false, false, false, false, false, false, false, false, false, false, false, false, false, false, false, false, false, false]) (posts := [.val (IsB true), .val (Lit (.int .i64 i)), .ptr 83 24 (A3V (ofV 64 x) (ofV 32 y) (ofV 16 z)) (8 * i.toNat), .val (IsNum (sel3 (ofV 64 x) (ofV 32 y) (ofV 16 z) i.toNat)), .val (Lit (.int .i64 k)), .ptr 83 24 (A3V (ofV 64 x) (ofV 32 y) (ofV 16 z)) (8 * k.toNat), .val (IsNum (sel3 (ofV 64 x) (ofV 32 y) (ofV 16 z) k.toNat)), .val (IsB true), .val (IsB false), .val (IsB false), .val (Lit (.int .i64 0)), .val (Lit (.int .i64 0)), .val (IsB false), .val (IsB false), .val (IsB false), .val (IsB false), .val (IsB false), .val (IsB false), .val (IsB false)])
          (out := [(122, .val (IsB false)), (17, .val (Lit (.int .i64 k))), (16, .val (Lit (.int .i64 i))), (15, .box 83 24 (A3V (ofV 64 x) (ofV 32 y) (ofV 16 z))), (14, .box 82 3 (A3 x ((toW 64 32 y).1) ((toW 64 16 z).1))), (6, .val (IsB false)), (124, .val (EnvV))]) (nb := []) H23 (by kernel_rfl) 19 0 #[true, true, true, true, true, true, true, true, true, true, true, true, true, true, true, true, true, true, true] (by kernel_rfl) (by kernel_rfl) rfl rfl ?_ ?_
        · refine .cons (.plain rfl (ok_move (.tmp 0 rfl))) ?_
          refine .cons (.plain rfl (ok_move (.tmp 0 rfl))) ?_
          refine .cons (.plain rfl (ok_idxA3V i.toNat (by omega) (by omega) (.tmp 0 rfl) (.tmp 1 rfl))) ?_
          refine .cons (.plain rfl (ok_loadA3V (by omega) (.tmp 0 rfl))) ?_
          refine .cons (.plain rfl (ok_move (.tmp 0 rfl))) ?_
          refine .cons (.plain rfl (ok_idxA3V k.toNat (by omega) (by omega) (.tmp 0 rfl) (.tmp 1 rfl))) ?_
          refine .cons (.plain rfl (ok_loadA3V (by omega) (.tmp 0 rfl))) ?_
          refine .cons (.plain rfl (ok_call ((con_sameval (sel3 (ofV 64 x) (ofV 32 y) (ofV 16 z) i.toNat) (sel3 (ofV 64 x) (ofV 32 y) (ofV 16 z) k.toNat)).weak (fun v w B h => isB_e (decide_eq_true (by rw [hZe, hZe]; exact hs)) h)) (.cons (.tmp 0 rfl) (.cons (.tmp 1 rfl) (.nil))))) ?_
          refine .cons (.plain rfl (ok_neB (p := true) (q := true) Tryz.underlying4 (.tmp 0 rfl) (.tmp 1 rfl))) ?_
          refine .cons (.plain rfl (ok_move (.tmp 0 rfl))) ?_
          refine .cons (.wanted 9 false rfl rfl rfl 0 rfl (ok_move (.tmp 1 rfl))) ?_
          refine .cons (.wanted 9 false rfl rfl rfl 0 rfl (ok_move (.tmp 1 rfl))) ?_
          refine .cons (.wanted 9 false rfl rfl rfl 0 rfl (ok_cmp (b := false) (.tmp 1 rfl) (.tmp 2 rfl) (by decide))) ?_
          refine .cons (.plain rfl (ok_pickF (.tmp 0 rfl) (.tmp 1 rfl))) ?_
          refine .cons (.plain rfl (ok_move (.tmp 0 rfl))) ?_
          refine .cons (.wanted 14 false rfl rfl rfl 0 rfl (ok_move (.tmp 1 rfl))) ?_
          refine .cons (.wanted 14 false rfl rfl rfl 0 rfl (ok_move (.tmp 1 rfl))) ?_
          refine .cons (.wanted 14 false rfl rfl rfl 0 rfl (ok_neB (p := false) (q := false) Tryz.underlying4 (.tmp 1 rfl) (.tmp 2 rfl))) ?_
          refine .cons (.plain rfl (ok_pickF (.tmp 0 rfl) (.tmp 1 rfl))) ?_
          exact .nil
        clear H23 a23 w23 B23
        intro a24 w24 B24 H24
        refine any_done (by kernel_rfl) ?_
        refine then_normal ?_
        refine f_condF H24 (.tmp 0 rfl) ?_
        refine wp_skip ?_
        refine block_normal ?_
        refine then_normal ?_
        refine flow_region (dsts := [some 65, some 66]) (refs := [[.pre 1], [.res 0]]) (outs := [.res 1, .pre 1, .pre 2, .pre 3, .pre 4, .pre 5, .pre 6]) (als := [false, false]) (posts := [.val (Lit (.int .i64 k)), .val (Lit (.int .i64 (k + 1)))])
          (out := [(66, .val (Lit (.int .i64 (k + 1)))), (17, .val (Lit (.int .i64 k))), (16, .val (Lit (.int .i64 i))), (15, .box 83 24 (A3V (ofV 64 x) (ofV 32 y) (ofV 16 z))), (14, .box 82 3 (A3 x ((toW 64 32 y).1) ((toW 64 16 z).1))), (6, .val (IsB false)), (124, .val (EnvV))]) (nb := []) H24 2 [2] rfl (by kernel_rfl) rfl rfl ?_ ?_
        · refine .cons (.plain rfl (ok_move (.tmp 0 rfl))) ?_
          refine .cons (.plain rfl (ok_add (r := (k + 1)) (.tmp 0 rfl) (.lit) (w_i64 (by omega)))) ?_
          exact .nil
        clear H24 a24 w24 B24
        intro a25 w25 B25 H25
        refine ops_one ?_
        refine tail_op (D := .val (Lit (.int .i64 (k + 1)))) (l' := [(17, .val (Lit (.int .i64 (k + 1)))), (66, .val (Lit (.int .i64 (k + 1)))), (16, .val (Lit (.int .i64 i))), (15, .box 83 24 (A3V (ofV 64 x) (ofV 32 y) (ofV 16 z))), (14, .box 82 3 (A3 x ((toW 64 32 y).1) ((toW 64 16 z).1))), (6, .val (IsB false)), (124, .val (EnvV))]) H25 rfl rfl rfl (.plain rfl (ok_assign (.tmp 0 rfl))) rfl rfl ?_
        clear H25 a25 w25 B25
        intro a26 w26 B26 H26
        refine ops_done ?_
        exact ⟨k + 1, B26, by exact ⟨by omega, by omega⟩, St.pick H26 [0, 2, 3, 4, 5, 6] rfl, by show (3 - (k + 1)).toNat < (3 - k).toNat; omega⟩
      · refine flow_drawT (dsts := [some 68, some 69, some 70, some 71, some 72, some 73, some 74, some 67, some 75, some 76, some 18, some 19]) (refs := [[.pre 2], [.pre 4, .res 0], [.res 1], [.pre 1], [.pre 4, .res 3], [.res 4], [.res 2, .res 5, .pre 6], [.res 6], [.res 7], [.res 7], [.res 8], [.res 9]]) (outs := [.res 10, .res 11, .pre 1, .pre 2, .pre 3, .pre 4, .pre 5, .pre 6]) (als := [false, false, false, false, false, false, false, false, false, false, false, false]) (posts := [.val (Lit (.int .i64 i)), .ptr 82 3 (A3 x ((toW 64 32 y).1) ((toW 64 16 z).1)) (i.toNat), .val (Lit (.int .u64 (sel3 x ((toW 64 32 y).1) ((toW 64 16 z).1) i.toNat))), .val (Lit (.int .i64 k)), .ptr 82 3 (A3 x ((toW 64 32 y).1) ((toW 64 16 z).1)) (k.toNat), .val (Lit (.int .u64 (sel3 x ((toW 64 32 y).1) ((toW 64 16 z).1) k.toNat))), .val (Tup [Lit (.int .i64 0), IsB false]), .val (Tup [Lit (.int .i64 0), IsB false]), .val (Lit (.int .i64 0)), .val (IsB false), .val (Lit (.int .i64 0)), .val (IsB false)])
          (out := [(18, .val (Lit (.int .i64 0))), (19, .val (IsB false)), (17, .val (Lit (.int .i64 k))), (16, .val (Lit (.int .i64 i))), (15, .box 83 24 (A3V (ofV 64 x) (ofV 32 y) (ofV 16 z))), (14, .box 82 3 (A3 x ((toW 64 32 y).1) ((toW 64 16 z).1))), (6, .val (IsB false)), (124, .val (EnvV))]) (nb := []) H19 (by kernel_rfl) 12 0 #[true, true, true, true, true, true, true, true, true, true, true, true] (by kernel_rfl) (by kernel_rfl) rfl rfl ?_ ?_
        · refine .cons (.plain rfl (ok_move (.tmp 0 rfl))) ?_
          refine .cons (.plain rfl (ok_idxA3 i.toNat (by omega) (by omega) (.tmp 0 rfl) (.tmp 1 rfl))) ?_
          refine .cons (.plain rfl (ok_loadA3 (by omega) (.tmp 0 rfl))) ?_
          refine .cons (.plain rfl (ok_move (.tmp 0 rfl))) ?_
          refine .cons (.plain rfl (ok_idxA3 k.toNat (by omega) (by omega) (.tmp 0 rfl) (.tmp 1 rfl))) ?_
          refine .cons (.plain rfl (ok_loadA3 (by omega) (.tmp 0 rfl))) ?_
          refine .cons (.plain rfl (ok_callE ((con_icmp64 (sel3 x (toW 64 32 y).1 (toW 64 16 z).1 i.toNat) (sel3 x (toW 64 32 y).1 (toW 64 16 z).1 k.toNat) (hPb _) (hPb _)).weak (fun v w B h => by rw [hc] at h; exact h)) 2 rfl (.cons (.tmp 0 rfl) (.cons (.tmp 1 rfl) (.nil))))) ?_
          refine .cons (.plain rfl (ok_move (.tmp 0 rfl))) ?_
          refine .cons (.plain rfl (ok_extract 0 (.tmp 0 rfl) rfl)) ?_
          refine .cons (.plain rfl (ok_extract 1 (.tmp 0 rfl) rfl)) ?_
          refine .cons (.plain rfl (ok_assign (.tmp 0 rfl))) ?_
          refine .cons (.plain rfl (ok_assign (.tmp 0 rfl))) ?_
          exact .nil
        clear H19 a19 w19 B19
        intro a27 w27 B27 H27
        refine any_done (by kernel_rfl) ?_
        refine then_normal ?_
        refine wp_seq ?_
        refine flow_region (dsts := [some 77, some 78, some 79, some 80, some 81, some 82, some 83, some 84, some 85, some 86, some 87, some 88, some 89, some 90, some 91, some 92, some 93, some 20]) (refs := [[.pre 1], [.res 0], [.res 1], [.res 1], [.res 1], [.res 4], [.res 5, .pre 3], [.res 5, .pre 5, .res 6], [.res 5, .res 7], [.res 5, .res 8, .pre 7], [.res 5, .res 9], [.res 10, .pre 2], [.res 10, .pre 5, .res 11], [.res 10, .res 12], [.res 10, .res 13, .pre 7], [.res 5, .res 10, .res 14], [.res 5, .res 15], [.res 16]]) (outs := [.res 17, .pre 0, .pre 1, .pre 2, .pre 3, .pre 4, .pre 5, .pre 6, .pre 7]) (als := [false, false, false, false, false, false, false, false, false, false, false, false, false, false, false, false, false, false]) (posts := [.val (IsB false), .val (IsB false), .val (IsUndef), .val (IsUndef), .val (IsB false), .val (IsB false), .val (Lit (.int .i64 i)), .ptr 82 3 (A3 x ((toW 64 32 y).1) ((toW 64 16 z).1)) (i.toNat), .val (Lit (.int .u64 (sel3 x ((toW 64 32 y).1) ((toW 64 16 z).1) i.toNat))), .val (IsB true), .val (IsB true), .val (Lit (.int .i64 k)), .ptr 82 3 (A3 x ((toW 64 32 y).1) ((toW 64 16 z).1)) (k.toNat), .val (Lit (.int .u64 (sel3 x ((toW 64 32 y).1) ((toW 64 16 z).1) k.toNat))), .val (IsB false), .val (IsB false), .val (IsB false), .val (IsB false)])
          (out := [(20, .val (IsB false)), (18, .val (Lit (.int .i64 0))), (19, .val (IsB false)), (17, .val (Lit (.int .i64 k))), (16, .val (Lit (.int .i64 i))), (15, .box 83 24 (A3V (ofV 64 x) (ofV 32 y) (ofV 16 z))), (14, .box 82 3 (A3 x ((toW 64 32 y).1) ((toW 64 16 z).1))), (6, .val (IsB false)), (124, .val (EnvV))]) (nb := []) H27 18 [] rfl (by kernel_rfl) rfl rfl ?_ ?_
        · refine .cons (.plain rfl (ok_move (.tmp 0 rfl))) ?_
          refine .cons (.plain rfl (ok_move (.tmp 0 rfl))) ?_
          refine .cons (.unwanted 1 true rfl rfl rfl 0 rfl) ?_
          refine .cons (.unwanted 1 true rfl rfl rfl 0 rfl) ?_
          refine .cons (.plain rfl (ok_pickF (.tmp 0 rfl) (.lit))) ?_
          refine .cons (.plain rfl (ok_move (.tmp 0 rfl))) ?_
          refine .cons (.wanted 5 false rfl rfl rfl 0 rfl (ok_move (.tmp 1 rfl))) ?_
          refine .cons (.wanted 5 false rfl rfl rfl 0 rfl (ok_idxA3 i.toNat (by omega) (by omega) (.tmp 1 rfl) (.tmp 2 rfl))) ?_
          refine .cons (.wanted 5 false rfl rfl rfl 0 rfl (ok_loadA3 (by omega) (.tmp 1 rfl))) ?_
          refine .cons (.wanted 5 false rfl rfl rfl 0 rfl (ok_callE ((con_nan15 (sel3 x ((toW 64 32 y).1) ((toW 64 16 z).1) i.toNat) (hPb _)).weak (fun v w B h => by rw [n1] at h; exact h)) 2 rfl (.cons (.tmp 1 rfl) (.nil)))) ?_
          refine .cons (.wanted 5 false rfl rfl rfl 0 rfl (ok_move (.tmp 1 rfl))) ?_
          refine .cons (.wanted 10 true rfl rfl rfl 0 rfl (ok_move (.tmp 1 rfl))) ?_
          refine .cons (.wanted 10 true rfl rfl rfl 0 rfl (ok_idxA3 k.toNat (by omega) (by omega) (.tmp 1 rfl) (.tmp 2 rfl))) ?_
          refine .cons (.wanted 10 true rfl rfl rfl 0 rfl (ok_loadA3 (by omega) (.tmp 1 rfl))) ?_
          refine .cons (.wanted 10 true rfl rfl rfl 0 rfl (ok_callE ((con_nan15 (sel3 x ((toW 64 32 y).1) ((toW 64 16 z).1) k.toNat) (hPb _)).weak (fun v w B h => by rw [n2] at h; exact h)) 2 rfl (.cons (.tmp 1 rfl) (.nil)))) ?_
          refine .cons (.wanted 5 false rfl rfl rfl 0 rfl (ok_pickT (.tmp 1 rfl) (.tmp 2 rfl))) ?_
          refine .cons (.plain rfl (ok_pickF (.tmp 0 rfl) (.tmp 1 rfl))) ?_
          refine .cons (.plain rfl (ok_assign (.tmp 0 rfl))) ?_
          exact .nil
        clear H27 a27 w27 B27
        intro a28 w28 B28 H28
        refine ops_done ?_
        refine then_normal ?_
        refine wp_seq ?_
        refine flow_drawT (dsts := [some 95, some 96, some 97, some 98, some 99, some 100, some 101, some 94, some 102, some 103, some 21, some 22]) (refs := [[.pre 4], [.pre 5, .res 0], [.res 1], [.pre 3], [.pre 5, .res 3], [.res 4], [.res 2, .res 5, .pre 8], [.res 6], [.res 7], [.res 7], [.res 8], [.res 9]]) (outs := [.res 10, .res 11, .pre 0, .pre 1, .pre 2, .pre 3, .pre 4, .pre 5, .pre 6, .pre 7, .pre 8]) (als := [false, false, false, false, false, false, false, false, false, false, false, false]) (posts := [.val (Lit (.int .i64 i)), .ptr 83 24 (A3V (ofV 64 x) (ofV 32 y) (ofV 16 z)) (8 * i.toNat), .val (IsNum (sel3 (ofV 64 x) (ofV 32 y) (ofV 16 z) i.toNat)), .val (Lit (.int .i64 k)), .ptr 83 24 (A3V (ofV 64 x) (ofV 32 y) (ofV 16 z)) (8 * k.toNat), .val (IsNum (sel3 (ofV 64 x) (ofV 32 y) (ofV 16 z) k.toNat)), .val (Tup [Lit (.int .i64 0), IsB false]), .val (Tup [Lit (.int .i64 0), IsB false]), .val (Lit (.int .i64 0)), .val (IsB false), .val (Lit (.int .i64 0)), .val (IsB false)])
          (out := [(21, .val (Lit (.int .i64 0))), (22, .val (IsB false)), (20, .val (IsB false)), (18, .val (Lit (.int .i64 0))), (19, .val (IsB false)), (17, .val (Lit (.int .i64 k))), (16, .val (Lit (.int .i64 i))), (15, .box 83 24 (A3V (ofV 64 x) (ofV 32 y) (ofV 16 z))), (14, .box 82 3 (A3 x ((toW 64 32 y).1) ((toW 64 16 z).1))), (6, .val (IsB false)), (124, .val (EnvV))]) (nb := []) H28 (by kernel_rfl) 12 0 #[true, true, true, true, true, true, true, true, true, true, true, true] (by kernel_rfl) (by kernel_rfl) rfl rfl ?_ ?_
        · refine .cons (.plain rfl (ok_move (.tmp 0 rfl))) ?_
          refine .cons (.plain rfl (ok_idxA3V i.toNat (by omega) (by omega) (.tmp 0 rfl) (.tmp 1 rfl))) ?_
          refine .cons (.plain rfl (ok_loadA3V (by omega) (.tmp 0 rfl))) ?_
          refine .cons (.plain rfl (ok_move (.tmp 0 rfl))) ?_
          refine .cons (.plain rfl (ok_idxA3V k.toNat (by omega) (by omega) (.tmp 0 rfl) (.tmp 1 rfl))) ?_
          refine .cons (.plain rfl (ok_loadA3V (by omega) (.tmp 0 rfl))) ?_
          refine .cons (.plain rfl (ok_callE ((con_ncmp (sel3 (ofV 64 x) (ofV 32 y) (ofV 16 z) i.toNat) (sel3 (ofV 64 x) (ofV 32 y) (ofV 16 z) k.toNat) (hZo _) (hZo _)).weak (fun v w B h => by rw [hZe, hZe, cmp_of _ _ (hPb _) (hPb _), hc] at h; exact h)) 2 rfl (.cons (.tmp 0 rfl) (.cons (.tmp 1 rfl) (.nil))))) ?_
          refine .cons (.plain rfl (ok_move (.tmp 0 rfl))) ?_
          refine .cons (.plain rfl (ok_extract 0 (.tmp 0 rfl) rfl)) ?_
          refine .cons (.plain rfl (ok_extract 1 (.tmp 0 rfl) rfl)) ?_
          refine .cons (.plain rfl (ok_assign (.tmp 0 rfl))) ?_
          refine .cons (.plain rfl (ok_assign (.tmp 0 rfl))) ?_
          exact .nil
        clear H28 a28 w28 B28
        intro a29 w29 B29 H29
        refine any_done (by kernel_rfl) ?_
        refine then_normal ?_
        refine wp_seq ?_
        refine flow_drawT (dsts := [some 104, some 105, some 106, some 107, some 108, some 109, some 110, some 111, some 112, some 113, some 114, some 115, some 116, some 117, some 118, some 119, some 120, some 121, some 122]) (refs := [[.pre 2], [.pre 6], [.pre 7, .res 1], [.res 2], [.pre 5], [.pre 7, .res 4], [.res 5], [.res 3, .res 6], [.res 0, .res 7], [.res 8], [.res 9, .pre 0], [.res 9, .pre 3], [.res 9, .res 10, .res 11], [.res 9, .res 12], [.res 13], [.res 14, .pre 1], [.res 14, .pre 4], [.res 14, .res 15, .res 16], [.res 14, .res 17]]) (outs := [.res 18, .pre 5, .pre 6, .pre 7, .pre 8, .pre 9, .pre 10]) (als := [false, false, false, false, false, false, false, false, false, false, false, false, false, false, false, false, false, false, false]) (posts := [.val (IsB false), .val (Lit (.int .i64 i)), .ptr 83 24 (A3V (ofV 64 x) (ofV 32 y) (ofV 16 z)) (8 * i.toNat), .val (IsNum (sel3 (ofV 64 x) (ofV 32 y) (ofV 16 z) i.toNat)), .val (Lit (.int .i64 k)), .ptr 83 24 (A3V (ofV 64 x) (ofV 32 y) (ofV 16 z)) (8 * k.toNat), .val (IsNum (sel3 (ofV 64 x) (ofV 32 y) (ofV 16 z) k.toNat)), .val (IsB false), .val (IsB false), .val (IsB false), .val (Lit (.int .i64 0)), .val (Lit (.int .i64 0)), .val (IsB false), .val (IsB false), .val (IsB false), .val (IsB false), .val (IsB false), .val (IsB false), .val (IsB false)])
          (out := [(122, .val (IsB false)), (17, .val (Lit (.int .i64 k))), (16, .val (Lit (.int .i64 i))), (15, .box 83 24 (A3V (ofV 64 x) (ofV 32 y) (ofV 16 z))), (14, .box 82 3 (A3 x ((toW 64 32 y).1) ((toW 64 16 z).1))), (6, .val (IsB false)), (124, .val (EnvV))]) (nb := []) H29 (by kernel_rfl) 19 0 #[true, true, true, true, true, true, true, true, true, true, true, true, true, true, true, true, true, true, true] (by kernel_rfl) (by kernel_rfl) rfl rfl ?_ ?_
        · refine .cons (.plain rfl (ok_move (.tmp 0 rfl))) ?_
          refine .cons (.plain rfl (ok_move (.tmp 0 rfl))) ?_
          refine .cons (.plain rfl (ok_idxA3V i.toNat (by omega) (by omega) (.tmp 0 rfl) (.tmp 1 rfl))) ?_
          refine .cons (.plain rfl (ok_loadA3V (by omega) (.tmp 0 rfl))) ?_
          refine .cons (.plain rfl (ok_move (.tmp 0 rfl))) ?_
          refine .cons (.plain rfl (ok_idxA3V k.toNat (by omega) (by omega) (.tmp 0 rfl) (.tmp 1 rfl))) ?_
          refine .cons (.plain rfl (ok_loadA3V (by omega) (.tmp 0 rfl))) ?_
          refine .cons (.plain rfl (ok_call ((con_sameval (sel3 (ofV 64 x) (ofV 32 y) (ofV 16 z) i.toNat) (sel3 (ofV 64 x) (ofV 32 y) (ofV 16 z) k.toNat)).weak (fun v w B h => isB_e (decide_eq_false (by rw [hZe, hZe]; exact hs)) h)) (.cons (.tmp 0 rfl) (.cons (.tmp 1 rfl) (.nil))))) ?_
          refine .cons (.plain rfl (ok_neB (p := false) (q := false) Tryz.underlying4 (.tmp 0 rfl) (.tmp 1 rfl))) ?_
          refine .cons (.plain rfl (ok_move (.tmp 0 rfl))) ?_
          refine .cons (.wanted 9 false rfl rfl rfl 0 rfl (ok_move (.tmp 1 rfl))) ?_
          refine .cons (.wanted 9 false rfl rfl rfl 0 rfl (ok_move (.tmp 1 rfl))) ?_
          refine .cons (.wanted 9 false rfl rfl rfl 0 rfl (ok_cmp (b := false) (.tmp 1 rfl) (.tmp 2 rfl) (by decide))) ?_
          refine .cons (.plain rfl (ok_pickF (.tmp 0 rfl) (.tmp 1 rfl))) ?_
          refine .cons (.plain rfl (ok_move (.tmp 0 rfl))) ?_
          refine .cons (.wanted 14 false rfl rfl rfl 0 rfl (ok_move (.tmp 1 rfl))) ?_
          refine .cons (.wanted 14 false rfl rfl rfl 0 rfl (ok_move (.tmp 1 rfl))) ?_
          refine .cons (.wanted 14 false rfl rfl rfl 0 rfl (ok_neB (p := false) (q := false) Tryz.underlying4 (.tmp 1 rfl) (.tmp 2 rfl))) ?_
          refine .cons (.plain rfl (ok_pickF (.tmp 0 rfl) (.tmp 1 rfl))) ?_
          exact .nil
        clear H29 a29 w29 B29
        intro a30 w30 B30 H30
        refine any_done (by kernel_rfl) ?_
        refine then_normal ?_
        refine f_condF H30 (.tmp 0 rfl) ?_
        refine wp_skip ?_
        refine block_normal ?_
        refine then_normal ?_
        refine flow_region (dsts := [some 65, some 66]) (refs := [[.pre 1], [.res 0]]) (outs := [.res 1, .pre 1, .pre 2, .pre 3, .pre 4, .pre 5, .pre 6]) (als := [false, false]) (posts := [.val (Lit (.int .i64 k)), .val (Lit (.int .i64 (k + 1)))])
          (out := [(66, .val (Lit (.int .i64 (k + 1)))), (17, .val (Lit (.int .i64 k))), (16, .val (Lit (.int .i64 i))), (15, .box 83 24 (A3V (ofV 64 x) (ofV 32 y) (ofV 16 z))), (14, .box 82 3 (A3 x ((toW 64 32 y).1) ((toW 64 16 z).1))), (6, .val (IsB false)), (124, .val (EnvV))]) (nb := []) H30 2 [2] rfl (by kernel_rfl) rfl rfl ?_ ?_
        · refine .cons (.plain rfl (ok_move (.tmp 0 rfl))) ?_
          refine .cons (.plain rfl (ok_add (r := (k + 1)) (.tmp 0 rfl) (.lit) (w_i64 (by omega)))) ?_
          exact .nil
        clear H30 a30 w30 B30
        intro a31 w31 B31 H31
        refine ops_one ?_
        refine tail_op (D := .val (Lit (.int .i64 (k + 1)))) (l' := [(17, .val (Lit (.int .i64 (k + 1)))), (66, .val (Lit (.int .i64 (k + 1)))), (16, .val (Lit (.int .i64 i))), (15, .box 83 24 (A3V (ofV 64 x) (ofV 32 y) (ofV 16 z))), (14, .box 82 3 (A3 x ((toW 64 32 y).1) ((toW 64 16 z).1))), (6, .val (IsB false)), (124, .val (EnvV))]) H31 rfl rfl rfl (.plain rfl (ok_assign (.tmp 0 rfl))) rfl rfl ?_
        clear H31 a31 w31 B31
        intro a32 w32 B32 H32
        refine ops_done ?_
        exact ⟨k + 1, B32, by exact ⟨by omega, by omega⟩, St.pick H32 [0, 2, 3, 4, 5, 6] rfl, by show (3 - (k + 1)).toNat < (3 - k).toNat; omega⟩
      · refine flow_drawT (dsts := [some 68, some 69, some 70, some 71, some 72, some 73, some 74, some 67, some 75, some 76, some 18, some 19]) (refs := [[.pre 2], [.pre 4, .res 0], [.res 1], [.pre 1], [.pre 4, .res 3], [.res 4], [.res 2, .res 5, .pre 6], [.res 6], [.res 7], [.res 7], [.res 8], [.res 9]]) (outs := [.res 10, .res 11, .pre 1, .pre 2, .pre 3, .pre 4, .pre 5, .pre 6]) (als := [false, false, false, false, false, false, false, false, false, false, false, false]) (posts := [.val (Lit (.int .i64 i)), .ptr 82 3 (A3 x ((toW 64 32 y).1) ((toW 64 16 z).1)) (i.toNat), .val (Lit (.int .u64 (sel3 x ((toW 64 32 y).1) ((toW 64 16 z).1) i.toNat))), .val (Lit (.int .i64 k)), .ptr 82 3 (A3 x ((toW 64 32 y).1) ((toW 64 16 z).1)) (k.toNat), .val (Lit (.int .u64 (sel3 x ((toW 64 32 y).1) ((toW 64 16 z).1) k.toNat))), .val (Tup [Lit (.int .i64 0), IsB false]), .val (Tup [Lit (.int .i64 0), IsB false]), .val (Lit (.int .i64 0)), .val (IsB false), .val (Lit (.int .i64 0)), .val (IsB false)])
          (out := [(18, .val (Lit (.int .i64 0))), (19, .val (IsB false)), (17, .val (Lit (.int .i64 k))), (16, .val (Lit (.int .i64 i))), (15, .box 83 24 (A3V (ofV 64 x) (ofV 32 y) (ofV 16 z))), (14, .box 82 3 (A3 x ((toW 64 32 y).1) ((toW 64 16 z).1))), (6, .val (IsB false)), (124, .val (EnvV))]) (nb := []) H19 (by kernel_rfl) 12 0 #[true, true, true, true, true, true, true, true, true, true, true, true] (by kernel_rfl) (by kernel_rfl) rfl rfl ?_ ?_
        · refine .cons (.plain rfl (ok_move (.tmp 0 rfl))) ?_
          refine .cons (.plain rfl (ok_idxA3 i.toNat (by omega) (by omega) (.tmp 0 rfl) (.tmp 1 rfl))) ?_
          refine .cons (.plain rfl (ok_loadA3 (by omega) (.tmp 0 rfl))) ?_
          refine .cons (.plain rfl (ok_move (.tmp 0 rfl))) ?_
          refine .cons (.plain rfl (ok_idxA3 k.toNat (by omega) (by omega) (.tmp 0 rfl) (.tmp 1 rfl))) ?_
          refine .cons (.plain rfl (ok_loadA3 (by omega) (.tmp 0 rfl))) ?_
          refine .cons (.plain rfl (ok_callE ((con_icmp64 (sel3 x (toW 64 32 y).1 (toW 64 16 z).1 i.toNat) (sel3 x (toW 64 32 y).1 (toW 64 16 z).1 k.toNat) (hPb _) (hPb _)).weak (fun v w B h => by rw [hc] at h; exact h)) 2 rfl (.cons (.tmp 0 rfl) (.cons (.tmp 1 rfl) (.nil))))) ?_
          refine .cons (.plain rfl (ok_move (.tmp 0 rfl))) ?_
          refine .cons (.plain rfl (ok_extract 0 (.tmp 0 rfl) rfl)) ?_
          refine .cons (.plain rfl (ok_extract 1 (.tmp 0 rfl) rfl)) ?_
          refine .cons (.plain rfl (ok_assign (.tmp 0 rfl))) ?_
          refine .cons (.plain rfl (ok_assign (.tmp 0 rfl))) ?_
          exact .nil
        clear H19 a19 w19 B19
        intro a33 w33 B33 H33
        refine any_done (by kernel_rfl) ?_
        refine then_normal ?_
        refine wp_seq ?_
        refine flow_region (dsts := [some 77, some 78, some 79, some 80, some 81, some 82, some 83, some 84, some 85, some 86, some 87, some 88, some 89, some 90, some 91, some 92, some 93, some 20]) (refs := [[.pre 1], [.res 0], [.res 1], [.res 1], [.res 1], [.res 4], [.res 5, .pre 3], [.res 5, .pre 5, .res 6], [.res 5, .res 7], [.res 5, .res 8, .pre 7], [.res 5, .res 9], [.res 10], [.res 10], [.res 10], [.res 10], [.res 5, .res 10], [.res 5, .res 15], [.res 16]]) (outs := [.res 17, .pre 0, .pre 1, .pre 2, .pre 3, .pre 4, .pre 5, .pre 6, .pre 7]) (als := [false, false, false, false, false, false, false, false, false, false, false, false, false, false, false, false, false, false]) (posts := [.val (IsB false), .val (IsB false), .val (IsUndef), .val (IsUndef), .val (IsB false), .val (IsB false), .val (Lit (.int .i64 i)), .ptr 82 3 (A3 x ((toW 64 32 y).1) ((toW 64 16 z).1)) (i.toNat), .val (Lit (.int .u64 (sel3 x ((toW 64 32 y).1) ((toW 64 16 z).1) i.toNat))), .val (IsB false), .val (IsB false), .val (IsUndef), .val (IsUndef), .val (IsUndef), .val (IsUndef), .val (IsB false), .val (IsB false), .val (IsB false)])
          (out := [(20, .val (IsB false)), (18, .val (Lit (.int .i64 0))), (19, .val (IsB false)), (17, .val (Lit (.int .i64 k))), (16, .val (Lit (.int .i64 i))), (15, .box 83 24 (A3V (ofV 64 x) (ofV 32 y) (ofV 16 z))), (14, .box 82 3 (A3 x ((toW 64 32 y).1) ((toW 64 16 z).1))), (6, .val (IsB false)), (124, .val (EnvV))]) (nb := []) H33 18 [] rfl (by kernel_rfl) rfl rfl ?_ ?_
        · refine .cons (.plain rfl (ok_move (.tmp 0 rfl))) ?_
          refine .cons (.plain rfl (ok_move (.tmp 0 rfl))) ?_
          refine .cons (.unwanted 1 true rfl rfl rfl 0 rfl) ?_
          refine .cons (.unwanted 1 true rfl rfl rfl 0 rfl) ?_
          refine .cons (.plain rfl (ok_pickF (.tmp 0 rfl) (.lit))) ?_
          refine .cons (.plain rfl (ok_move (.tmp 0 rfl))) ?_
          refine .cons (.wanted 5 false rfl rfl rfl 0 rfl (ok_move (.tmp 1 rfl))) ?_
          refine .cons (.wanted 5 false rfl rfl rfl 0 rfl (ok_idxA3 i.toNat (by omega) (by omega) (.tmp 1 rfl) (.tmp 2 rfl))) ?_
          refine .cons (.wanted 5 false rfl rfl rfl 0 rfl (ok_loadA3 (by omega) (.tmp 1 rfl))) ?_
          refine .cons (.wanted 5 false rfl rfl rfl 0 rfl (ok_callE ((con_nan15 (sel3 x ((toW 64 32 y).1) ((toW 64 16 z).1) i.toNat) (hPb _)).weak (fun v w B h => by rw [n1] at h; exact h)) 2 rfl (.cons (.tmp 1 rfl) (.nil)))) ?_
          refine .cons (.wanted 5 false rfl rfl rfl 0 rfl (ok_move (.tmp 1 rfl))) ?_
          refine .cons (.unwanted 10 true rfl rfl rfl 0 rfl) ?_
          refine .cons (.unwanted 10 true rfl rfl rfl 0 rfl) ?_
          refine .cons (.unwanted 10 true rfl rfl rfl 0 rfl) ?_
          refine .cons (.unwanted 10 true rfl rfl rfl 0 rfl) ?_
          refine .cons (.wanted 5 false rfl rfl rfl 0 rfl (ok_pickF (.tmp 1 rfl) (.lit))) ?_
          refine .cons (.plain rfl (ok_pickF (.tmp 0 rfl) (.tmp 1 rfl))) ?_
          refine .cons (.plain rfl (ok_assign (.tmp 0 rfl))) ?_
          exact .nil
        clear H33 a33 w33 B33
        intro a34 w34 B34 H34
        refine ops_done ?_
        refine then_normal ?_
        refine wp_seq ?_
        refine flow_drawT (dsts := [some 95, some 96, some 97, some 98, some 99, some 100, some 101, some 94, some 102, some 103, some 21, some 22]) (refs := [[.pre 4], [.pre 5, .res 0], [.res 1], [.pre 3], [.pre 5, .res 3], [.res 4], [.res 2, .res 5, .pre 8], [.res 6], [.res 7], [.res 7], [.res 8], [.res 9]]) (outs := [.res 10, .res 11, .pre 0, .pre 1, .pre 2, .pre 3, .pre 4, .pre 5, .pre 6, .pre 7, .pre 8]) (als := [false, false, false, false, false, false, false, false, false, false, false, false]) (posts := [.val (Lit (.int .i64 i)), .ptr 83 24 (A3V (ofV 64 x) (ofV 32 y) (ofV 16 z)) (8 * i.toNat), .val (IsNum (sel3 (ofV 64 x) (ofV 32 y) (ofV 16 z) i.toNat)), .val (Lit (.int .i64 k)), .ptr 83 24 (A3V (ofV 64 x) (ofV 32 y) (ofV 16 z)) (8 * k.toNat), .val (IsNum (sel3 (ofV 64 x) (ofV 32 y) (ofV 16 z) k.toNat)), .val (Tup [Lit (.int .i64 0), IsB false]), .val (Tup [Lit (.int .i64 0), IsB false]), .val (Lit (.int .i64 0)), .val (IsB false), .val (Lit (.int .i64 0)), .val (IsB false)])
          (out := [(21, .val (Lit (.int .i64 0))), (22, .val (IsB false)), (20, .val (IsB false)), (18, .val (Lit (.int .i64 0))), (19, .val (IsB false)), (17, .val (Lit (.int .i64 k))), (16, .val (Lit (.int .i64 i))), (15, .box 83 24 (A3V (ofV 64 x) (ofV 32 y) (ofV 16 z))), (14, .box 82 3 (A3 x ((toW 64 32 y).1) ((toW 64 16 z).1))), (6, .val (IsB false)), (124, .val (EnvV))]) (nb := []) H34 (by kernel_rfl) 12 0 #[true, true, true, true, true, true, true, true, true, true, true, true] (by kernel_rfl) (by kernel_rfl) rfl rfl ?_ ?_
        · refine .cons (.plain rfl (ok_move (.tmp 0 rfl))) ?_
          refine .cons (.plain rfl (ok_idxA3V i.toNat (by omega) (by omega) (.tmp 0 rfl) (.tmp 1 rfl))) ?_
          refine .cons (.plain rfl (ok_loadA3V (by omega) (.tmp 0 rfl))) ?_
          refine .cons (.plain rfl (ok_move (.tmp 0 rfl))) ?_
          refine .cons (.plain rfl (ok_idxA3V k.toNat (by omega) (by omega) (.tmp 0 rfl) (.tmp 1 rfl))) ?_
          refine .cons (.plain rfl (ok_loadA3V (by omega) (.tmp 0 rfl))) ?_
          refine .cons (.plain rfl (ok_callE ((con_ncmp (sel3 (ofV 64 x) (ofV 32 y) (ofV 16 z) i.toNat) (sel3 (ofV 64 x) (ofV 32 y) (ofV 16 z) k.toNat) (hZo _) (hZo _)).weak (fun v w B h => by rw [hZe, hZe, cmp_of _ _ (hPb _) (hPb _), hc] at h; exact h)) 2 rfl (.cons (.tmp 0 rfl) (.cons (.tmp 1 rfl) (.nil))))) ?_
          refine .cons (.plain rfl (ok_move (.tmp 0 rfl))) ?_
          refine .cons (.plain rfl (ok_extract 0 (.tmp 0 rfl) rfl)) ?_
          refine .cons (.plain rfl (ok_extract 1 (.tmp 0 rfl) rfl)) ?_
          refine .cons (.plain rfl (ok_assign (.tmp 0 rfl))) ?_
          refine .cons (.plain rfl (ok_assign (.tmp 0 rfl))) ?_
          exact .nil
        clear H34 a34 w34 B34
        intro a35 w35 B35 H35
        refine any_done (by kernel_rfl) ?_
        refine then_normal ?_
        refine wp_seq ?_
        refine flow_drawT (dsts := [some 104, some 105, some 106, some 107, some 108, some 109, some 110, some 111, some 112, some 113, some 114, some 115, some 116, some 117, some 118, some 119, some 120, some 121, some 122]) (refs := [[.pre 2], [.pre 6], [.pre 7, .res 1], [.res 2], [.pre 5], [.pre 7, .res 4], [.res 5], [.res 3, .res 6], [.res 0, .res 7], [.res 8], [.res 9, .pre 0], [.res 9, .pre 3], [.res 9, .res 10, .res 11], [.res 9, .res 12], [.res 13], [.res 14, .pre 1], [.res 14, .pre 4], [.res 14, .res 15, .res 16], [.res 14, .res 17]]) (outs := [.res 18, .pre 5, .pre 6, .pre 7, .pre 8, .pre 9, .pre 10]) (als := [false, false, false, false, false, false, false, false, false, false, false, false, false, false, false, false, false, false, false]) (posts := [.val (IsB false), .val (Lit (.int .i64 i)), .ptr 83 24 (A3V (ofV 64 x) (ofV 32 y) (ofV 16 z)) (8 * i.toNat), .val (IsNum (sel3 (ofV 64 x) (ofV 32 y) (ofV 16 z) i.toNat)), .val (Lit (.int .i64 k)), .ptr 83 24 (A3V (ofV 64 x) (ofV 32 y) (ofV 16 z)) (8 * k.toNat), .val (IsNum (sel3 (ofV 64 x) (ofV 32 y) (ofV 16 z) k.toNat)), .val (IsB false), .val (IsB false), .val (IsB false), .val (Lit (.int .i64 0)), .val (Lit (.int .i64 0)), .val (IsB false), .val (IsB false), .val (IsB false), .val (IsB false), .val (IsB false), .val (IsB false), .val (IsB false)])
          (out := [(122, .val (IsB false)), (17, .val (Lit (.int .i64 k))), (16, .val (Lit (.int .i64 i))), (15, .box 83 24 (A3V (ofV 64 x) (ofV 32 y) (ofV 16 z))), (14, .box 82 3 (A3 x ((toW 64 32 y).1) ((toW 64 16 z).1))), (6, .val (IsB false)), (124, .val (EnvV))]) (nb := []) H35 (by kernel_rfl) 19 0 #[true, true, true, true, true, true, true, true, true, true, true, true, true, true, true, true, true, true, true] (by kernel_rfl) (by kernel_rfl) rfl rfl ?_ ?_
        · refine .cons (.plain rfl (ok_move (.tmp 0 rfl))) ?_
          refine .cons (.plain rfl (ok_move (.tmp 0 rfl))) ?_
          refine .cons (.plain rfl (ok_idxA3V i.toNat (by omega) (by omega) (.tmp 0 rfl) (.tmp 1 rfl))) ?_
          refine .cons (.plain rfl (ok_loadA3V (by omega) (.tmp 0 rfl))) ?_
          refine .cons (.plain rfl (ok_move (.tmp 0 rfl))) ?_
          refine .cons (.plain rfl (ok_idxA3V k.toNat (by omega) (by omega) (.tmp 0 rfl) (.tmp 1 rfl))) ?_
          refine .cons (.plain rfl (ok_loadA3V (by omega) (.tmp 0 rfl))) ?_
          refine .cons (.plain rfl (ok_call ((con_sameval (sel3 (ofV 64 x) (ofV 32 y) (ofV 16 z) i.toNat) (sel3 (ofV 64 x) (ofV 32 y) (ofV 16 z) k.toNat)).weak (fun v w B h => isB_e (decide_eq_false (by rw [hZe, hZe]; exact hs)) h)) (.cons (.tmp 0 rfl) (.cons (.tmp 1 rfl) (.nil))))) ?_
          refine .cons (.plain rfl (ok_neB (p := false) (q := false) Tryz.underlying4 (.tmp 0 rfl) (.tmp 1 rfl))) ?_
          refine .cons (.plain rfl (ok_move (.tmp 0 rfl))) ?_
          refine .cons (.wanted 9 false rfl rfl rfl 0 rfl (ok_move (.tmp 1 rfl))) ?_
          refine .cons (.wanted 9 false rfl rfl rfl 0 rfl (ok_move (.tmp 1 rfl))) ?_
          refine .cons (.wanted 9 false rfl rfl rfl 0 rfl (ok_cmp (b := false) (.tmp 1 rfl) (.tmp 2 rfl) (by decide))) ?_
          refine .cons (.plain rfl (ok_pickF (.tmp 0 rfl) (.tmp 1 rfl))) ?_
          refine .cons (.plain rfl (ok_move (.tmp 0 rfl))) ?_
          refine .cons (.wanted 14 false rfl rfl rfl 0 rfl (ok_move (.tmp 1 rfl))) ?_
          refine .cons (.wanted 14 false rfl rfl rfl 0 rfl (ok_move (.tmp 1 rfl))) ?_
          refine .cons (.wanted 14 false rfl rfl rfl 0 rfl (ok_neB (p := false) (q := false) Tryz.underlying4 (.tmp 1 rfl) (.tmp 2 rfl))) ?_
          refine .cons (.plain rfl (ok_pickF (.tmp 0 rfl) (.tmp 1 rfl))) ?_
          exact .nil
        clear H35 a35 w35 B35
        intro a36 w36 B36 H36
        refine any_done (by kernel_rfl) ?_
        refine then_normal ?_
        refine f_condF H36 (.tmp 0 rfl) ?_
        refine wp_skip ?_
        refine block_normal ?_
        refine then_normal ?_
        refine flow_region (dsts := [some 65, some 66]) (refs := [[.pre 1], [.res 0]]) (outs := [.res 1, .pre 1, .pre 2, .pre 3, .pre 4, .pre 5, .pre 6]) (als := [false, false]) (posts := [.val (Lit (.int .i64 k)), .val (Lit (.int .i64 (k + 1)))])
          (out := [(66, .val (Lit (.int .i64 (k + 1)))), (17, .val (Lit (.int .i64 k))), (16, .val (Lit (.int .i64 i))), (15, .box 83 24 (A3V (ofV 64 x) (ofV 32 y) (ofV 16 z))), (14, .box 82 3 (A3 x ((toW 64 32 y).1) ((toW 64 16 z).1))), (6, .val (IsB false)), (124, .val (EnvV))]) (nb := []) H36 2 [2] rfl (by kernel_rfl) rfl rfl ?_ ?_
        · refine .cons (.plain rfl (ok_move (.tmp 0 rfl))) ?_
          refine .cons (.plain rfl (ok_add (r := (k + 1)) (.tmp 0 rfl) (.lit) (w_i64 (by omega)))) ?_
          exact .nil
        clear H36 a36 w36 B36
        intro a37 w37 B37 H37
        refine ops_one ?_
        refine tail_op (D := .val (Lit (.int .i64 (k + 1)))) (l' := [(17, .val (Lit (.int .i64 (k + 1)))), (66, .val (Lit (.int .i64 (k + 1)))), (16, .val (Lit (.int .i64 i))), (15, .box 83 24 (A3V (ofV 64 x) (ofV 32 y) (ofV 16 z))), (14, .box 82 3 (A3 x ((toW 64 32 y).1) ((toW 64 16 z).1))), (6, .val (IsB false)), (124, .val (EnvV))]) H37 rfl rfl rfl (.plain rfl (ok_assign (.tmp 0 rfl))) rfl rfl ?_
        clear H37 a37 w37 B37
        intro a38 w38 B38 H38
        refine ops_done ?_
        exact ⟨k + 1, B38, by exact ⟨by omega, by omega⟩, St.pick H38 [0, 2, 3, 4, 5, 6] rfl, by show (3 - (k + 1)).toNat < (3 - k).toNat; omega⟩
      · refine flow_drawT (dsts := [some 68, some 69, some 70, some 71, some 72, some 73, some 74, some 67, some 75, some 76, some 18, some 19]) (refs := [[.pre 2], [.pre 4, .res 0], [.res 1], [.pre 1], [.pre 4, .res 3], [.res 4], [.res 2, .res 5, .pre 6], [.res 6], [.res 7], [.res 7], [.res 8], [.res 9]]) (outs := [.res 10, .res 11, .pre 1, .pre 2, .pre 3, .pre 4, .pre 5, .pre 6]) (als := [false, false, false, false, false, false, false, false, false, false, false, false]) (posts := [.val (Lit (.int .i64 i)), .ptr 82 3 (A3 x ((toW 64 32 y).1) ((toW 64 16 z).1)) (i.toNat), .val (Lit (.int .u64 (sel3 x ((toW 64 32 y).1) ((toW 64 16 z).1) i.toNat))), .val (Lit (.int .i64 k)), .ptr 82 3 (A3 x ((toW 64 32 y).1) ((toW 64 16 z).1)) (k.toNat), .val (Lit (.int .u64 (sel3 x ((toW 64 32 y).1) ((toW 64 16 z).1) k.toNat))), .val (Tup [Lit (.int .i64 0), IsB true]), .val (Tup [Lit (.int .i64 0), IsB true]), .val (Lit (.int .i64 0)), .val (IsB true), .val (Lit (.int .i64 0)), .val (IsB true)])
          (out := [(18, .val (Lit (.int .i64 0))), (19, .val (IsB true)), (17, .val (Lit (.int .i64 k))), (16, .val (Lit (.int .i64 i))), (15, .box 83 24 (A3V (ofV 64 x) (ofV 32 y) (ofV 16 z))), (14, .box 82 3 (A3 x ((toW 64 32 y).1) ((toW 64 16 z).1))), (6, .val (IsB false)), (124, .val (EnvV))]) (nb := []) H19 (by kernel_rfl) 12 0 #[true, true, true, true, true, true, true, true, true, true, true, true] (by kernel_rfl) (by kernel_rfl) rfl rfl ?_ ?_
        · refine .cons (.plain rfl (ok_move (.tmp 0 rfl))) ?_
          refine .cons (.plain rfl (ok_idxA3 i.toNat (by omega) (by omega) (.tmp 0 rfl) (.tmp 1 rfl))) ?_
          refine .cons (.plain rfl (ok_loadA3 (by omega) (.tmp 0 rfl))) ?_
          refine .cons (.plain rfl (ok_move (.tmp 0 rfl))) ?_
          refine .cons (.plain rfl (ok_idxA3 k.toNat (by omega) (by omega) (.tmp 0 rfl) (.tmp 1 rfl))) ?_
          refine .cons (.plain rfl (ok_loadA3 (by omega) (.tmp 0 rfl))) ?_
          refine .cons (.plain rfl (ok_callE ((con_icmp64 (sel3 x (toW 64 32 y).1 (toW 64 16 z).1 i.toNat) (sel3 x (toW 64 32 y).1 (toW 64 16 z).1 k.toNat) (hPb _) (hPb _)).weak (fun v w B h => by rw [hc] at h; exact h)) 2 rfl (.cons (.tmp 0 rfl) (.cons (.tmp 1 rfl) (.nil))))) ?_
          refine .cons (.plain rfl (ok_move (.tmp 0 rfl))) ?_
          refine .cons (.plain rfl (ok_extract 0 (.tmp 0 rfl) rfl)) ?_
          refine .cons (.plain rfl (ok_extract 1 (.tmp 0 rfl) rfl)) ?_
          refine .cons (.plain rfl (ok_assign (.tmp 0 rfl))) ?_
          refine .cons (.plain rfl (ok_assign (.tmp 0 rfl))) ?_
          exact .nil
        clear H19 a19 w19 B19
        intro a39 w39 B39 H39
        refine any_done (by kernel_rfl) ?_
        refine then_normal ?_
        refine wp_seq ?_
        refine flow_region (dsts := [some 77, some 78, some 79, some 80, some 81, some 82, some 83, some 84, some 85, some 86, some 87, some 88, some 89, some 90, some 91, some 92, some 93, some 20]) (refs := [[.pre 1], [.res 0], [.res 1, .pre 0], [.res 1, .res 2], [.res 1, .res 3], [.res 4], [.res 5], [.res 5], [.res 5], [.res 5], [.res 5], [.res 10], [.res 10], [.res 10], [.res 10], [.res 5], [.res 5], [.res 16]]) (outs := [.res 17, .pre 0, .pre 1, .pre 2, .pre 3, .pre 4, .pre 5, .pre 6, .pre 7]) (als := [false, false, false, false, false, false, false, false, false, false, false, false, false, false, false, false, false, false]) (posts := [.val (IsB true), .val (IsB true), .val (Lit (.int .i64 0)), .val (IsB true), .val (IsB true), .val (IsB true), .val (IsUndef), .val (IsUndef), .val (IsUndef), .val (IsUndef), .val (IsUndef), .val (IsUndef), .val (IsUndef), .val (IsUndef), .val (IsUndef), .val (IsUndef), .val (IsB true), .val (IsB true)])
          (out := [(20, .val (IsB true)), (18, .val (Lit (.int .i64 0))), (19, .val (IsB true)), (17, .val (Lit (.int .i64 k))), (16, .val (Lit (.int .i64 i))), (15, .box 83 24 (A3V (ofV 64 x) (ofV 32 y) (ofV 16 z))), (14, .box 82 3 (A3 x ((toW 64 32 y).1) ((toW 64 16 z).1))), (6, .val (IsB false)), (124, .val (EnvV))]) (nb := []) H39 18 [] rfl (by kernel_rfl) rfl rfl ?_ ?_
        · refine .cons (.plain rfl (ok_move (.tmp 0 rfl))) ?_
          refine .cons (.plain rfl (ok_move (.tmp 0 rfl))) ?_
          refine .cons (.wanted 1 true rfl rfl rfl 0 rfl (ok_move (.tmp 1 rfl))) ?_
          refine .cons (.wanted 1 true rfl rfl rfl 0 rfl (ok_cmp (b := true) (.tmp 1 rfl) (.lit) (by decide))) ?_
          refine .cons (.plain rfl (ok_pickT (.tmp 0 rfl) (.tmp 1 rfl))) ?_
          refine .cons (.plain rfl (ok_move (.tmp 0 rfl))) ?_
          refine .cons (.unwanted 5 false rfl rfl rfl 0 rfl) ?_
          refine .cons (.unwanted 5 false rfl rfl rfl 0 rfl) ?_
          refine .cons (.unwanted 5 false rfl rfl rfl 0 rfl) ?_
          refine .cons (.unwanted 5 false rfl rfl rfl 0 rfl) ?_
          refine .cons (.unwanted 5 false rfl rfl rfl 0 rfl) ?_
          refine .cons (.unasked 10 true rfl rfl rfl 0 rfl) ?_
          refine .cons (.unasked 10 true rfl rfl rfl 0 rfl) ?_
          refine .cons (.unasked 10 true rfl rfl rfl 0 rfl) ?_
          refine .cons (.unasked 10 true rfl rfl rfl 0 rfl) ?_
          refine .cons (.unwanted 5 false rfl rfl rfl 0 rfl) ?_
          refine .cons (.plain rfl (ok_pickT (.tmp 0 rfl) (.lit))) ?_
          refine .cons (.plain rfl (ok_assign (.tmp 0 rfl))) ?_
          exact .nil
        clear H39 a39 w39 B39
        intro a40 w40 B40 H40
        refine ops_done ?_
        refine then_normal ?_
        refine wp_seq ?_
        refine flow_drawT (dsts := [some 95, some 96, some 97, some 98, some 99, some 100, some 101, some 94, some 102, some 103, some 21, some 22]) (refs := [[.pre 4], [.pre 5, .res 0], [.res 1], [.pre 3], [.pre 5, .res 3], [.res 4], [.res 2, .res 5, .pre 8], [.res 6], [.res 7], [.res 7], [.res 8], [.res 9]]) (outs := [.res 10, .res 11, .pre 0, .pre 1, .pre 2, .pre 3, .pre 4, .pre 5, .pre 6, .pre 7, .pre 8]) (als := [false, false, false, false, false, false, false, false, false, false, false, false]) (posts := [.val (Lit (.int .i64 i)), .ptr 83 24 (A3V (ofV 64 x) (ofV 32 y) (ofV 16 z)) (8 * i.toNat), .val (IsNum (sel3 (ofV 64 x) (ofV 32 y) (ofV 16 z) i.toNat)), .val (Lit (.int .i64 k)), .ptr 83 24 (A3V (ofV 64 x) (ofV 32 y) (ofV 16 z)) (8 * k.toNat), .val (IsNum (sel3 (ofV 64 x) (ofV 32 y) (ofV 16 z) k.toNat)), .val (Tup [Lit (.int .i64 0), IsB true]), .val (Tup [Lit (.int .i64 0), IsB true]), .val (Lit (.int .i64 0)), .val (IsB true), .val (Lit (.int .i64 0)), .val (IsB true)])
          (out := [(21, .val (Lit (.int .i64 0))), (22, .val (IsB true)), (20, .val (IsB true)), (18, .val (Lit (.int .i64 0))), (19, .val (IsB true)), (17, .val (Lit (.int .i64 k))), (16, .val (Lit (.int .i64 i))), (15, .box 83 24 (A3V (ofV 64 x) (ofV 32 y) (ofV 16 z))), (14, .box 82 3 (A3 x ((toW 64 32 y).1) ((toW 64 16 z).1))), (6, .val (IsB false)), (124, .val (EnvV))]) (nb := []) H40 (by kernel_rfl) 12 0 #[true, true, true, true, true, true, true, true, true, true, true, true] (by kernel_rfl) (by kernel_rfl) rfl rfl ?_ ?_
        · refine .cons (.plain rfl (ok_move (.tmp 0 rfl))) ?_
          refine .cons (.plain rfl (ok_idxA3V i.toNat (by omega) (by omega) (.tmp 0 rfl) (.tmp 1 rfl))) ?_
          refine .cons (.plain rfl (ok_loadA3V (by omega) (.tmp 0 rfl))) ?_
          refine .cons (.plain rfl (ok_move (.tmp 0 rfl))) ?_
          refine .cons (.plain rfl (ok_idxA3V k.toNat (by omega) (by omega) (.tmp 0 rfl) (.tmp 1 rfl))) ?_
          refine .cons (.plain rfl (ok_loadA3V (by omega) (.tmp 0 rfl))) ?_
          refine .cons (.plain rfl (ok_callE ((con_ncmp (sel3 (ofV 64 x) (ofV 32 y) (ofV 16 z) i.toNat) (sel3 (ofV 64 x) (ofV 32 y) (ofV 16 z) k.toNat) (hZo _) (hZo _)).weak (fun v w B h => by rw [hZe, hZe, cmp_of _ _ (hPb _) (hPb _), hc] at h; exact h)) 2 rfl (.cons (.tmp 0 rfl) (.cons (.tmp 1 rfl) (.nil))))) ?_
          refine .cons (.plain rfl (ok_move (.tmp 0 rfl))) ?_
          refine .cons (.plain rfl (ok_extract 0 (.tmp 0 rfl) rfl)) ?_
          refine .cons (.plain rfl (ok_extract 1 (.tmp 0 rfl) rfl)) ?_
          refine .cons (.plain rfl (ok_assign (.tmp 0 rfl))) ?_
          refine .cons (.plain rfl (ok_assign (.tmp 0 rfl))) ?_
          exact .nil
        clear H40 a40 w40 B40
        intro a41 w41 B41 H41
        refine any_done (by kernel_rfl) ?_
        refine then_normal ?_
        refine wp_seq ?_
        refine flow_drawT (dsts := [some 104, some 105, some 106, some 107, some 108, some 109, some 110, some 111, some 112, some 113, some 114, some 115, some 116, some 117, some 118, some 119, some 120, some 121, some 122]) (refs := [[.pre 2], [.pre 6], [.pre 7, .res 1], [.res 2], [.pre 5], [.pre 7, .res 4], [.res 5], [.res 3, .res 6], [.res 0, .res 7], [.res 8], [.res 9, .pre 0], [.res 9, .pre 3], [.res 9, .res 10, .res 11], [.res 9, .res 12], [.res 13], [.res 14, .pre 1], [.res 14, .pre 4], [.res 14, .res 15, .res 16], [.res 14, .res 17]]) (outs := [.res 18, .pre 5, .pre 6, .pre 7, .pre 8, .pre 9, .pre 10]) (als := [false, false, false, false, false, false, false, false, false, false, false, false, false, false, false, false, false, false, false]) (posts := [.val (IsB true), .val (Lit (.int .i64 i)), .ptr 83 24 (A3V (ofV 64 x) (ofV 32 y) (ofV 16 z)) (8 * i.toNat), .val (IsNum (sel3 (ofV 64 x) (ofV 32 y) (ofV 16 z) i.toNat)), .val (Lit (.int .i64 k)), .ptr 83 24 (A3V (ofV 64 x) (ofV 32 y) (ofV 16 z)) (8 * k.toNat), .val (IsNum (sel3 (ofV 64 x) (ofV 32 y) (ofV 16 z) k.toNat)), .val (IsB true), .val (IsB false), .val (IsB false), .val (Lit (.int .i64 0)), .val (Lit (.int .i64 0)), .val (IsB false), .val (IsB false), .val (IsB false), .val (IsB true), .val (IsB true), .val (IsB false), .val (IsB false)])
          (out := [(122, .val (IsB false)), (17, .val (Lit (.int .i64 k))), (16, .val (Lit (.int .i64 i))), (15, .box 83 24 (A3V (ofV 64 x) (ofV 32 y) (ofV 16 z))), (14, .box 82 3 (A3 x ((toW 64 32 y).1) ((toW 64 16 z).1))), (6, .val (IsB false)), (124, .val (EnvV))]) (nb := []) H41 (by kernel_rfl) 19 0 #[true, true, true, true, true, true, true, true, true, true, true, true, true, true, true, true, true, true, true] (by kernel_rfl) (by kernel_rfl) rfl rfl ?_ ?_
        · refine .cons (.plain rfl (ok_move (.tmp 0 rfl))) ?_
          refine .cons (.plain rfl (ok_move (.tmp 0 rfl))) ?_
          refine .cons (.plain rfl (ok_idxA3V i.toNat (by omega) (by omega) (.tmp 0 rfl) (.tmp 1 rfl))) ?_
          refine .cons (.plain rfl (ok_loadA3V (by omega) (.tmp 0 rfl))) ?_
          refine .cons (.plain rfl (ok_move (.tmp 0 rfl))) ?_
          refine .cons (.plain rfl (ok_idxA3V k.toNat (by omega) (by omega) (.tmp 0 rfl) (.tmp 1 rfl))) ?_
          refine .cons (.plain rfl (ok_loadA3V (by omega) (.tmp 0 rfl))) ?_
          refine .cons (.plain rfl (ok_call ((con_sameval (sel3 (ofV 64 x) (ofV 32 y) (ofV 16 z) i.toNat) (sel3 (ofV 64 x) (ofV 32 y) (ofV 16 z) k.toNat)).weak (fun v w B h => isB_e (decide_eq_true (by rw [hZe, hZe]; exact hs)) h)) (.cons (.tmp 0 rfl) (.cons (.tmp 1 rfl) (.nil))))) ?_
          refine .cons (.plain rfl (ok_neB (p := true) (q := true) Tryz.underlying4 (.tmp 0 rfl) (.tmp 1 rfl))) ?_
          refine .cons (.plain rfl (ok_move (.tmp 0 rfl))) ?_
          refine .cons (.wanted 9 false rfl rfl rfl 0 rfl (ok_move (.tmp 1 rfl))) ?_
          refine .cons (.wanted 9 false rfl rfl rfl 0 rfl (ok_move (.tmp 1 rfl))) ?_
          refine .cons (.wanted 9 false rfl rfl rfl 0 rfl (ok_cmp (b := false) (.tmp 1 rfl) (.tmp 2 rfl) (by decide))) ?_
          refine .cons (.plain rfl (ok_pickF (.tmp 0 rfl) (.tmp 1 rfl))) ?_
          refine .cons (.plain rfl (ok_move (.tmp 0 rfl))) ?_
          refine .cons (.wanted 14 false rfl rfl rfl 0 rfl (ok_move (.tmp 1 rfl))) ?_
          refine .cons (.wanted 14 false rfl rfl rfl 0 rfl (ok_move (.tmp 1 rfl))) ?_
          refine .cons (.wanted 14 false rfl rfl rfl 0 rfl (ok_neB (p := true) (q := true) Tryz.underlying4 (.tmp 1 rfl) (.tmp 2 rfl))) ?_
          refine .cons (.plain rfl (ok_pickF (.tmp 0 rfl) (.tmp 1 rfl))) ?_
          exact .nil
        clear H41 a41 w41 B41
        intro a42 w42 B42 H42
        refine any_done (by kernel_rfl) ?_
        refine then_normal ?_
        refine f_condF H42 (.tmp 0 rfl) ?_
        refine wp_skip ?_
        refine block_normal ?_
        refine then_normal ?_
        refine flow_region (dsts := [some 65, some 66]) (refs := [[.pre 1], [.res 0]]) (outs := [.res 1, .pre 1, .pre 2, .pre 3, .pre 4, .pre 5, .pre 6]) (als := [false, false]) (posts := [.val (Lit (.int .i64 k)), .val (Lit (.int .i64 (k + 1)))])
          (out := [(66, .val (Lit (.int .i64 (k + 1)))), (17, .val (Lit (.int .i64 k))), (16, .val (Lit (.int .i64 i))), (15, .box 83 24 (A3V (ofV 64 x) (ofV 32 y) (ofV 16 z))), (14, .box 82 3 (A3 x ((toW 64 32 y).1) ((toW 64 16 z).1))), (6, .val (IsB false)), (124, .val (EnvV))]) (nb := []) H42 2 [2] rfl (by kernel_rfl) rfl rfl ?_ ?_
        · refine .cons (.plain rfl (ok_move (.tmp 0 rfl))) ?_
          refine .cons (.plain rfl (ok_add (r := (k + 1)) (.tmp 0 rfl) (.lit) (w_i64 (by omega)))) ?_
          exact .nil
        clear H42 a42 w42 B42
        intro a43 w43 B43 H43
        refine ops_one ?_
        refine tail_op (D := .val (Lit (.int .i64 (k + 1)))) (l' := [(17, .val (Lit (.int .i64 (k + 1)))), (66, .val (Lit (.int .i64 (k + 1)))), (16, .val (Lit (.int .i64 i))), (15, .box 83 24 (A3V (ofV 64 x) (ofV 32 y) (ofV 16 z))), (14, .box 82 3 (A3 x ((toW 64 32 y).1) ((toW 64 16 z).1))), (6, .val (IsB false)), (124, .val (EnvV))]) H43 rfl rfl rfl (.plain rfl (ok_assign (.tmp 0 rfl))) rfl rfl ?_
        clear H43 a43 w43 B43
        intro a44 w44 B44 H44
        refine ops_done ?_
        exact ⟨k + 1, B44, by exact ⟨by omega, by omega⟩, St.pick H44 [0, 2, 3, 4, 5, 6] rfl, by show (3 - (k + 1)).toNat < (3 - k).toNat; omega⟩
      · refine flow_drawT (dsts := [some 68, some 69, some 70, some 71, some 72, some 73, some 74, some 67, some 75, some 76, some 18, some 19]) (refs := [[.pre 2], [.pre 4, .res 0], [.res 1], [.pre 1], [.pre 4, .res 3], [.res 4], [.res 2, .res 5, .pre 6], [.res 6], [.res 7], [.res 7], [.res 8], [.res 9]]) (outs := [.res 10, .res 11, .pre 1, .pre 2, .pre 3, .pre 4, .pre 5, .pre 6]) (als := [false, false, false, false, false, false, false, false, false, false, false, false]) (posts := [.val (Lit (.int .i64 i)), .ptr 82 3 (A3 x ((toW 64 32 y).1) ((toW 64 16 z).1)) (i.toNat), .val (Lit (.int .u64 (sel3 x ((toW 64 32 y).1) ((toW 64 16 z).1) i.toNat))), .val (Lit (.int .i64 k)), .ptr 82 3 (A3 x ((toW 64 32 y).1) ((toW 64 16 z).1)) (k.toNat), .val (Lit (.int .u64 (sel3 x ((toW 64 32 y).1) ((toW 64 16 z).1) k.toNat))), .val (Tup [Lit (.int .i64 n), IsB true]), .val (Tup [Lit (.int .i64 n), IsB true]), .val (Lit (.int .i64 n)), .val (IsB true), .val (Lit (.int .i64 n)), .val (IsB true)])
          (out := [(18, .val (Lit (.int .i64 n))), (19, .val (IsB true)), (17, .val (Lit (.int .i64 k))), (16, .val (Lit (.int .i64 i))), (15, .box 83 24 (A3V (ofV 64 x) (ofV 32 y) (ofV 16 z))), (14, .box 82 3 (A3 x ((toW 64 32 y).1) ((toW 64 16 z).1))), (6, .val (IsB false)), (124, .val (EnvV))]) (nb := []) H19 (by kernel_rfl) 12 0 #[true, true, true, true, true, true, true, true, true, true, true, true] (by kernel_rfl) (by kernel_rfl) rfl rfl ?_ ?_
        · refine .cons (.plain rfl (ok_move (.tmp 0 rfl))) ?_
          refine .cons (.plain rfl (ok_idxA3 i.toNat (by omega) (by omega) (.tmp 0 rfl) (.tmp 1 rfl))) ?_
          refine .cons (.plain rfl (ok_loadA3 (by omega) (.tmp 0 rfl))) ?_
          refine .cons (.plain rfl (ok_move (.tmp 0 rfl))) ?_
          refine .cons (.plain rfl (ok_idxA3 k.toNat (by omega) (by omega) (.tmp 0 rfl) (.tmp 1 rfl))) ?_
          refine .cons (.plain rfl (ok_loadA3 (by omega) (.tmp 0 rfl))) ?_
          refine .cons (.plain rfl (ok_callE ((con_icmp64 (sel3 x (toW 64 32 y).1 (toW 64 16 z).1 i.toNat) (sel3 x (toW 64 32 y).1 (toW 64 16 z).1 k.toNat) (hPb _) (hPb _)).weak (fun v w B h => by rw [hc] at h; exact h)) 2 rfl (.cons (.tmp 0 rfl) (.cons (.tmp 1 rfl) (.nil))))) ?_
          refine .cons (.plain rfl (ok_move (.tmp 0 rfl))) ?_
          refine .cons (.plain rfl (ok_extract 0 (.tmp 0 rfl) rfl)) ?_
          refine .cons (.plain rfl (ok_extract 1 (.tmp 0 rfl) rfl)) ?_
          refine .cons (.plain rfl (ok_assign (.tmp 0 rfl))) ?_
          refine .cons (.plain rfl (ok_assign (.tmp 0 rfl))) ?_
          exact .nil
        clear H19 a19 w19 B19
        intro a45 w45 B45 H45
        refine any_done (by kernel_rfl) ?_
        refine then_normal ?_
        refine wp_seq ?_
        refine flow_region (dsts := [some 77, some 78, some 79, some 80, some 81, some 82, some 83, some 84, some 85, some 86, some 87, some 88, some 89, some 90, some 91, some 92, some 93, some 20]) (refs := [[.pre 1], [.res 0], [.res 1, .pre 0], [.res 1, .res 2], [.res 1, .res 3], [.res 4], [.res 5, .pre 3], [.res 5, .pre 5, .res 6], [.res 5, .res 7], [.res 5, .res 8, .pre 7], [.res 5, .res 9], [.res 10], [.res 10], [.res 10], [.res 10], [.res 5, .res 10], [.res 5, .res 15], [.res 16]]) (outs := [.res 17, .pre 0, .pre 1, .pre 2, .pre 3, .pre 4, .pre 5, .pre 6, .pre 7]) (als := [false, false, false, false, false, false, false, false, false, false, false, false, false, false, false, false, false, false]) (posts := [.val (IsB true), .val (IsB true), .val (Lit (.int .i64 n)), .val (IsB false), .val (IsB false), .val (IsB false), .val (Lit (.int .i64 i)), .ptr 82 3 (A3 x ((toW 64 32 y).1) ((toW 64 16 z).1)) (i.toNat), .val (Lit (.int .u64 (sel3 x ((toW 64 32 y).1) ((toW 64 16 z).1) i.toNat))), .val (IsB false), .val (IsB false), .val (IsUndef), .val (IsUndef), .val (IsUndef), .val (IsUndef), .val (IsB false), .val (IsB false), .val (IsB false)])
          (out := [(20, .val (IsB false)), (18, .val (Lit (.int .i64 n))), (19, .val (IsB true)), (17, .val (Lit (.int .i64 k))), (16, .val (Lit (.int .i64 i))), (15, .box 83 24 (A3V (ofV 64 x) (ofV 32 y) (ofV 16 z))), (14, .box 82 3 (A3 x ((toW 64 32 y).1) ((toW 64 16 z).1))), (6, .val (IsB false)), (124, .val (EnvV))]) (nb := []) H45 18 [] rfl (by kernel_rfl) rfl rfl ?_ ?_
        · refine .cons (.plain rfl (ok_move (.tmp 0 rfl))) ?_
          refine .cons (.plain rfl (ok_move (.tmp 0 rfl))) ?_
          refine .cons (.wanted 1 true rfl rfl rfl 0 rfl (ok_move (.tmp 1 rfl))) ?_
          refine .cons (.wanted 1 true rfl rfl rfl 0 rfl (ok_cmp (b := false) (.tmp 1 rfl) (.lit) ((decide_eq_false (hn)).symm))) ?_
          refine .cons (.plain rfl (ok_pickT (.tmp 0 rfl) (.tmp 1 rfl))) ?_
          refine .cons (.plain rfl (ok_move (.tmp 0 rfl))) ?_
          refine .cons (.wanted 5 false rfl rfl rfl 0 rfl (ok_move (.tmp 1 rfl))) ?_
          refine .cons (.wanted 5 false rfl rfl rfl 0 rfl (ok_idxA3 i.toNat (by omega) (by omega) (.tmp 1 rfl) (.tmp 2 rfl))) ?_
          refine .cons (.wanted 5 false rfl rfl rfl 0 rfl (ok_loadA3 (by omega) (.tmp 1 rfl))) ?_
          refine .cons (.wanted 5 false rfl rfl rfl 0 rfl (ok_callE ((con_nan15 (sel3 x ((toW 64 32 y).1) ((toW 64 16 z).1) i.toNat) (hPb _)).weak (fun v w B h => by rw [n1] at h; exact h)) 2 rfl (.cons (.tmp 1 rfl) (.nil)))) ?_
          refine .cons (.wanted 5 false rfl rfl rfl 0 rfl (ok_move (.tmp 1 rfl))) ?_
          refine .cons (.unwanted 10 true rfl rfl rfl 0 rfl) ?_
          refine .cons (.unwanted 10 true rfl rfl rfl 0 rfl) ?_
          refine .cons (.unwanted 10 true rfl rfl rfl 0 rfl) ?_
          refine .cons (.unwanted 10 true rfl rfl rfl 0 rfl) ?_
          refine .cons (.wanted 5 false rfl rfl rfl 0 rfl (ok_pickF (.tmp 1 rfl) (.lit))) ?_
          refine .cons (.plain rfl (ok_pickF (.tmp 0 rfl) (.tmp 1 rfl))) ?_
          refine .cons (.plain rfl (ok_assign (.tmp 0 rfl))) ?_
          exact .nil
        clear H45 a45 w45 B45
        intro a46 w46 B46 H46
        refine ops_done ?_
        refine then_normal ?_
        refine wp_seq ?_
        refine flow_drawT (dsts := [some 95, some 96, some 97, some 98, some 99, some 100, some 101, some 94, some 102, some 103, some 21, some 22]) (refs := [[.pre 4], [.pre 5, .res 0], [.res 1], [.pre 3], [.pre 5, .res 3], [.res 4], [.res 2, .res 5, .pre 8], [.res 6], [.res 7], [.res 7], [.res 8], [.res 9]]) (outs := [.res 10, .res 11, .pre 0, .pre 1, .pre 2, .pre 3, .pre 4, .pre 5, .pre 6, .pre 7, .pre 8]) (als := [false, false, false, false, false, false, false, false, false, false, false, false]) (posts := [.val (Lit (.int .i64 i)), .ptr 83 24 (A3V (ofV 64 x) (ofV 32 y) (ofV 16 z)) (8 * i.toNat), .val (IsNum (sel3 (ofV 64 x) (ofV 32 y) (ofV 16 z) i.toNat)), .val (Lit (.int .i64 k)), .ptr 83 24 (A3V (ofV 64 x) (ofV 32 y) (ofV 16 z)) (8 * k.toNat), .val (IsNum (sel3 (ofV 64 x) (ofV 32 y) (ofV 16 z) k.toNat)), .val (Tup [Lit (.int .i64 n), IsB true]), .val (Tup [Lit (.int .i64 n), IsB true]), .val (Lit (.int .i64 n)), .val (IsB true), .val (Lit (.int .i64 n)), .val (IsB true)])
          (out := [(21, .val (Lit (.int .i64 n))), (22, .val (IsB true)), (20, .val (IsB false)), (18, .val (Lit (.int .i64 n))), (19, .val (IsB true)), (17, .val (Lit (.int .i64 k))), (16, .val (Lit (.int .i64 i))), (15, .box 83 24 (A3V (ofV 64 x) (ofV 32 y) (ofV 16 z))), (14, .box 82 3 (A3 x ((toW 64 32 y).1) ((toW 64 16 z).1))), (6, .val (IsB false)), (124, .val (EnvV))]) (nb := []) H46 (by kernel_rfl) 12 0 #[true, true, true, true, true, true, true, true, true, true, true, true] (by kernel_rfl) (by kernel_rfl) rfl rfl ?_ ?_
        · refine .cons (.plain rfl (ok_move (.tmp 0 rfl))) ?_
          refine .cons (.plain rfl (ok_idxA3V i.toNat (by omega) (by omega) (.tmp 0 rfl) (.tmp 1 rfl))) ?_
          refine .cons (.plain rfl (ok_loadA3V (by omega) (.tmp 0 rfl))) ?_
          refine .cons (.plain rfl (ok_move (.tmp 0 rfl))) ?_
          refine .cons (.plain rfl (ok_idxA3V k.toNat (by omega) (by omega) (.tmp 0 rfl) (.tmp 1 rfl))) ?_
          refine .cons (.plain rfl (ok_loadA3V (by omega) (.tmp 0 rfl))) ?_
          refine .cons (.plain rfl (ok_callE ((con_ncmp (sel3 (ofV 64 x) (ofV 32 y) (ofV 16 z) i.toNat) (sel3 (ofV 64 x) (ofV 32 y) (ofV 16 z) k.toNat) (hZo _) (hZo _)).weak (fun v w B h => by rw [hZe, hZe, cmp_of _ _ (hPb _) (hPb _), hc] at h; exact h)) 2 rfl (.cons (.tmp 0 rfl) (.cons (.tmp 1 rfl) (.nil))))) ?_
          refine .cons (.plain rfl (ok_move (.tmp 0 rfl))) ?_
          refine .cons (.plain rfl (ok_extract 0 (.tmp 0 rfl) rfl)) ?_
          refine .cons (.plain rfl (ok_extract 1 (.tmp 0 rfl) rfl)) ?_
          refine .cons (.plain rfl (ok_assign (.tmp 0 rfl))) ?_
          refine .cons (.plain rfl (ok_assign (.tmp 0 rfl))) ?_
          exact .nil
        clear H46 a46 w46 B46
        intro a47 w47 B47 H47
        refine any_done (by kernel_rfl) ?_
        refine then_normal ?_
        refine wp_seq ?_
        refine flow_drawT (dsts := [some 104, some 105, some 106, some 107, some 108, some 109, some 110, some 111, some 112, some 113, some 114, some 115, some 116, some 117, some 118, some 119, some 120, some 121, some 122]) (refs := [[.pre 2], [.pre 6], [.pre 7, .res 1], [.res 2], [.pre 5], [.pre 7, .res 4], [.res 5], [.res 3, .res 6], [.res 0, .res 7], [.res 8], [.res 9, .pre 0], [.res 9, .pre 3], [.res 9, .res 10, .res 11], [.res 9, .res 12], [.res 13], [.res 14, .pre 1], [.res 14, .pre 4], [.res 14, .res 15, .res 16], [.res 14, .res 17]]) (outs := [.res 18, .pre 5, .pre 6, .pre 7, .pre 8, .pre 9, .pre 10]) (als := [false, false, false, false, false, false, false, false, false, false, false, false, false, false, false, false, false, false, false]) (posts := [.val (IsB false), .val (Lit (.int .i64 i)), .ptr 83 24 (A3V (ofV 64 x) (ofV 32 y) (ofV 16 z)) (8 * i.toNat), .val (IsNum (sel3 (ofV 64 x) (ofV 32 y) (ofV 16 z) i.toNat)), .val (Lit (.int .i64 k)), .ptr 83 24 (A3V (ofV 64 x) (ofV 32 y) (ofV 16 z)) (8 * k.toNat), .val (IsNum (sel3 (ofV 64 x) (ofV 32 y) (ofV 16 z) k.toNat)), .val (IsB false), .val (IsB false), .val (IsB false), .val (Lit (.int .i64 n)), .val (Lit (.int .i64 n)), .val (IsB false), .val (IsB false), .val (IsB false), .val (IsB true), .val (IsB true), .val (IsB false), .val (IsB false)])
          (out := [(122, .val (IsB false)), (17, .val (Lit (.int .i64 k))), (16, .val (Lit (.int .i64 i))), (15, .box 83 24 (A3V (ofV 64 x) (ofV 32 y) (ofV 16 z))), (14, .box 82 3 (A3 x ((toW 64 32 y).1) ((toW 64 16 z).1))), (6, .val (IsB false)), (124, .val (EnvV))]) (nb := []) H47 (by kernel_rfl) 19 0 #[true, true, true, true, true, true, true, true, true, true, true, true, true, true, true, true, true, true, true] (by kernel_rfl) (by kernel_rfl) rfl rfl ?_ ?_
        · refine .cons (.plain rfl (ok_move (.tmp 0 rfl))) ?_
          refine .cons (.plain rfl (ok_move (.tmp 0 rfl))) ?_
          refine .cons (.plain rfl (ok_idxA3V i.toNat (by omega) (by omega) (.tmp 0 rfl) (.tmp 1 rfl))) ?_
          refine .cons (.plain rfl (ok_loadA3V (by omega) (.tmp 0 rfl))) ?_
          refine .cons (.plain rfl (ok_move (.tmp 0 rfl))) ?_
          refine .cons (.plain rfl (ok_idxA3V k.toNat (by omega) (by omega) (.tmp 0 rfl) (.tmp 1 rfl))) ?_
          refine .cons (.plain rfl (ok_loadA3V (by omega) (.tmp 0 rfl))) ?_
          refine .cons (.plain rfl (ok_call ((con_sameval (sel3 (ofV 64 x) (ofV 32 y) (ofV 16 z) i.toNat) (sel3 (ofV 64 x) (ofV 32 y) (ofV 16 z) k.toNat)).weak (fun v w B h => isB_e (decide_eq_false (by rw [hZe, hZe]; exact hs)) h)) (.cons (.tmp 0 rfl) (.cons (.tmp 1 rfl) (.nil))))) ?_
          refine .cons (.plain rfl (ok_neB (p := false) (q := false) Tryz.underlying4 (.tmp 0 rfl) (.tmp 1 rfl))) ?_
          refine .cons (.plain rfl (ok_move (.tmp 0 rfl))) ?_
          refine .cons (.wanted 9 false rfl rfl rfl 0 rfl (ok_move (.tmp 1 rfl))) ?_
          refine .cons (.wanted 9 false rfl rfl rfl 0 rfl (ok_move (.tmp 1 rfl))) ?_
          refine .cons (.wanted 9 false rfl rfl rfl 0 rfl (ok_cmp (b := false) (.tmp 1 rfl) (.tmp 2 rfl) ((decide_eq_false (fun h => h rfl)).symm))) ?_
          refine .cons (.plain rfl (ok_pickF (.tmp 0 rfl) (.tmp 1 rfl))) ?_
          refine .cons (.plain rfl (ok_move (.tmp 0 rfl))) ?_
          refine .cons (.wanted 14 false rfl rfl rfl 0 rfl (ok_move (.tmp 1 rfl))) ?_
          refine .cons (.wanted 14 false rfl rfl rfl 0 rfl (ok_move (.tmp 1 rfl))) ?_
          refine .cons (.wanted 14 false rfl rfl rfl 0 rfl (ok_neB (p := true) (q := true) Tryz.underlying4 (.tmp 1 rfl) (.tmp 2 rfl))) ?_
          refine .cons (.plain rfl (ok_pickF (.tmp 0 rfl) (.tmp 1 rfl))) ?_
          exact .nil
        clear H47 a47 w47 B47
        intro a48 w48 B48 H48
        refine any_done (by kernel_rfl) ?_
        refine then_normal ?_
        refine f_condF H48 (.tmp 0 rfl) ?_
        refine wp_skip ?_
        refine block_normal ?_
        refine then_normal ?_
        refine flow_region (dsts := [some 65, some 66]) (refs := [[.pre 1], [.res 0]]) (outs := [.res 1, .pre 1, .pre 2, .pre 3, .pre 4, .pre 5, .pre 6]) (als := [false, false]) (posts := [.val (Lit (.int .i64 k)), .val (Lit (.int .i64 (k + 1)))])
          (out := [(66, .val (Lit (.int .i64 (k + 1)))), (17, .val (Lit (.int .i64 k))), (16, .val (Lit (.int .i64 i))), (15, .box 83 24 (A3V (ofV 64 x) (ofV 32 y) (ofV 16 z))), (14, .box 82 3 (A3 x ((toW 64 32 y).1) ((toW 64 16 z).1))), (6, .val (IsB false)), (124, .val (EnvV))]) (nb := []) H48 2 [2] rfl (by kernel_rfl) rfl rfl ?_ ?_
        · refine .cons (.plain rfl (ok_move (.tmp 0 rfl))) ?_
          refine .cons (.plain rfl (ok_add (r := (k + 1)) (.tmp 0 rfl) (.lit) (w_i64 (by omega)))) ?_
          exact .nil
        clear H48 a48 w48 B48
        intro a49 w49 B49 H49
        refine ops_one ?_
        refine tail_op (D := .val (Lit (.int .i64 (k + 1)))) (l' := [(17, .val (Lit (.int .i64 (k + 1)))), (66, .val (Lit (.int .i64 (k + 1)))), (16, .val (Lit (.int .i64 i))), (15, .box 83 24 (A3V (ofV 64 x) (ofV 32 y) (ofV 16 z))), (14, .box 82 3 (A3 x ((toW 64 32 y).1) ((toW 64 16 z).1))), (6, .val (IsB false)), (124, .val (EnvV))]) H49 rfl rfl rfl (.plain rfl (ok_assign (.tmp 0 rfl))) rfl rfl ?_
        clear H49 a49 w49 B49
        intro a50 w50 B50 H50
        refine ops_done ?_
        exact ⟨k + 1, B50, by exact ⟨by omega, by omega⟩, St.pick H50 [0, 2, 3, 4, 5, 6] rfl, by show (3 - (k + 1)).toNat < (3 - k).toNat; omega⟩
    · intro hc20
      replace hc20 := of_decide_eq_false hc20
      refine wp_exit ?_
      refine then_exit ?_
      refine then_exit ?_
      refine block_exit ?_
      refine block_normal ?_
      refine then_normal ?_
      refine flow_region (dsts := [some 61, some 62]) (refs := [[.pre 2], [.res 0]]) (outs := [.res 1, .pre 1, .pre 2, .pre 3, .pre 4, .pre 5, .pre 6]) (als := [false, false]) (posts := [.val (Lit (.int .i64 i)), .val (Lit (.int .i64 (i + 1)))])
        (out := [(62, .val (Lit (.int .i64 (i + 1)))), (17, .val (Lit (.int .i64 k))), (16, .val (Lit (.int .i64 i))), (15, .box 83 24 (A3V (ofV 64 x) (ofV 32 y) (ofV 16 z))), (14, .box 82 3 (A3 x ((toW 64 32 y).1) ((toW 64 16 z).1))), (6, .val (IsB false)), (124, .val (EnvV))]) (nb := []) H19 2 [2] rfl (by kernel_rfl) rfl rfl ?_ ?_
      · refine .cons (.plain rfl (ok_move (.tmp 0 rfl))) ?_
        refine .cons (.plain rfl (ok_add (r := (i + 1)) (.tmp 0 rfl) (.lit) (w_i64 (by omega)))) ?_
        exact .nil
      clear H19 a19 w19 B19
      intro a51 w51 B51 H51
      refine ops_one ?_
      refine tail_op (D := .val (Lit (.int .i64 (i + 1)))) (l' := [(16, .val (Lit (.int .i64 (i + 1)))), (62, .val (Lit (.int .i64 (i + 1)))), (17, .val (Lit (.int .i64 k))), (15, .box 83 24 (A3V (ofV 64 x) (ofV 32 y) (ofV 16 z))), (14, .box 82 3 (A3 x ((toW 64 32 y).1) ((toW 64 16 z).1))), (6, .val (IsB false)), (124, .val (EnvV))]) H51 rfl rfl rfl (.plain rfl (ok_assign (.tmp 0 rfl))) rfl rfl ?_
      clear H51 a51 w51 B51
      intro a52 w52 B52 H52
      refine ops_done ?_
      exact ⟨i + 1, B52, by exact ⟨by omega, by omega⟩, St.pick H52 [0, 3, 4, 5, 6] rfl, by show (3 - (i + 1)).toNat < (3 - i).toNat; omega⟩
  · intro hc16
    replace hc16 := of_decide_eq_false hc16
    refine wp_exit ?_
    refine then_exit ?_
    refine then_exit ?_
    refine block_exit ?_
    refine then_normal ?_
    refine wp_seq ?_
    refine flow_region (dsts := [some 123, some 6]) (refs := [[.pre 5], [.res 0]]) (outs := [.res 1, .pre 1, .pre 2, .pre 3, .pre 5]) (als := [false, false]) (posts := [.val (IsB true), .val (IsB true)])
      (out := [(6, .val (IsB true)), (16, .val (Lit (.int .i64 i))), (15, .box 83 24 (A3V (ofV 64 x) (ofV 32 y) (ofV 16 z))), (14, .box 82 3 (A3 x ((toW 64 32 y).1) ((toW 64 16 z).1))), (124, .val (EnvV))]) (nb := []) H15 2 [] rfl (by kernel_rfl) rfl rfl ?_ ?_
    · refine .cons (.plain rfl (ok_callE (con_lives15) 0 rfl (.nil))) ?_
      refine .cons (.plain rfl (ok_assign (.tmp 0 rfl))) ?_
      exact .nil
    clear H15 a15 w15 B15
    intro a53 w53 B53 H53
    refine ops_done ?_
    refine then_normal ?_
    refine wp_ret ?_
    exact f_ret H53 rfl 0 rfl (fun _ _ _ h => h)
theorem walk_NumberOne (w : World) (hS : Shapes w) (hT : Tab w) (x : Int) (hx : 0 ≤ x ∧ x < 18446744073709551616) (y : Int) (hy : 0 ≤ y ∧ y < 4294967296) (z : Int) (hz : 0 ≤ z ∧ z < 65536) :
    Calls Tryz.prog 10 #[.int .u64 x, .int .u32 y, .int .u16 z] w (fun e w' => e = .returned (.bool true) ∧ Below w.heap.size w w') := by
  refine ((con_NumberOne x hx y hy z hz).calls [.int .u64 x, .int .u32 y, .int .u16 z] w (fun _ => False) (fun _ h => h.elim) ⟨hS, hT, fun h => h⟩ ⟨rfl, rfl, rfl, trivial⟩).mono ?_
  rintro e w' ⟨v, rfl, h, hb⟩
  obtain rfl := h
  exact ⟨rfl, hb⟩
end Go.Proofs.YtoimhjcpeifegaaGreatDoor
