/- The law NumberNarrow: its walk. -/
import Derived.Test.YtoimhjcpeifegaaGreatDoorPk32
set_option linter.unusedVariables false
set_option linter.unusedSimpArgs false
/- WalkNumberNarrow. (Printed by flow15.py.) -/
namespace Go.Proofs.YtoimhjcpeifegaaGreatDoor
open Go Go.RowKit

set_option maxRecDepth 20000 in
set_option maxHeartbeats 4000000 in
theorem con_NumberNarrow (x : Int) (hx : 0 ≤ x ∧ x < 18446744073709551616) : ConE Tryz.prog 6 [Lit (.int .u64 x)] (IsB true) := by
  refine f_enterE (N := 105) Tryz.ntmps6 (fun _ _ => by go_simp) Tryz.func6 rfl (by simp) ?_
  intro a0 w0 B0 H0
  replace H0 : St 105 w0 B0 a0 w0 B0 [(0, .val (Lit (.int .u64 x))), (105, .val (EnvV))] [] := H0
  have hb16 := toW_bd2 (V := 16) w16 64 x
  have hb32 := toW_bd2 (V := 32) w32 64 x
  rw [show (2 : Int) ^ 16 = 65536 from by decide] at hb16
  rw [show (2 : Int) ^ 32 = 4294967296 from by decide] at hb32
  refine wp_seq ?_
  refine flow_region (dsts := [some 2]) (refs := [[]]) (outs := [.res 0, .pre 0, .pre 1]) (als := [false]) (posts := [.val (IsB false)])
    (out := [(2, .val (IsB false)), (0, .val (Lit (.int .u64 x))), (105, .val (EnvV))]) (nb := []) H0 1 [] rfl (by kernel_rfl) rfl rfl ?_ ?_
  · refine .cons (.plain rfl (ok_assign (.lit))) ?_
    exact .nil
  clear H0
  intro a1 w1 B1 H1
  refine ops_done ?_
  refine then_normal ?_
  refine wp_seq ?_
  rcases (nar_cases x hx) with ⟨hn, qz, qp, q16⟩ | ⟨qz, qp, q16⟩ | ⟨hn, qp, q16⟩ | ⟨hn, qp, q16, q32⟩ | ⟨hn, qp, q16, q32⟩
  · refine flow_region (dsts := [some 12, some 13, some 3]) (refs := [[.pre 1], [.res 0, .pre 2], []]) (outs := [.res 1, .res 2, .pre 0, .pre 1, .pre 2]) (als := [false, false, true]) (posts := [.val (Lit (.int .u64 x)), .val (IsNum (ofV 64 x)), .box 37 8 (IsVal 0 0 (IsI 0) 0 0 (⟨#[]⟩) (K0))])
      (out := [(13, .val (IsNum (ofV 64 x))), (3, .box 37 8 (IsVal 0 0 (IsI 0) 0 0 (⟨#[]⟩) (K0))), (2, .val (IsB false)), (0, .val (Lit (.int .u64 x))), (105, .val (EnvV))]) (nb := [3]) H1 3 [3] rfl (by kernel_rfl) rfl rfl ?_ ?_
    · refine .cons (.plain rfl (ok_move (.tmp 0 rfl))) ?_
      refine .cons (.plain rfl (ok_callE (con_of64 x hx) 1 rfl (.cons (.tmp 0 rfl) (.nil)))) ?_
      refine .cons (.plain rfl (ok_allocV)) ?_
      exact .nil
    clear H1 a1 w1 B1
    intro a2 w2 B2 H2
    simp only [List.cons_append, List.nil_append] at H2
    refine ops_one ?_
    refine store_op (l' := [(13, .val (IsNum (ofV 64 x))), (3, .box 37 8 (IsNum (ofV 64 x))), (2, .val (IsB false)), (0, .val (Lit (.int .u64 x))), (105, .val (EnvV))]) 1 H2 rfl tyV rfl (.tmp 0 rfl) (shape_Val shape_I oneK0) shape_Num rfl rfl ?_
    clear H2 w2
    intro w3 H3
    refine ops_done ?_
    refine then_normal ?_
    refine wp_seq ?_
    have hz2 : okNV (.flt 9221120237041090560) := qz ▸ ok_of w64 x (by rw [show (2 : Int) ^ 64 = 18446744073709551616 from by decide]; exact hx)
    rw [qz] at qp
    have H4 := St.setwB H3 1 (D' := IsNum (.flt 9221120237041090560)) rfl (fun v h => num_eq qz h) (l' := [(13, .val (IsNum (ofV 64 x))), (3, .box 37 8 (IsNum (.flt 9221120237041090560))), (2, .val (IsB false)), (0, .val (Lit (.int .u64 x))), (105, .val (EnvV))]) rfl
    clear H3
    refine flow_region (dsts := [some 15, some 16, some 14, some 17, some 18, some 19, some 4, some 5, some 6]) (refs := [[.pre 1], [.res 0, .pre 4], [.res 1], [.res 2], [.res 2], [.res 2], [.res 3], [.res 4], [.res 5]]) (outs := [.res 6, .res 7, .res 8, .pre 1, .pre 2, .pre 3, .pre 4]) (als := [false, false, false, false, false, false, false, false, false]) (posts := [.val (IsNum (.flt 9221120237041090560)), .val (Tup [Lit (.int .i64 16), Lit (.int .u64 32256), IsB true]), .val (Tup [Lit (.int .i64 16), Lit (.int .u64 32256), IsB true]), .val (Lit (.int .i64 16)), .val (Lit (.int .u64 32256)), .val (IsB true), .val (Lit (.int .i64 16)), .val (Lit (.int .u64 32256)), .val (IsB true)])
      (out := [(4, .val (Lit (.int .i64 16))), (5, .val (Lit (.int .u64 32256))), (6, .val (IsB true)), (3, .box 37 8 (IsNum (.flt 9221120237041090560))), (2, .val (IsB false)), (0, .val (Lit (.int .u64 x))), (105, .val (EnvV))]) (nb := []) H4 9 [] rfl (by kernel_rfl) rfl rfl ?_ ?_
    · refine .cons (.plain rfl (ok_load tyV (.tmp 0 rfl))) ?_
      refine .cons (.plain rfl (ok_callE ((con_narrow (.flt 9221120237041090560) hz2).weak (fun v w B h => by rw [qp] at h; exact h)) 1 rfl (.cons (.tmp 0 rfl) (.nil)))) ?_
      refine .cons (.plain rfl (ok_move (.tmp 0 rfl))) ?_
      refine .cons (.plain rfl (ok_extract 0 (.tmp 0 rfl) rfl)) ?_
      refine .cons (.plain rfl (ok_extract 1 (.tmp 0 rfl) rfl)) ?_
      refine .cons (.plain rfl (ok_extract 2 (.tmp 0 rfl) rfl)) ?_
      refine .cons (.plain rfl (ok_assign (.tmp 0 rfl))) ?_
      refine .cons (.plain rfl (ok_assign (.tmp 0 rfl))) ?_
      refine .cons (.plain rfl (ok_assign (.tmp 0 rfl))) ?_
      exact .nil
    clear H4 a2 w3 B2
    intro a5 w5 B5 H5
    refine ops_done ?_
    refine then_normal ?_
    refine wp_seq ?_
    refine wp_seq ?_
    refine flow_region (dsts := [some 20, some 21]) (refs := [[.pre 2], [.res 0]]) (outs := [.res 1, .pre 0, .pre 1, .pre 3, .pre 4, .pre 5, .pre 6]) (als := [false, false]) (posts := [.val (IsB true), .val (IsB false)])
      (out := [(21, .val (IsB false)), (4, .val (Lit (.int .i64 16))), (5, .val (Lit (.int .u64 32256))), (3, .box 37 8 (IsNum (.flt 9221120237041090560))), (2, .val (IsB false)), (0, .val (Lit (.int .u64 x))), (105, .val (EnvV))]) (nb := []) H5 2 [] rfl (by kernel_rfl) rfl rfl ?_ ?_
    · refine .cons (.plain rfl (ok_move (.tmp 0 rfl))) ?_
      refine .cons (.plain rfl (ok_not (b := true) (.tmp 0 rfl))) ?_
      exact .nil
    clear H5 a5 w5 B5
    intro a6 w6 B6 H6
    refine ops_done ?_
    refine then_normal ?_
    refine f_condF H6 (.tmp 0 rfl) ?_
    refine wp_skip ?_
    refine then_normal ?_
    refine wp_seq ?_
    refine flow_region (dsts := [some 23, some 24, some 22, some 25, some 26, some 7, some 8]) (refs := [[.pre 5], [.res 0, .pre 6], [.res 1], [.res 2], [.res 2], [.res 3], [.res 4]]) (outs := [.res 5, .res 6, .pre 1, .pre 2, .pre 3, .pre 4, .pre 5, .pre 6]) (als := [false, false, false, false, false, false, false]) (posts := [.val (Lit (.int .u64 x)), .val (Tup [Lit (.int .u16 ((toW 16 64 x).1)), IsB true]), .val (Tup [Lit (.int .u16 ((toW 16 64 x).1)), IsB true]), .val (Lit (.int .u16 ((toW 16 64 x).1))), .val (IsB true), .val (Lit (.int .u16 ((toW 16 64 x).1))), .val (IsB true)])
      (out := [(7, .val (Lit (.int .u16 ((toW 16 64 x).1)))), (8, .val (IsB true)), (4, .val (Lit (.int .i64 16))), (5, .val (Lit (.int .u64 32256))), (3, .box 37 8 (IsNum (.flt 9221120237041090560))), (2, .val (IsB false)), (0, .val (Lit (.int .u64 x))), (105, .val (EnvV))]) (nb := []) H6 7 [] rfl (by kernel_rfl) rfl rfl ?_ ?_
    · refine .cons (.plain rfl (ok_move (.tmp 0 rfl))) ?_
      refine .cons (.plain rfl (ok_callE ((con_to1664 x hx).weak (fun v w B h => by rw [q16] at h; exact h)) 1 rfl (.cons (.tmp 0 rfl) (.nil)))) ?_
      refine .cons (.plain rfl (ok_move (.tmp 0 rfl))) ?_
      refine .cons (.plain rfl (ok_extract 0 (.tmp 0 rfl) rfl)) ?_
      refine .cons (.plain rfl (ok_extract 1 (.tmp 0 rfl) rfl)) ?_
      refine .cons (.plain rfl (ok_assign (.tmp 0 rfl))) ?_
      refine .cons (.plain rfl (ok_assign (.tmp 0 rfl))) ?_
      exact .nil
    clear H6 a6 w6 B6
    intro a7 w7 B7 H7
    refine ops_done ?_
    refine then_normal ?_
    refine wp_seq ?_
    refine flow_region (dsts := [some 28, some 29, some 27, some 30, some 31, some 9, some 10]) (refs := [[.pre 6], [.res 0, .pre 7], [.res 1], [.res 2], [.res 2], [.res 3], [.res 4]]) (outs := [.res 5, .res 6, .pre 0, .pre 1, .pre 2, .pre 3, .pre 4, .pre 5, .pre 6, .pre 7]) (als := [false, false, false, false, false, false, false]) (posts := [.val (Lit (.int .u64 x)), .val (Tup [Lit (.int .u32 ((toW 32 64 x).1)), IsB ((toW 32 64 x).2)]), .val (Tup [Lit (.int .u32 ((toW 32 64 x).1)), IsB ((toW 32 64 x).2)]), .val (Lit (.int .u32 ((toW 32 64 x).1))), .val (IsB ((toW 32 64 x).2)), .val (Lit (.int .u32 ((toW 32 64 x).1))), .val (IsB ((toW 32 64 x).2))])
      (out := [(9, .val (Lit (.int .u32 ((toW 32 64 x).1)))), (10, .val (IsB ((toW 32 64 x).2))), (7, .val (Lit (.int .u16 ((toW 16 64 x).1)))), (8, .val (IsB true)), (4, .val (Lit (.int .i64 16))), (5, .val (Lit (.int .u64 32256))), (3, .box 37 8 (IsNum (.flt 9221120237041090560))), (2, .val (IsB false)), (0, .val (Lit (.int .u64 x))), (105, .val (EnvV))]) (nb := []) H7 7 [] rfl (by kernel_rfl) rfl rfl ?_ ?_
    · refine .cons (.plain rfl (ok_move (.tmp 0 rfl))) ?_
      refine .cons (.plain rfl (ok_callE (con_to3264 x hx) 1 rfl (.cons (.tmp 0 rfl) (.nil)))) ?_
      refine .cons (.plain rfl (ok_move (.tmp 0 rfl))) ?_
      refine .cons (.plain rfl (ok_extract 0 (.tmp 0 rfl) rfl)) ?_
      refine .cons (.plain rfl (ok_extract 1 (.tmp 0 rfl) rfl)) ?_
      refine .cons (.plain rfl (ok_assign (.tmp 0 rfl))) ?_
      refine .cons (.plain rfl (ok_assign (.tmp 0 rfl))) ?_
      exact .nil
    clear H7 a7 w7 B7
    intro a8 w8 B8 H8
    refine ops_done ?_
    refine then_normal ?_
    refine wp_seq ?_
    refine flow_region (dsts := [some 32, some 33, some 34, some 35, some 36, some 37, some 38, some 39, some 40, some 41, some 11]) (refs := [[.pre 6], [.res 0], [.res 1], [.res 2], [.res 3], [.res 3], [.res 3], [.res 3], [.res 3], [.res 3], [.res 9]]) (outs := [.res 10, .pre 0, .pre 1, .pre 2, .pre 3, .pre 4, .pre 5, .pre 7, .pre 8, .pre 9]) (als := [false, false, false, false, false, false, false, false, false, false, false]) (posts := [.ptr 37 8 (IsNum (.flt 9221120237041090560)) 0, .val (Lit (.int .i8 4)), .val (IsB false), .val (IsB false), .val (IsUndef), .val (IsUndef), .val (IsUndef), .val (IsUndef), .val (IsUndef), .val (IsB false), .val (IsB false)])
      (out := [(11, .val (IsB false)), (9, .val (Lit (.int .u32 ((toW 32 64 x).1)))), (10, .val (IsB ((toW 32 64 x).2))), (7, .val (Lit (.int .u16 ((toW 16 64 x).1)))), (8, .val (IsB true)), (4, .val (Lit (.int .i64 16))), (5, .val (Lit (.int .u64 32256))), (2, .val (IsB false)), (0, .val (Lit (.int .u64 x))), (105, .val (EnvV))]) (nb := []) H8 11 [] rfl (by kernel_rfl) rfl rfl ?_ ?_
    · refine .cons (.plain rfl (ok_addrV0 (.tmp 0 rfl))) ?_
      refine .cons (.plain rfl (ok_loadV0 (.tmp 0 rfl))) ?_
      refine .cons (.plain rfl (ok_cmp (b := false) (.tmp 0 rfl) (.lit) (by decide))) ?_
      refine .cons (.plain rfl (ok_move (.tmp 0 rfl))) ?_
      refine .cons (.unwanted 3 true rfl rfl rfl 0 rfl) ?_
      refine .cons (.unwanted 3 true rfl rfl rfl 0 rfl) ?_
      refine .cons (.unwanted 3 true rfl rfl rfl 0 rfl) ?_
      refine .cons (.unwanted 3 true rfl rfl rfl 0 rfl) ?_
      refine .cons (.unwanted 3 true rfl rfl rfl 0 rfl) ?_
      refine .cons (.plain rfl (ok_pickF (.tmp 0 rfl) (.lit))) ?_
      refine .cons (.plain rfl (ok_assign (.tmp 0 rfl))) ?_
      exact .nil
    clear H8 a8 w8 B8
    intro a9 w9 B9 H9
    refine ops_done ?_
    refine then_normal ?_
    refine wp_seq ?_
    refine wp_block ?_
    refine wp_seq ?_
    refine flow_region (dsts := [some 43, some 44, some 42]) (refs := [[.pre 5], [.res 0], [.res 1]]) (outs := [.res 2, .pre 0, .pre 1, .pre 2, .pre 3, .pre 4, .pre 5, .pre 6, .pre 7, .pre 8, .pre 9]) (als := [false, false, false]) (posts := [.val (Lit (.int .i64 16)), .val (IsB true), .val (IsB true)])
      (out := [(42, .val (IsB true)), (11, .val (IsB false)), (9, .val (Lit (.int .u32 ((toW 32 64 x).1)))), (10, .val (IsB ((toW 32 64 x).2))), (7, .val (Lit (.int .u16 ((toW 16 64 x).1)))), (8, .val (IsB true)), (4, .val (Lit (.int .i64 16))), (5, .val (Lit (.int .u64 32256))), (2, .val (IsB false)), (0, .val (Lit (.int .u64 x))), (105, .val (EnvV))]) (nb := []) H9 3 [] rfl (by kernel_rfl) rfl rfl ?_ ?_
    · refine .cons (.plain rfl (ok_move (.tmp 0 rfl))) ?_
      refine .cons (.plain rfl (ok_cmp (b := true) (.tmp 0 rfl) (.lit) (by decide))) ?_
      refine .cons (.plain rfl (ok_assign (.tmp 0 rfl))) ?_
      exact .nil
    clear H9 a9 w9 B9
    intro a10 w10 B10 H10
    refine ops_done ?_
    refine then_normal ?_
    refine f_condT H10 (.tmp 0 rfl) ?_
    refine wp_seq ?_
    refine flow_region (dsts := [some 45, some 46, some 47, some 48, some 49, some 50, some 51, some 52, some 53, some 54, some 55, some 56, some 57, some 58, some 59, some 60, some 61, some 62, some 63, some 64, some 65, some 66, some 67, some 68, some 69, some 2]) (refs := [[.pre 1], [.res 0], [.res 1], [.res 1], [.res 1], [.res 4], [.res 5, .pre 9], [.res 5, .res 6, .pre 10], [.res 5, .res 7], [.res 8, .pre 7], [.res 8, .res 9], [.res 5, .res 8, .res 10], [.res 5, .res 11], [.res 12], [.res 13], [.res 13], [.res 13], [.res 13], [.res 13], [.res 18], [.res 19, .pre 5], [.res 19, .res 20], [.res 21], [.res 22, .pre 10], [.res 22, .res 23], [.res 24]]) (outs := [.res 25, .pre 2, .pre 3, .pre 5, .pre 6, .pre 7, .pre 9, .pre 10]) (als := [false, false, false, false, false, false, false, false, false, false, false, false, false, false, false, false, false, false, false, false, false, false, false, false, false, false]) (posts := [.val (IsB false), .val (IsB false), .val (IsUndef), .val (IsUndef), .val (IsB false), .val (IsB false), .val (Lit (.int .u64 x)), .val (IsB true), .val (IsB true), .val (Lit (.int .u64 32256)), .val (IsB true), .val (IsB true), .val (IsB true), .val (IsB true), .val (IsUndef), .val (IsUndef), .val (IsUndef), .val (IsUndef), .val (IsB true), .val (IsB true), .val (IsB true), .val (IsB true), .val (IsB true), .val (IsB true), .val (IsB true), .val (IsB true)])
      (out := [(2, .val (IsB true)), (9, .val (Lit (.int .u32 ((toW 32 64 x).1)))), (10, .val (IsB ((toW 32 64 x).2))), (8, .val (IsB true)), (4, .val (Lit (.int .i64 16))), (5, .val (Lit (.int .u64 32256))), (0, .val (Lit (.int .u64 x))), (105, .val (EnvV))]) (nb := []) H10 26 [] rfl (by kernel_rfl) rfl rfl ?_ ?_
    · refine .cons (.plain rfl (ok_move (.tmp 0 rfl))) ?_
      refine .cons (.plain rfl (ok_move (.tmp 0 rfl))) ?_
      refine .cons (.unwanted 1 true rfl rfl rfl 0 rfl) ?_
      refine .cons (.unwanted 1 true rfl rfl rfl 0 rfl) ?_
      refine .cons (.plain rfl (ok_pickF (.tmp 0 rfl) (.lit))) ?_
      refine .cons (.plain rfl (ok_move (.tmp 0 rfl))) ?_
      refine .cons (.wanted 5 false rfl rfl rfl 0 rfl (ok_move (.tmp 1 rfl))) ?_
      refine .cons (.wanted 5 false rfl rfl rfl 0 rfl (ok_callE ((con_nan15 x hx).weak (fun v w B h => by rw [hn] at h; exact h)) 2 rfl (.cons (.tmp 1 rfl) (.nil)))) ?_
      refine .cons (.wanted 5 false rfl rfl rfl 0 rfl (ok_move (.tmp 1 rfl))) ?_
      refine .cons (.wanted 8 true rfl rfl rfl 0 rfl (ok_move (.tmp 1 rfl))) ?_
      refine .cons (.wanted 8 true rfl rfl rfl 0 rfl (ok_cmp (b := true) (.tmp 1 rfl) (.lit) (by decide))) ?_
      refine .cons (.wanted 5 false rfl rfl rfl 0 rfl (ok_pickT (.tmp 1 rfl) (.tmp 2 rfl))) ?_
      refine .cons (.plain rfl (ok_pickF (.tmp 0 rfl) (.tmp 1 rfl))) ?_
      refine .cons (.plain rfl (ok_move (.tmp 0 rfl))) ?_
      refine .cons (.unwanted 13 false rfl rfl rfl 0 rfl) ?_
      refine .cons (.unwanted 13 false rfl rfl rfl 0 rfl) ?_
      refine .cons (.unwanted 13 false rfl rfl rfl 0 rfl) ?_
      refine .cons (.unwanted 13 false rfl rfl rfl 0 rfl) ?_
      refine .cons (.plain rfl (ok_pickT (.tmp 0 rfl) (.lit))) ?_
      refine .cons (.plain rfl (ok_move (.tmp 0 rfl))) ?_
      refine .cons (.wanted 19 true rfl rfl rfl 0 rfl (ok_move (.tmp 1 rfl))) ?_
      refine .cons (.plain rfl (ok_pickT (.tmp 0 rfl) (.tmp 1 rfl))) ?_
      refine .cons (.plain rfl (ok_move (.tmp 0 rfl))) ?_
      refine .cons (.wanted 22 true rfl rfl rfl 0 rfl (ok_callE (con_lives15) 1 rfl (.nil))) ?_
      refine .cons (.plain rfl (ok_pickT (.tmp 0 rfl) (.tmp 1 rfl))) ?_
      refine .cons (.plain rfl (ok_assign (.tmp 0 rfl))) ?_
      exact .nil
    clear H10 a10 w10 B10
    intro a11 w11 B11 H11
    refine ops_done ?_
    refine then_normal ?_
    refine wp_ret ?_
    refine block_ret ?_
    refine then_ret ?_
    exact f_ret H11 rfl 0 rfl (fun _ _ _ h => h)
  · refine flow_region (dsts := [some 12, some 13, some 3]) (refs := [[.pre 1], [.res 0, .pre 2], []]) (outs := [.res 1, .res 2, .pre 0, .pre 1, .pre 2]) (als := [false, false, true]) (posts := [.val (Lit (.int .u64 x)), .val (IsNum (ofV 64 x)), .box 37 8 (IsVal 0 0 (IsI 0) 0 0 (⟨#[]⟩) (K0))])
      (out := [(13, .val (IsNum (ofV 64 x))), (3, .box 37 8 (IsVal 0 0 (IsI 0) 0 0 (⟨#[]⟩) (K0))), (2, .val (IsB false)), (0, .val (Lit (.int .u64 x))), (105, .val (EnvV))]) (nb := [3]) H1 3 [3] rfl (by kernel_rfl) rfl rfl ?_ ?_
    · refine .cons (.plain rfl (ok_move (.tmp 0 rfl))) ?_
      refine .cons (.plain rfl (ok_callE (con_of64 x hx) 1 rfl (.cons (.tmp 0 rfl) (.nil)))) ?_
      refine .cons (.plain rfl (ok_allocV)) ?_
      exact .nil
    clear H1 a1 w1 B1
    intro a12 w12 B12 H12
    simp only [List.cons_append, List.nil_append] at H12
    refine ops_one ?_
    refine store_op (l' := [(13, .val (IsNum (ofV 64 x))), (3, .box 37 8 (IsNum (ofV 64 x))), (2, .val (IsB false)), (0, .val (Lit (.int .u64 x))), (105, .val (EnvV))]) 1 H12 rfl tyV rfl (.tmp 0 rfl) (shape_Val shape_I oneK0) shape_Num rfl rfl ?_
    clear H12 w12
    intro w13 H13
    refine ops_done ?_
    refine then_normal ?_
    refine wp_seq ?_
    rw [qz] at qp
    have H14 := St.setwB H13 1 (D' := IsNum (.int 0)) rfl (fun v h => num_eq qz h) (l' := [(13, .val (IsNum (ofV 64 x))), (3, .box 37 8 (IsNum (.int 0))), (2, .val (IsB false)), (0, .val (Lit (.int .u64 x))), (105, .val (EnvV))]) rfl
    clear H13
    refine flow_region (dsts := [some 15, some 16, some 14, some 17, some 18, some 19, some 4, some 5, some 6]) (refs := [[.pre 1], [.res 0, .pre 4], [.res 1], [.res 2], [.res 2], [.res 2], [.res 3], [.res 4], [.res 5]]) (outs := [.res 6, .res 7, .res 8, .pre 1, .pre 2, .pre 3, .pre 4]) (als := [false, false, false, false, false, false, false, false, false]) (posts := [.val (IsNum (.int 0)), .val (Tup [Lit (.int .i64 16), Lit (.int .u64 0), IsB true]), .val (Tup [Lit (.int .i64 16), Lit (.int .u64 0), IsB true]), .val (Lit (.int .i64 16)), .val (Lit (.int .u64 0)), .val (IsB true), .val (Lit (.int .i64 16)), .val (Lit (.int .u64 0)), .val (IsB true)])
      (out := [(4, .val (Lit (.int .i64 16))), (5, .val (Lit (.int .u64 0))), (6, .val (IsB true)), (3, .box 37 8 (IsNum (.int 0))), (2, .val (IsB false)), (0, .val (Lit (.int .u64 x))), (105, .val (EnvV))]) (nb := []) H14 9 [] rfl (by kernel_rfl) rfl rfl ?_ ?_
    · refine .cons (.plain rfl (ok_load tyV (.tmp 0 rfl))) ?_
      refine .cons (.plain rfl (ok_callE ((con_narrow (.int 0) trivial).weak (fun v w B h => by rw [qp] at h; exact h)) 1 rfl (.cons (.tmp 0 rfl) (.nil)))) ?_
      refine .cons (.plain rfl (ok_move (.tmp 0 rfl))) ?_
      refine .cons (.plain rfl (ok_extract 0 (.tmp 0 rfl) rfl)) ?_
      refine .cons (.plain rfl (ok_extract 1 (.tmp 0 rfl) rfl)) ?_
      refine .cons (.plain rfl (ok_extract 2 (.tmp 0 rfl) rfl)) ?_
      refine .cons (.plain rfl (ok_assign (.tmp 0 rfl))) ?_
      refine .cons (.plain rfl (ok_assign (.tmp 0 rfl))) ?_
      refine .cons (.plain rfl (ok_assign (.tmp 0 rfl))) ?_
      exact .nil
    clear H14 a12 w13 B12
    intro a15 w15 B15 H15
    refine ops_done ?_
    refine then_normal ?_
    refine wp_seq ?_
    refine wp_seq ?_
    refine flow_region (dsts := [some 20, some 21]) (refs := [[.pre 2], [.res 0]]) (outs := [.res 1, .pre 0, .pre 1, .pre 3, .pre 4, .pre 5, .pre 6]) (als := [false, false]) (posts := [.val (IsB true), .val (IsB false)])
      (out := [(21, .val (IsB false)), (4, .val (Lit (.int .i64 16))), (5, .val (Lit (.int .u64 0))), (3, .box 37 8 (IsNum (.int 0))), (2, .val (IsB false)), (0, .val (Lit (.int .u64 x))), (105, .val (EnvV))]) (nb := []) H15 2 [] rfl (by kernel_rfl) rfl rfl ?_ ?_
    · refine .cons (.plain rfl (ok_move (.tmp 0 rfl))) ?_
      refine .cons (.plain rfl (ok_not (b := true) (.tmp 0 rfl))) ?_
      exact .nil
    clear H15 a15 w15 B15
    intro a16 w16 B16 H16
    refine ops_done ?_
    refine then_normal ?_
    refine f_condF H16 (.tmp 0 rfl) ?_
    refine wp_skip ?_
    refine then_normal ?_
    refine wp_seq ?_
    refine flow_region (dsts := [some 23, some 24, some 22, some 25, some 26, some 7, some 8]) (refs := [[.pre 5], [.res 0, .pre 6], [.res 1], [.res 2], [.res 2], [.res 3], [.res 4]]) (outs := [.res 5, .res 6, .pre 1, .pre 2, .pre 3, .pre 4, .pre 5, .pre 6]) (als := [false, false, false, false, false, false, false]) (posts := [.val (Lit (.int .u64 x)), .val (Tup [Lit (.int .u16 ((toW 16 64 x).1)), IsB true]), .val (Tup [Lit (.int .u16 ((toW 16 64 x).1)), IsB true]), .val (Lit (.int .u16 ((toW 16 64 x).1))), .val (IsB true), .val (Lit (.int .u16 ((toW 16 64 x).1))), .val (IsB true)])
      (out := [(7, .val (Lit (.int .u16 ((toW 16 64 x).1)))), (8, .val (IsB true)), (4, .val (Lit (.int .i64 16))), (5, .val (Lit (.int .u64 0))), (3, .box 37 8 (IsNum (.int 0))), (2, .val (IsB false)), (0, .val (Lit (.int .u64 x))), (105, .val (EnvV))]) (nb := []) H16 7 [] rfl (by kernel_rfl) rfl rfl ?_ ?_
    · refine .cons (.plain rfl (ok_move (.tmp 0 rfl))) ?_
      refine .cons (.plain rfl (ok_callE ((con_to1664 x hx).weak (fun v w B h => by rw [q16] at h; exact h)) 1 rfl (.cons (.tmp 0 rfl) (.nil)))) ?_
      refine .cons (.plain rfl (ok_move (.tmp 0 rfl))) ?_
      refine .cons (.plain rfl (ok_extract 0 (.tmp 0 rfl) rfl)) ?_
      refine .cons (.plain rfl (ok_extract 1 (.tmp 0 rfl) rfl)) ?_
      refine .cons (.plain rfl (ok_assign (.tmp 0 rfl))) ?_
      refine .cons (.plain rfl (ok_assign (.tmp 0 rfl))) ?_
      exact .nil
    clear H16 a16 w16 B16
    intro a17 w17 B17 H17
    refine ops_done ?_
    refine then_normal ?_
    refine wp_seq ?_
    refine flow_region (dsts := [some 28, some 29, some 27, some 30, some 31, some 9, some 10]) (refs := [[.pre 6], [.res 0, .pre 7], [.res 1], [.res 2], [.res 2], [.res 3], [.res 4]]) (outs := [.res 5, .res 6, .pre 0, .pre 1, .pre 2, .pre 3, .pre 4, .pre 5, .pre 6, .pre 7]) (als := [false, false, false, false, false, false, false]) (posts := [.val (Lit (.int .u64 x)), .val (Tup [Lit (.int .u32 ((toW 32 64 x).1)), IsB ((toW 32 64 x).2)]), .val (Tup [Lit (.int .u32 ((toW 32 64 x).1)), IsB ((toW 32 64 x).2)]), .val (Lit (.int .u32 ((toW 32 64 x).1))), .val (IsB ((toW 32 64 x).2)), .val (Lit (.int .u32 ((toW 32 64 x).1))), .val (IsB ((toW 32 64 x).2))])
      (out := [(9, .val (Lit (.int .u32 ((toW 32 64 x).1)))), (10, .val (IsB ((toW 32 64 x).2))), (7, .val (Lit (.int .u16 ((toW 16 64 x).1)))), (8, .val (IsB true)), (4, .val (Lit (.int .i64 16))), (5, .val (Lit (.int .u64 0))), (3, .box 37 8 (IsNum (.int 0))), (2, .val (IsB false)), (0, .val (Lit (.int .u64 x))), (105, .val (EnvV))]) (nb := []) H17 7 [] rfl (by kernel_rfl) rfl rfl ?_ ?_
    · refine .cons (.plain rfl (ok_move (.tmp 0 rfl))) ?_
      refine .cons (.plain rfl (ok_callE (con_to3264 x hx) 1 rfl (.cons (.tmp 0 rfl) (.nil)))) ?_
      refine .cons (.plain rfl (ok_move (.tmp 0 rfl))) ?_
      refine .cons (.plain rfl (ok_extract 0 (.tmp 0 rfl) rfl)) ?_
      refine .cons (.plain rfl (ok_extract 1 (.tmp 0 rfl) rfl)) ?_
      refine .cons (.plain rfl (ok_assign (.tmp 0 rfl))) ?_
      refine .cons (.plain rfl (ok_assign (.tmp 0 rfl))) ?_
      exact .nil
    clear H17 a17 w17 B17
    intro a18 w18 B18 H18
    refine ops_done ?_
    refine then_normal ?_
    refine wp_seq ?_
    refine flow_region (dsts := [some 32, some 33, some 34, some 35, some 36, some 37, some 38, some 39, some 40, some 41, some 11]) (refs := [[.pre 6], [.res 0], [.res 1], [.res 2], [.res 3, .pre 6], [.res 3, .res 4], [.res 3, .res 5], [.res 3, .res 6], [.res 3, .res 7], [.res 3, .res 8], [.res 9]]) (outs := [.res 10, .pre 0, .pre 1, .pre 2, .pre 3, .pre 4, .pre 5, .pre 7, .pre 8, .pre 9]) (als := [false, false, false, false, false, false, false, false, false, false, false]) (posts := [.ptr 37 8 (IsNum (.int 0)) 0, .val (Lit (.int .i8 3)), .val (IsB true), .val (IsB true), .ptr 37 8 (IsNum (.int 0)) 2, .ptr 37 8 (IsNum (.int 0)) 3, .val (IsC ((0 : Int).natAbs : Int)), .val (Lit (.int .i64 ((dg 4294967296 ((0 : Int).natAbs : Int)).length : Int))), .val (IsB true), .val (IsB true), .val (IsB true)])
      (out := [(11, .val (IsB true)), (9, .val (Lit (.int .u32 ((toW 32 64 x).1)))), (10, .val (IsB ((toW 32 64 x).2))), (7, .val (Lit (.int .u16 ((toW 16 64 x).1)))), (8, .val (IsB true)), (4, .val (Lit (.int .i64 16))), (5, .val (Lit (.int .u64 0))), (2, .val (IsB false)), (0, .val (Lit (.int .u64 x))), (105, .val (EnvV))]) (nb := []) H18 11 [] rfl (by kernel_rfl) rfl rfl ?_ ?_
    · refine .cons (.plain rfl (ok_addrV0 (.tmp 0 rfl))) ?_
      refine .cons (.plain rfl (ok_loadV0 (.tmp 0 rfl))) ?_
      refine .cons (.plain rfl (ok_cmp (b := true) (.tmp 0 rfl) (.lit) (by decide))) ?_
      refine .cons (.plain rfl (ok_move (.tmp 0 rfl))) ?_
      refine .cons (.wanted 3 true rfl rfl rfl 0 rfl (ok_addrV2 (.tmp 1 rfl))) ?_
      refine .cons (.wanted 3 true rfl rfl rfl 0 rfl (ok_addrVI1 (.tmp 1 rfl))) ?_
      refine .cons (.wanted 3 true rfl rfl rfl 0 rfl (ok_loadVM (.tmp 1 rfl))) ?_
      refine .cons (.wanted 3 true rfl rfl rfl 0 rfl (ok_lenC (.tmp 1 rfl))) ?_
      refine .cons (.wanted 3 true rfl rfl rfl 0 rfl (ok_cmp (b := true) (.tmp 1 rfl) (.lit) ((decide_eq_true ((dg_zero_iff 0).2 rfl)).symm))) ?_
      refine .cons (.plain rfl (ok_pickT (.tmp 0 rfl) (.tmp 1 rfl))) ?_
      refine .cons (.plain rfl (ok_assign (.tmp 0 rfl))) ?_
      exact .nil
    clear H18 a18 w18 B18
    intro a19 w19 B19 H19
    refine ops_done ?_
    refine then_normal ?_
    refine wp_seq ?_
    refine wp_block ?_
    refine wp_seq ?_
    refine flow_region (dsts := [some 43, some 44, some 42]) (refs := [[.pre 5], [.res 0], [.res 1]]) (outs := [.res 2, .pre 0, .pre 1, .pre 2, .pre 3, .pre 4, .pre 5, .pre 6, .pre 7, .pre 8, .pre 9]) (als := [false, false, false]) (posts := [.val (Lit (.int .i64 16)), .val (IsB true), .val (IsB true)])
      (out := [(42, .val (IsB true)), (11, .val (IsB true)), (9, .val (Lit (.int .u32 ((toW 32 64 x).1)))), (10, .val (IsB ((toW 32 64 x).2))), (7, .val (Lit (.int .u16 ((toW 16 64 x).1)))), (8, .val (IsB true)), (4, .val (Lit (.int .i64 16))), (5, .val (Lit (.int .u64 0))), (2, .val (IsB false)), (0, .val (Lit (.int .u64 x))), (105, .val (EnvV))]) (nb := []) H19 3 [] rfl (by kernel_rfl) rfl rfl ?_ ?_
    · refine .cons (.plain rfl (ok_move (.tmp 0 rfl))) ?_
      refine .cons (.plain rfl (ok_cmp (b := true) (.tmp 0 rfl) (.lit) (by decide))) ?_
      refine .cons (.plain rfl (ok_assign (.tmp 0 rfl))) ?_
      exact .nil
    clear H19 a19 w19 B19
    intro a20 w20 B20 H20
    refine ops_done ?_
    refine then_normal ?_
    refine f_condT H20 (.tmp 0 rfl) ?_
    refine wp_seq ?_
    refine flow_region (dsts := [some 45, some 46, some 47, some 48, some 49, some 50, some 51, some 52, some 53, some 54, some 55, some 56, some 57, some 58, some 59, some 60, some 61, some 62, some 63, some 64, some 65, some 66, some 67, some 68, some 69, some 2]) (refs := [[.pre 1], [.res 0], [.res 1, .pre 7], [.res 1, .res 2], [.res 1, .res 3], [.res 4], [.res 5], [.res 5], [.res 5], [.res 8], [.res 8], [.res 5], [.res 5], [.res 12], [.res 13], [.res 13], [.res 13], [.res 13], [.res 13], [.res 18], [.res 19, .pre 5], [.res 19, .res 20], [.res 21], [.res 22, .pre 10], [.res 22, .res 23], [.res 24]]) (outs := [.res 25, .pre 2, .pre 3, .pre 5, .pre 6, .pre 7, .pre 9, .pre 10]) (als := [false, false, false, false, false, false, false, false, false, false, false, false, false, false, false, false, false, false, false, false, false, false, false, false, false, false]) (posts := [.val (IsB true), .val (IsB true), .val (Lit (.int .u64 0)), .val (IsB true), .val (IsB true), .val (IsB true), .val (IsUndef), .val (IsUndef), .val (IsUndef), .val (IsUndef), .val (IsUndef), .val (IsUndef), .val (IsB true), .val (IsB true), .val (IsUndef), .val (IsUndef), .val (IsUndef), .val (IsUndef), .val (IsB true), .val (IsB true), .val (IsB true), .val (IsB true), .val (IsB true), .val (IsB true), .val (IsB true), .val (IsB true)])
      (out := [(2, .val (IsB true)), (9, .val (Lit (.int .u32 ((toW 32 64 x).1)))), (10, .val (IsB ((toW 32 64 x).2))), (8, .val (IsB true)), (4, .val (Lit (.int .i64 16))), (5, .val (Lit (.int .u64 0))), (0, .val (Lit (.int .u64 x))), (105, .val (EnvV))]) (nb := []) H20 26 [] rfl (by kernel_rfl) rfl rfl ?_ ?_
    · refine .cons (.plain rfl (ok_move (.tmp 0 rfl))) ?_
      refine .cons (.plain rfl (ok_move (.tmp 0 rfl))) ?_
      refine .cons (.wanted 1 true rfl rfl rfl 0 rfl (ok_move (.tmp 1 rfl))) ?_
      refine .cons (.wanted 1 true rfl rfl rfl 0 rfl (ok_cmp (b := true) (.tmp 1 rfl) (.lit) (by decide))) ?_
      refine .cons (.plain rfl (ok_pickT (.tmp 0 rfl) (.tmp 1 rfl))) ?_
      refine .cons (.plain rfl (ok_move (.tmp 0 rfl))) ?_
      refine .cons (.unwanted 5 false rfl rfl rfl 0 rfl) ?_
      refine .cons (.unwanted 5 false rfl rfl rfl 0 rfl) ?_
      refine .cons (.unwanted 5 false rfl rfl rfl 0 rfl) ?_
      refine .cons (.unasked 8 true rfl rfl rfl 0 rfl) ?_
      refine .cons (.unasked 8 true rfl rfl rfl 0 rfl) ?_
      refine .cons (.unwanted 5 false rfl rfl rfl 0 rfl) ?_
      refine .cons (.plain rfl (ok_pickT (.tmp 0 rfl) (.lit))) ?_
      refine .cons (.plain rfl (ok_move (.tmp 0 rfl))) ?_
      refine .cons (.unwanted 13 false rfl rfl rfl 0 rfl) ?_
      refine .cons (.unwanted 13 false rfl rfl rfl 0 rfl) ?_
      refine .cons (.unwanted 13 false rfl rfl rfl 0 rfl) ?_
      refine .cons (.unwanted 13 false rfl rfl rfl 0 rfl) ?_
      refine .cons (.plain rfl (ok_pickT (.tmp 0 rfl) (.lit))) ?_
      refine .cons (.plain rfl (ok_move (.tmp 0 rfl))) ?_
      refine .cons (.wanted 19 true rfl rfl rfl 0 rfl (ok_move (.tmp 1 rfl))) ?_
      refine .cons (.plain rfl (ok_pickT (.tmp 0 rfl) (.tmp 1 rfl))) ?_
      refine .cons (.plain rfl (ok_move (.tmp 0 rfl))) ?_
      refine .cons (.wanted 22 true rfl rfl rfl 0 rfl (ok_callE (con_lives15) 1 rfl (.nil))) ?_
      refine .cons (.plain rfl (ok_pickT (.tmp 0 rfl) (.tmp 1 rfl))) ?_
      refine .cons (.plain rfl (ok_assign (.tmp 0 rfl))) ?_
      exact .nil
    clear H20 a20 w20 B20
    intro a21 w21 B21 H21
    refine ops_done ?_
    refine then_normal ?_
    refine wp_ret ?_
    refine block_ret ?_
    refine then_ret ?_
    exact f_ret H21 rfl 0 rfl (fun _ _ _ h => h)
  · refine flow_region (dsts := [some 12, some 13, some 3]) (refs := [[.pre 1], [.res 0, .pre 2], []]) (outs := [.res 1, .res 2, .pre 0, .pre 1, .pre 2]) (als := [false, false, true]) (posts := [.val (Lit (.int .u64 x)), .val (IsNum (ofV 64 x)), .box 37 8 (IsVal 0 0 (IsI 0) 0 0 (⟨#[]⟩) (K0))])
      (out := [(13, .val (IsNum (ofV 64 x))), (3, .box 37 8 (IsVal 0 0 (IsI 0) 0 0 (⟨#[]⟩) (K0))), (2, .val (IsB false)), (0, .val (Lit (.int .u64 x))), (105, .val (EnvV))]) (nb := [3]) H1 3 [3] rfl (by kernel_rfl) rfl rfl ?_ ?_
    · refine .cons (.plain rfl (ok_move (.tmp 0 rfl))) ?_
      refine .cons (.plain rfl (ok_callE (con_of64 x hx) 1 rfl (.cons (.tmp 0 rfl) (.nil)))) ?_
      refine .cons (.plain rfl (ok_allocV)) ?_
      exact .nil
    clear H1 a1 w1 B1
    intro a22 w22 B22 H22
    simp only [List.cons_append, List.nil_append] at H22
    refine ops_one ?_
    refine store_op (l' := [(13, .val (IsNum (ofV 64 x))), (3, .box 37 8 (IsNum (ofV 64 x))), (2, .val (IsB false)), (0, .val (Lit (.int .u64 x))), (105, .val (EnvV))]) 1 H22 rfl tyV rfl (.tmp 0 rfl) (shape_Val shape_I oneK0) shape_Num rfl rfl ?_
    clear H22 w22
    intro w23 H23
    refine ops_done ?_
    refine then_normal ?_
    refine wp_seq ?_
    rcases (nv_cases (ofV 64 x)) with qz | ⟨N, qz, hN⟩ | ⟨b, qz⟩
    · rw [qz] at qp
      have H24 := St.setwB H23 1 (D' := IsNum (.int 0)) rfl (fun v h => num_eq qz h) (l' := [(13, .val (IsNum (ofV 64 x))), (3, .box 37 8 (IsNum (.int 0))), (2, .val (IsB false)), (0, .val (Lit (.int .u64 x))), (105, .val (EnvV))]) rfl
      clear H23
      refine flow_region (dsts := [some 15, some 16, some 14, some 17, some 18, some 19, some 4, some 5, some 6]) (refs := [[.pre 1], [.res 0, .pre 4], [.res 1], [.res 2], [.res 2], [.res 2], [.res 3], [.res 4], [.res 5]]) (outs := [.res 6, .res 7, .res 8, .pre 1, .pre 2, .pre 3, .pre 4]) (als := [false, false, false, false, false, false, false, false, false]) (posts := [.val (IsNum (.int 0)), .val (Tup [Lit (.int .i64 16), Lit (.int .u64 ((toW 16 64 x).1)), IsB true]), .val (Tup [Lit (.int .i64 16), Lit (.int .u64 ((toW 16 64 x).1)), IsB true]), .val (Lit (.int .i64 16)), .val (Lit (.int .u64 ((toW 16 64 x).1))), .val (IsB true), .val (Lit (.int .i64 16)), .val (Lit (.int .u64 ((toW 16 64 x).1))), .val (IsB true)])
        (out := [(4, .val (Lit (.int .i64 16))), (5, .val (Lit (.int .u64 ((toW 16 64 x).1)))), (6, .val (IsB true)), (3, .box 37 8 (IsNum (.int 0))), (2, .val (IsB false)), (0, .val (Lit (.int .u64 x))), (105, .val (EnvV))]) (nb := []) H24 9 [] rfl (by kernel_rfl) rfl rfl ?_ ?_
      · refine .cons (.plain rfl (ok_load tyV (.tmp 0 rfl))) ?_
        refine .cons (.plain rfl (ok_callE ((con_narrow (.int 0) trivial).weak (fun v w B h => by rw [qp] at h; exact h)) 1 rfl (.cons (.tmp 0 rfl) (.nil)))) ?_
        refine .cons (.plain rfl (ok_move (.tmp 0 rfl))) ?_
        refine .cons (.plain rfl (ok_extract 0 (.tmp 0 rfl) rfl)) ?_
        refine .cons (.plain rfl (ok_extract 1 (.tmp 0 rfl) rfl)) ?_
        refine .cons (.plain rfl (ok_extract 2 (.tmp 0 rfl) rfl)) ?_
        refine .cons (.plain rfl (ok_assign (.tmp 0 rfl))) ?_
        refine .cons (.plain rfl (ok_assign (.tmp 0 rfl))) ?_
        refine .cons (.plain rfl (ok_assign (.tmp 0 rfl))) ?_
        exact .nil
      clear H24 a22 w23 B22
      intro a25 w25 B25 H25
      refine ops_done ?_
      refine then_normal ?_
      refine wp_seq ?_
      refine wp_seq ?_
      refine flow_region (dsts := [some 20, some 21]) (refs := [[.pre 2], [.res 0]]) (outs := [.res 1, .pre 0, .pre 1, .pre 3, .pre 4, .pre 5, .pre 6]) (als := [false, false]) (posts := [.val (IsB true), .val (IsB false)])
        (out := [(21, .val (IsB false)), (4, .val (Lit (.int .i64 16))), (5, .val (Lit (.int .u64 ((toW 16 64 x).1)))), (3, .box 37 8 (IsNum (.int 0))), (2, .val (IsB false)), (0, .val (Lit (.int .u64 x))), (105, .val (EnvV))]) (nb := []) H25 2 [] rfl (by kernel_rfl) rfl rfl ?_ ?_
      · refine .cons (.plain rfl (ok_move (.tmp 0 rfl))) ?_
        refine .cons (.plain rfl (ok_not (b := true) (.tmp 0 rfl))) ?_
        exact .nil
      clear H25 a25 w25 B25
      intro a26 w26 B26 H26
      refine ops_done ?_
      refine then_normal ?_
      refine f_condF H26 (.tmp 0 rfl) ?_
      refine wp_skip ?_
      refine then_normal ?_
      refine wp_seq ?_
      refine flow_region (dsts := [some 23, some 24, some 22, some 25, some 26, some 7, some 8]) (refs := [[.pre 5], [.res 0, .pre 6], [.res 1], [.res 2], [.res 2], [.res 3], [.res 4]]) (outs := [.res 5, .res 6, .pre 1, .pre 2, .pre 3, .pre 4, .pre 5, .pre 6]) (als := [false, false, false, false, false, false, false]) (posts := [.val (Lit (.int .u64 x)), .val (Tup [Lit (.int .u16 ((toW 16 64 x).1)), IsB true]), .val (Tup [Lit (.int .u16 ((toW 16 64 x).1)), IsB true]), .val (Lit (.int .u16 ((toW 16 64 x).1))), .val (IsB true), .val (Lit (.int .u16 ((toW 16 64 x).1))), .val (IsB true)])
        (out := [(7, .val (Lit (.int .u16 ((toW 16 64 x).1)))), (8, .val (IsB true)), (4, .val (Lit (.int .i64 16))), (5, .val (Lit (.int .u64 ((toW 16 64 x).1)))), (3, .box 37 8 (IsNum (.int 0))), (2, .val (IsB false)), (0, .val (Lit (.int .u64 x))), (105, .val (EnvV))]) (nb := []) H26 7 [] rfl (by kernel_rfl) rfl rfl ?_ ?_
      · refine .cons (.plain rfl (ok_move (.tmp 0 rfl))) ?_
        refine .cons (.plain rfl (ok_callE ((con_to1664 x hx).weak (fun v w B h => by rw [q16] at h; exact h)) 1 rfl (.cons (.tmp 0 rfl) (.nil)))) ?_
        refine .cons (.plain rfl (ok_move (.tmp 0 rfl))) ?_
        refine .cons (.plain rfl (ok_extract 0 (.tmp 0 rfl) rfl)) ?_
        refine .cons (.plain rfl (ok_extract 1 (.tmp 0 rfl) rfl)) ?_
        refine .cons (.plain rfl (ok_assign (.tmp 0 rfl))) ?_
        refine .cons (.plain rfl (ok_assign (.tmp 0 rfl))) ?_
        exact .nil
      clear H26 a26 w26 B26
      intro a27 w27 B27 H27
      refine ops_done ?_
      refine then_normal ?_
      refine wp_seq ?_
      refine flow_region (dsts := [some 28, some 29, some 27, some 30, some 31, some 9, some 10]) (refs := [[.pre 6], [.res 0, .pre 7], [.res 1], [.res 2], [.res 2], [.res 3], [.res 4]]) (outs := [.res 5, .res 6, .pre 0, .pre 1, .pre 2, .pre 3, .pre 4, .pre 5, .pre 6, .pre 7]) (als := [false, false, false, false, false, false, false]) (posts := [.val (Lit (.int .u64 x)), .val (Tup [Lit (.int .u32 ((toW 32 64 x).1)), IsB ((toW 32 64 x).2)]), .val (Tup [Lit (.int .u32 ((toW 32 64 x).1)), IsB ((toW 32 64 x).2)]), .val (Lit (.int .u32 ((toW 32 64 x).1))), .val (IsB ((toW 32 64 x).2)), .val (Lit (.int .u32 ((toW 32 64 x).1))), .val (IsB ((toW 32 64 x).2))])
        (out := [(9, .val (Lit (.int .u32 ((toW 32 64 x).1)))), (10, .val (IsB ((toW 32 64 x).2))), (7, .val (Lit (.int .u16 ((toW 16 64 x).1)))), (8, .val (IsB true)), (4, .val (Lit (.int .i64 16))), (5, .val (Lit (.int .u64 ((toW 16 64 x).1)))), (3, .box 37 8 (IsNum (.int 0))), (2, .val (IsB false)), (0, .val (Lit (.int .u64 x))), (105, .val (EnvV))]) (nb := []) H27 7 [] rfl (by kernel_rfl) rfl rfl ?_ ?_
      · refine .cons (.plain rfl (ok_move (.tmp 0 rfl))) ?_
        refine .cons (.plain rfl (ok_callE (con_to3264 x hx) 1 rfl (.cons (.tmp 0 rfl) (.nil)))) ?_
        refine .cons (.plain rfl (ok_move (.tmp 0 rfl))) ?_
        refine .cons (.plain rfl (ok_extract 0 (.tmp 0 rfl) rfl)) ?_
        refine .cons (.plain rfl (ok_extract 1 (.tmp 0 rfl) rfl)) ?_
        refine .cons (.plain rfl (ok_assign (.tmp 0 rfl))) ?_
        refine .cons (.plain rfl (ok_assign (.tmp 0 rfl))) ?_
        exact .nil
      clear H27 a27 w27 B27
      intro a28 w28 B28 H28
      refine ops_done ?_
      refine then_normal ?_
      refine wp_seq ?_
      refine flow_region (dsts := [some 32, some 33, some 34, some 35, some 36, some 37, some 38, some 39, some 40, some 41, some 11]) (refs := [[.pre 6], [.res 0], [.res 1], [.res 2], [.res 3, .pre 6], [.res 3, .res 4], [.res 3, .res 5], [.res 3, .res 6], [.res 3, .res 7], [.res 3, .res 8], [.res 9]]) (outs := [.res 10, .pre 0, .pre 1, .pre 2, .pre 3, .pre 4, .pre 5, .pre 7, .pre 8, .pre 9]) (als := [false, false, false, false, false, false, false, false, false, false, false]) (posts := [.ptr 37 8 (IsNum (.int 0)) 0, .val (Lit (.int .i8 3)), .val (IsB true), .val (IsB true), .ptr 37 8 (IsNum (.int 0)) 2, .ptr 37 8 (IsNum (.int 0)) 3, .val (IsC ((0 : Int).natAbs : Int)), .val (Lit (.int .i64 ((dg 4294967296 ((0 : Int).natAbs : Int)).length : Int))), .val (IsB true), .val (IsB true), .val (IsB true)])
        (out := [(11, .val (IsB true)), (9, .val (Lit (.int .u32 ((toW 32 64 x).1)))), (10, .val (IsB ((toW 32 64 x).2))), (7, .val (Lit (.int .u16 ((toW 16 64 x).1)))), (8, .val (IsB true)), (4, .val (Lit (.int .i64 16))), (5, .val (Lit (.int .u64 ((toW 16 64 x).1)))), (2, .val (IsB false)), (0, .val (Lit (.int .u64 x))), (105, .val (EnvV))]) (nb := []) H28 11 [] rfl (by kernel_rfl) rfl rfl ?_ ?_
      · refine .cons (.plain rfl (ok_addrV0 (.tmp 0 rfl))) ?_
        refine .cons (.plain rfl (ok_loadV0 (.tmp 0 rfl))) ?_
        refine .cons (.plain rfl (ok_cmp (b := true) (.tmp 0 rfl) (.lit) (by decide))) ?_
        refine .cons (.plain rfl (ok_move (.tmp 0 rfl))) ?_
        refine .cons (.wanted 3 true rfl rfl rfl 0 rfl (ok_addrV2 (.tmp 1 rfl))) ?_
        refine .cons (.wanted 3 true rfl rfl rfl 0 rfl (ok_addrVI1 (.tmp 1 rfl))) ?_
        refine .cons (.wanted 3 true rfl rfl rfl 0 rfl (ok_loadVM (.tmp 1 rfl))) ?_
        refine .cons (.wanted 3 true rfl rfl rfl 0 rfl (ok_lenC (.tmp 1 rfl))) ?_
        refine .cons (.wanted 3 true rfl rfl rfl 0 rfl (ok_cmp (b := true) (.tmp 1 rfl) (.lit) ((decide_eq_true ((dg_zero_iff 0).2 rfl)).symm))) ?_
        refine .cons (.plain rfl (ok_pickT (.tmp 0 rfl) (.tmp 1 rfl))) ?_
        refine .cons (.plain rfl (ok_assign (.tmp 0 rfl))) ?_
        exact .nil
      clear H28 a28 w28 B28
      intro a29 w29 B29 H29
      refine ops_done ?_
      refine then_normal ?_
      refine wp_seq ?_
      refine wp_block ?_
      refine wp_seq ?_
      refine flow_region (dsts := [some 43, some 44, some 42]) (refs := [[.pre 5], [.res 0], [.res 1]]) (outs := [.res 2, .pre 0, .pre 1, .pre 2, .pre 3, .pre 4, .pre 5, .pre 6, .pre 7, .pre 8, .pre 9]) (als := [false, false, false]) (posts := [.val (Lit (.int .i64 16)), .val (IsB true), .val (IsB true)])
        (out := [(42, .val (IsB true)), (11, .val (IsB true)), (9, .val (Lit (.int .u32 ((toW 32 64 x).1)))), (10, .val (IsB ((toW 32 64 x).2))), (7, .val (Lit (.int .u16 ((toW 16 64 x).1)))), (8, .val (IsB true)), (4, .val (Lit (.int .i64 16))), (5, .val (Lit (.int .u64 ((toW 16 64 x).1)))), (2, .val (IsB false)), (0, .val (Lit (.int .u64 x))), (105, .val (EnvV))]) (nb := []) H29 3 [] rfl (by kernel_rfl) rfl rfl ?_ ?_
      · refine .cons (.plain rfl (ok_move (.tmp 0 rfl))) ?_
        refine .cons (.plain rfl (ok_cmp (b := true) (.tmp 0 rfl) (.lit) (by decide))) ?_
        refine .cons (.plain rfl (ok_assign (.tmp 0 rfl))) ?_
        exact .nil
      clear H29 a29 w29 B29
      intro a30 w30 B30 H30
      refine ops_done ?_
      refine then_normal ?_
      refine f_condT H30 (.tmp 0 rfl) ?_
      refine wp_seq ?_
      rcases (Decidable.em ((toW 16 64 x).1 = 0)) with c9 | c9
      · refine flow_region (dsts := [some 45, some 46, some 47, some 48, some 49, some 50, some 51, some 52, some 53, some 54, some 55, some 56, some 57, some 58, some 59, some 60, some 61, some 62, some 63, some 64, some 65, some 66, some 67, some 68, some 69, some 2]) (refs := [[.pre 1], [.res 0], [.res 1, .pre 7], [.res 1, .res 2], [.res 1, .res 3], [.res 4], [.res 5], [.res 5], [.res 5], [.res 8], [.res 8], [.res 5], [.res 5], [.res 12], [.res 13], [.res 13], [.res 13], [.res 13], [.res 13], [.res 18], [.res 19, .pre 5], [.res 19, .res 20], [.res 21], [.res 22, .pre 10], [.res 22, .res 23], [.res 24]]) (outs := [.res 25, .pre 2, .pre 3, .pre 5, .pre 6, .pre 7, .pre 9, .pre 10]) (als := [false, false, false, false, false, false, false, false, false, false, false, false, false, false, false, false, false, false, false, false, false, false, false, false, false, false]) (posts := [.val (IsB true), .val (IsB true), .val (Lit (.int .u64 ((toW 16 64 x).1))), .val (IsB true), .val (IsB true), .val (IsB true), .val (IsUndef), .val (IsUndef), .val (IsUndef), .val (IsUndef), .val (IsUndef), .val (IsUndef), .val (IsB true), .val (IsB true), .val (IsUndef), .val (IsUndef), .val (IsUndef), .val (IsUndef), .val (IsB true), .val (IsB true), .val (IsB true), .val (IsB true), .val (IsB true), .val (IsB true), .val (IsB true), .val (IsB true)])
          (out := [(2, .val (IsB true)), (9, .val (Lit (.int .u32 ((toW 32 64 x).1)))), (10, .val (IsB ((toW 32 64 x).2))), (8, .val (IsB true)), (4, .val (Lit (.int .i64 16))), (5, .val (Lit (.int .u64 ((toW 16 64 x).1)))), (0, .val (Lit (.int .u64 x))), (105, .val (EnvV))]) (nb := []) H30 26 [] rfl (by kernel_rfl) rfl rfl ?_ ?_
        · refine .cons (.plain rfl (ok_move (.tmp 0 rfl))) ?_
          refine .cons (.plain rfl (ok_move (.tmp 0 rfl))) ?_
          refine .cons (.wanted 1 true rfl rfl rfl 0 rfl (ok_move (.tmp 1 rfl))) ?_
          refine .cons (.wanted 1 true rfl rfl rfl 0 rfl (ok_cmp (b := true) (.tmp 1 rfl) (.lit) ((decide_eq_true (c9)).symm))) ?_
          refine .cons (.plain rfl (ok_pickT (.tmp 0 rfl) (.tmp 1 rfl))) ?_
          refine .cons (.plain rfl (ok_move (.tmp 0 rfl))) ?_
          refine .cons (.unwanted 5 false rfl rfl rfl 0 rfl) ?_
          refine .cons (.unwanted 5 false rfl rfl rfl 0 rfl) ?_
          refine .cons (.unwanted 5 false rfl rfl rfl 0 rfl) ?_
          refine .cons (.unasked 8 true rfl rfl rfl 0 rfl) ?_
          refine .cons (.unasked 8 true rfl rfl rfl 0 rfl) ?_
          refine .cons (.unwanted 5 false rfl rfl rfl 0 rfl) ?_
          refine .cons (.plain rfl (ok_pickT (.tmp 0 rfl) (.lit))) ?_
          refine .cons (.plain rfl (ok_move (.tmp 0 rfl))) ?_
          refine .cons (.unwanted 13 false rfl rfl rfl 0 rfl) ?_
          refine .cons (.unwanted 13 false rfl rfl rfl 0 rfl) ?_
          refine .cons (.unwanted 13 false rfl rfl rfl 0 rfl) ?_
          refine .cons (.unwanted 13 false rfl rfl rfl 0 rfl) ?_
          refine .cons (.plain rfl (ok_pickT (.tmp 0 rfl) (.lit))) ?_
          refine .cons (.plain rfl (ok_move (.tmp 0 rfl))) ?_
          refine .cons (.wanted 19 true rfl rfl rfl 0 rfl (ok_move (.tmp 1 rfl))) ?_
          refine .cons (.plain rfl (ok_pickT (.tmp 0 rfl) (.tmp 1 rfl))) ?_
          refine .cons (.plain rfl (ok_move (.tmp 0 rfl))) ?_
          refine .cons (.wanted 22 true rfl rfl rfl 0 rfl (ok_callE (con_lives15) 1 rfl (.nil))) ?_
          refine .cons (.plain rfl (ok_pickT (.tmp 0 rfl) (.tmp 1 rfl))) ?_
          refine .cons (.plain rfl (ok_assign (.tmp 0 rfl))) ?_
          exact .nil
        clear H30 a30 w30 B30
        intro a31 w31 B31 H31
        refine ops_done ?_
        refine then_normal ?_
        refine wp_ret ?_
        refine block_ret ?_
        refine then_ret ?_
        exact f_ret H31 rfl 0 rfl (fun _ _ _ h => h)
      · refine flow_region (dsts := [some 45, some 46, some 47, some 48, some 49, some 50, some 51, some 52, some 53, some 54, some 55, some 56, some 57, some 58, some 59, some 60, some 61, some 62, some 63, some 64, some 65, some 66, some 67, some 68, some 69, some 2]) (refs := [[.pre 1], [.res 0], [.res 1, .pre 7], [.res 1, .res 2], [.res 1, .res 3], [.res 4], [.res 5, .pre 9], [.res 5, .res 6, .pre 10], [.res 5, .res 7], [.res 8], [.res 8], [.res 5, .res 8], [.res 5, .res 11], [.res 12], [.res 13, .pre 4], [.res 13, .res 14], [.res 13, .pre 7], [.res 13, .res 15, .res 16], [.res 13, .res 17], [.res 18], [.res 19, .pre 5], [.res 19, .res 20], [.res 21], [.res 22, .pre 10], [.res 22, .res 23], [.res 24]]) (outs := [.res 25, .pre 2, .pre 3, .pre 5, .pre 6, .pre 7, .pre 9, .pre 10]) (als := [false, false, false, false, false, false, false, false, false, false, false, false, false, false, false, false, false, false, false, false, false, false, false, false, false, false]) (posts := [.val (IsB true), .val (IsB true), .val (Lit (.int .u64 ((toW 16 64 x).1))), .val (IsB false), .val (IsB false), .val (IsB false), .val (Lit (.int .u64 x)), .val (IsB false), .val (IsB false), .val (IsUndef), .val (IsUndef), .val (IsB false), .val (IsB false), .val (IsB false), .val (Lit (.int .u16 ((toW 16 64 x).1))), .val (Lit (.int .u64 ((toW 16 64 x).1))), .val (Lit (.int .u64 ((toW 16 64 x).1))), .val (IsB true), .val (IsB true), .val (IsB true), .val (IsB true), .val (IsB true), .val (IsB true), .val (IsB true), .val (IsB true), .val (IsB true)])
          (out := [(2, .val (IsB true)), (9, .val (Lit (.int .u32 ((toW 32 64 x).1)))), (10, .val (IsB ((toW 32 64 x).2))), (8, .val (IsB true)), (4, .val (Lit (.int .i64 16))), (5, .val (Lit (.int .u64 ((toW 16 64 x).1)))), (0, .val (Lit (.int .u64 x))), (105, .val (EnvV))]) (nb := []) H30 26 [] rfl (by kernel_rfl) rfl rfl ?_ ?_
        · refine .cons (.plain rfl (ok_move (.tmp 0 rfl))) ?_
          refine .cons (.plain rfl (ok_move (.tmp 0 rfl))) ?_
          refine .cons (.wanted 1 true rfl rfl rfl 0 rfl (ok_move (.tmp 1 rfl))) ?_
          refine .cons (.wanted 1 true rfl rfl rfl 0 rfl (ok_cmp (b := false) (.tmp 1 rfl) (.lit) ((decide_eq_false (c9)).symm))) ?_
          refine .cons (.plain rfl (ok_pickT (.tmp 0 rfl) (.tmp 1 rfl))) ?_
          refine .cons (.plain rfl (ok_move (.tmp 0 rfl))) ?_
          refine .cons (.wanted 5 false rfl rfl rfl 0 rfl (ok_move (.tmp 1 rfl))) ?_
          refine .cons (.wanted 5 false rfl rfl rfl 0 rfl (ok_callE ((con_nan15 x hx).weak (fun v w B h => by rw [hn] at h; exact h)) 2 rfl (.cons (.tmp 1 rfl) (.nil)))) ?_
          refine .cons (.wanted 5 false rfl rfl rfl 0 rfl (ok_move (.tmp 1 rfl))) ?_
          refine .cons (.unwanted 8 true rfl rfl rfl 0 rfl) ?_
          refine .cons (.unwanted 8 true rfl rfl rfl 0 rfl) ?_
          refine .cons (.wanted 5 false rfl rfl rfl 0 rfl (ok_pickF (.tmp 1 rfl) (.lit))) ?_
          refine .cons (.plain rfl (ok_pickF (.tmp 0 rfl) (.tmp 1 rfl))) ?_
          refine .cons (.plain rfl (ok_move (.tmp 0 rfl))) ?_
          refine .cons (.wanted 13 false rfl rfl rfl 0 rfl (ok_move (.tmp 1 rfl))) ?_
          refine .cons (.wanted 13 false rfl rfl rfl 0 rfl (ok_conv Tryz.underlying22 Tryz.underlying24 (r := ((toW 16 64 x).1)) (.tmp 1 rfl) (w_u64 (by omega)))) ?_
          refine .cons (.wanted 13 false rfl rfl rfl 0 rfl (ok_move (.tmp 1 rfl))) ?_
          refine .cons (.wanted 13 false rfl rfl rfl 0 rfl (ok_cmp (b := true) (.tmp 1 rfl) (.tmp 2 rfl) ((decide_eq_true (rfl)).symm))) ?_
          refine .cons (.plain rfl (ok_pickF (.tmp 0 rfl) (.tmp 1 rfl))) ?_
          refine .cons (.plain rfl (ok_move (.tmp 0 rfl))) ?_
          refine .cons (.wanted 19 true rfl rfl rfl 0 rfl (ok_move (.tmp 1 rfl))) ?_
          refine .cons (.plain rfl (ok_pickT (.tmp 0 rfl) (.tmp 1 rfl))) ?_
          refine .cons (.plain rfl (ok_move (.tmp 0 rfl))) ?_
          refine .cons (.wanted 22 true rfl rfl rfl 0 rfl (ok_callE (con_lives15) 1 rfl (.nil))) ?_
          refine .cons (.plain rfl (ok_pickT (.tmp 0 rfl) (.tmp 1 rfl))) ?_
          refine .cons (.plain rfl (ok_assign (.tmp 0 rfl))) ?_
          exact .nil
        clear H30 a30 w30 B30
        intro a32 w32 B32 H32
        refine ops_done ?_
        refine then_normal ?_
        refine wp_ret ?_
        refine block_ret ?_
        refine then_ret ?_
        exact f_ret H32 rfl 0 rfl (fun _ _ _ h => h)
    · rw [qz] at qp
      have H33 := St.setwB H23 1 (D' := IsNum (.int N)) rfl (fun v h => num_eq qz h) (l' := [(13, .val (IsNum (ofV 64 x))), (3, .box 37 8 (IsNum (.int N))), (2, .val (IsB false)), (0, .val (Lit (.int .u64 x))), (105, .val (EnvV))]) rfl
      clear H23
      refine flow_region (dsts := [some 15, some 16, some 14, some 17, some 18, some 19, some 4, some 5, some 6]) (refs := [[.pre 1], [.res 0, .pre 4], [.res 1], [.res 2], [.res 2], [.res 2], [.res 3], [.res 4], [.res 5]]) (outs := [.res 6, .res 7, .res 8, .pre 1, .pre 2, .pre 3, .pre 4]) (als := [false, false, false, false, false, false, false, false, false]) (posts := [.val (IsNum (.int N)), .val (Tup [Lit (.int .i64 16), Lit (.int .u64 ((toW 16 64 x).1)), IsB true]), .val (Tup [Lit (.int .i64 16), Lit (.int .u64 ((toW 16 64 x).1)), IsB true]), .val (Lit (.int .i64 16)), .val (Lit (.int .u64 ((toW 16 64 x).1))), .val (IsB true), .val (Lit (.int .i64 16)), .val (Lit (.int .u64 ((toW 16 64 x).1))), .val (IsB true)])
        (out := [(4, .val (Lit (.int .i64 16))), (5, .val (Lit (.int .u64 ((toW 16 64 x).1)))), (6, .val (IsB true)), (3, .box 37 8 (IsNum (.int N))), (2, .val (IsB false)), (0, .val (Lit (.int .u64 x))), (105, .val (EnvV))]) (nb := []) H33 9 [] rfl (by kernel_rfl) rfl rfl ?_ ?_
      · refine .cons (.plain rfl (ok_load tyV (.tmp 0 rfl))) ?_
        refine .cons (.plain rfl (ok_callE ((con_narrow (.int N) trivial).weak (fun v w B h => by rw [qp] at h; exact h)) 1 rfl (.cons (.tmp 0 rfl) (.nil)))) ?_
        refine .cons (.plain rfl (ok_move (.tmp 0 rfl))) ?_
        refine .cons (.plain rfl (ok_extract 0 (.tmp 0 rfl) rfl)) ?_
        refine .cons (.plain rfl (ok_extract 1 (.tmp 0 rfl) rfl)) ?_
        refine .cons (.plain rfl (ok_extract 2 (.tmp 0 rfl) rfl)) ?_
        refine .cons (.plain rfl (ok_assign (.tmp 0 rfl))) ?_
        refine .cons (.plain rfl (ok_assign (.tmp 0 rfl))) ?_
        refine .cons (.plain rfl (ok_assign (.tmp 0 rfl))) ?_
        exact .nil
      clear H33 a22 w23 B22
      intro a34 w34 B34 H34
      refine ops_done ?_
      refine then_normal ?_
      refine wp_seq ?_
      refine wp_seq ?_
      refine flow_region (dsts := [some 20, some 21]) (refs := [[.pre 2], [.res 0]]) (outs := [.res 1, .pre 0, .pre 1, .pre 3, .pre 4, .pre 5, .pre 6]) (als := [false, false]) (posts := [.val (IsB true), .val (IsB false)])
        (out := [(21, .val (IsB false)), (4, .val (Lit (.int .i64 16))), (5, .val (Lit (.int .u64 ((toW 16 64 x).1)))), (3, .box 37 8 (IsNum (.int N))), (2, .val (IsB false)), (0, .val (Lit (.int .u64 x))), (105, .val (EnvV))]) (nb := []) H34 2 [] rfl (by kernel_rfl) rfl rfl ?_ ?_
      · refine .cons (.plain rfl (ok_move (.tmp 0 rfl))) ?_
        refine .cons (.plain rfl (ok_not (b := true) (.tmp 0 rfl))) ?_
        exact .nil
      clear H34 a34 w34 B34
      intro a35 w35 B35 H35
      refine ops_done ?_
      refine then_normal ?_
      refine f_condF H35 (.tmp 0 rfl) ?_
      refine wp_skip ?_
      refine then_normal ?_
      refine wp_seq ?_
      refine flow_region (dsts := [some 23, some 24, some 22, some 25, some 26, some 7, some 8]) (refs := [[.pre 5], [.res 0, .pre 6], [.res 1], [.res 2], [.res 2], [.res 3], [.res 4]]) (outs := [.res 5, .res 6, .pre 1, .pre 2, .pre 3, .pre 4, .pre 5, .pre 6]) (als := [false, false, false, false, false, false, false]) (posts := [.val (Lit (.int .u64 x)), .val (Tup [Lit (.int .u16 ((toW 16 64 x).1)), IsB true]), .val (Tup [Lit (.int .u16 ((toW 16 64 x).1)), IsB true]), .val (Lit (.int .u16 ((toW 16 64 x).1))), .val (IsB true), .val (Lit (.int .u16 ((toW 16 64 x).1))), .val (IsB true)])
        (out := [(7, .val (Lit (.int .u16 ((toW 16 64 x).1)))), (8, .val (IsB true)), (4, .val (Lit (.int .i64 16))), (5, .val (Lit (.int .u64 ((toW 16 64 x).1)))), (3, .box 37 8 (IsNum (.int N))), (2, .val (IsB false)), (0, .val (Lit (.int .u64 x))), (105, .val (EnvV))]) (nb := []) H35 7 [] rfl (by kernel_rfl) rfl rfl ?_ ?_
      · refine .cons (.plain rfl (ok_move (.tmp 0 rfl))) ?_
        refine .cons (.plain rfl (ok_callE ((con_to1664 x hx).weak (fun v w B h => by rw [q16] at h; exact h)) 1 rfl (.cons (.tmp 0 rfl) (.nil)))) ?_
        refine .cons (.plain rfl (ok_move (.tmp 0 rfl))) ?_
        refine .cons (.plain rfl (ok_extract 0 (.tmp 0 rfl) rfl)) ?_
        refine .cons (.plain rfl (ok_extract 1 (.tmp 0 rfl) rfl)) ?_
        refine .cons (.plain rfl (ok_assign (.tmp 0 rfl))) ?_
        refine .cons (.plain rfl (ok_assign (.tmp 0 rfl))) ?_
        exact .nil
      clear H35 a35 w35 B35
      intro a36 w36 B36 H36
      refine ops_done ?_
      refine then_normal ?_
      refine wp_seq ?_
      refine flow_region (dsts := [some 28, some 29, some 27, some 30, some 31, some 9, some 10]) (refs := [[.pre 6], [.res 0, .pre 7], [.res 1], [.res 2], [.res 2], [.res 3], [.res 4]]) (outs := [.res 5, .res 6, .pre 0, .pre 1, .pre 2, .pre 3, .pre 4, .pre 5, .pre 6, .pre 7]) (als := [false, false, false, false, false, false, false]) (posts := [.val (Lit (.int .u64 x)), .val (Tup [Lit (.int .u32 ((toW 32 64 x).1)), IsB ((toW 32 64 x).2)]), .val (Tup [Lit (.int .u32 ((toW 32 64 x).1)), IsB ((toW 32 64 x).2)]), .val (Lit (.int .u32 ((toW 32 64 x).1))), .val (IsB ((toW 32 64 x).2)), .val (Lit (.int .u32 ((toW 32 64 x).1))), .val (IsB ((toW 32 64 x).2))])
        (out := [(9, .val (Lit (.int .u32 ((toW 32 64 x).1)))), (10, .val (IsB ((toW 32 64 x).2))), (7, .val (Lit (.int .u16 ((toW 16 64 x).1)))), (8, .val (IsB true)), (4, .val (Lit (.int .i64 16))), (5, .val (Lit (.int .u64 ((toW 16 64 x).1)))), (3, .box 37 8 (IsNum (.int N))), (2, .val (IsB false)), (0, .val (Lit (.int .u64 x))), (105, .val (EnvV))]) (nb := []) H36 7 [] rfl (by kernel_rfl) rfl rfl ?_ ?_
      · refine .cons (.plain rfl (ok_move (.tmp 0 rfl))) ?_
        refine .cons (.plain rfl (ok_callE (con_to3264 x hx) 1 rfl (.cons (.tmp 0 rfl) (.nil)))) ?_
        refine .cons (.plain rfl (ok_move (.tmp 0 rfl))) ?_
        refine .cons (.plain rfl (ok_extract 0 (.tmp 0 rfl) rfl)) ?_
        refine .cons (.plain rfl (ok_extract 1 (.tmp 0 rfl) rfl)) ?_
        refine .cons (.plain rfl (ok_assign (.tmp 0 rfl))) ?_
        refine .cons (.plain rfl (ok_assign (.tmp 0 rfl))) ?_
        exact .nil
      clear H36 a36 w36 B36
      intro a37 w37 B37 H37
      refine ops_done ?_
      refine then_normal ?_
      refine wp_seq ?_
      refine flow_region (dsts := [some 32, some 33, some 34, some 35, some 36, some 37, some 38, some 39, some 40, some 41, some 11]) (refs := [[.pre 6], [.res 0], [.res 1], [.res 2], [.res 3, .pre 6], [.res 3, .res 4], [.res 3, .res 5], [.res 3, .res 6], [.res 3, .res 7], [.res 3, .res 8], [.res 9]]) (outs := [.res 10, .pre 0, .pre 1, .pre 2, .pre 3, .pre 4, .pre 5, .pre 7, .pre 8, .pre 9]) (als := [false, false, false, false, false, false, false, false, false, false, false]) (posts := [.ptr 37 8 (IsNum (.int N)) 0, .val (Lit (.int .i8 3)), .val (IsB true), .val (IsB true), .ptr 37 8 (IsNum (.int N)) 2, .ptr 37 8 (IsNum (.int N)) 3, .val (IsC ((N).natAbs : Int)), .val (Lit (.int .i64 ((dg 4294967296 ((N).natAbs : Int)).length : Int))), .val (IsB false), .val (IsB false), .val (IsB false)])
        (out := [(11, .val (IsB false)), (9, .val (Lit (.int .u32 ((toW 32 64 x).1)))), (10, .val (IsB ((toW 32 64 x).2))), (7, .val (Lit (.int .u16 ((toW 16 64 x).1)))), (8, .val (IsB true)), (4, .val (Lit (.int .i64 16))), (5, .val (Lit (.int .u64 ((toW 16 64 x).1)))), (2, .val (IsB false)), (0, .val (Lit (.int .u64 x))), (105, .val (EnvV))]) (nb := []) H37 11 [] rfl (by kernel_rfl) rfl rfl ?_ ?_
      · refine .cons (.plain rfl (ok_addrV0 (.tmp 0 rfl))) ?_
        refine .cons (.plain rfl (ok_loadV0 (.tmp 0 rfl))) ?_
        refine .cons (.plain rfl (ok_cmp (b := true) (.tmp 0 rfl) (.lit) (by decide))) ?_
        refine .cons (.plain rfl (ok_move (.tmp 0 rfl))) ?_
        refine .cons (.wanted 3 true rfl rfl rfl 0 rfl (ok_addrV2 (.tmp 1 rfl))) ?_
        refine .cons (.wanted 3 true rfl rfl rfl 0 rfl (ok_addrVI1 (.tmp 1 rfl))) ?_
        refine .cons (.wanted 3 true rfl rfl rfl 0 rfl (ok_loadVM (.tmp 1 rfl))) ?_
        refine .cons (.wanted 3 true rfl rfl rfl 0 rfl (ok_lenC (.tmp 1 rfl))) ?_
        refine .cons (.wanted 3 true rfl rfl rfl 0 rfl (ok_cmp (b := false) (.tmp 1 rfl) (.lit) ((decide_eq_false (fun h => hN ((dg_zero_iff N).1 h))).symm))) ?_
        refine .cons (.plain rfl (ok_pickT (.tmp 0 rfl) (.tmp 1 rfl))) ?_
        refine .cons (.plain rfl (ok_assign (.tmp 0 rfl))) ?_
        exact .nil
      clear H37 a37 w37 B37
      intro a38 w38 B38 H38
      refine ops_done ?_
      refine then_normal ?_
      refine wp_seq ?_
      refine wp_block ?_
      refine wp_seq ?_
      refine flow_region (dsts := [some 43, some 44, some 42]) (refs := [[.pre 5], [.res 0], [.res 1]]) (outs := [.res 2, .pre 0, .pre 1, .pre 2, .pre 3, .pre 4, .pre 5, .pre 6, .pre 7, .pre 8, .pre 9]) (als := [false, false, false]) (posts := [.val (Lit (.int .i64 16)), .val (IsB true), .val (IsB true)])
        (out := [(42, .val (IsB true)), (11, .val (IsB false)), (9, .val (Lit (.int .u32 ((toW 32 64 x).1)))), (10, .val (IsB ((toW 32 64 x).2))), (7, .val (Lit (.int .u16 ((toW 16 64 x).1)))), (8, .val (IsB true)), (4, .val (Lit (.int .i64 16))), (5, .val (Lit (.int .u64 ((toW 16 64 x).1)))), (2, .val (IsB false)), (0, .val (Lit (.int .u64 x))), (105, .val (EnvV))]) (nb := []) H38 3 [] rfl (by kernel_rfl) rfl rfl ?_ ?_
      · refine .cons (.plain rfl (ok_move (.tmp 0 rfl))) ?_
        refine .cons (.plain rfl (ok_cmp (b := true) (.tmp 0 rfl) (.lit) (by decide))) ?_
        refine .cons (.plain rfl (ok_assign (.tmp 0 rfl))) ?_
        exact .nil
      clear H38 a38 w38 B38
      intro a39 w39 B39 H39
      refine ops_done ?_
      refine then_normal ?_
      refine f_condT H39 (.tmp 0 rfl) ?_
      refine wp_seq ?_
      refine flow_region (dsts := [some 45, some 46, some 47, some 48, some 49, some 50, some 51, some 52, some 53, some 54, some 55, some 56, some 57, some 58, some 59, some 60, some 61, some 62, some 63, some 64, some 65, some 66, some 67, some 68, some 69, some 2]) (refs := [[.pre 1], [.res 0], [.res 1], [.res 1], [.res 1], [.res 4], [.res 5, .pre 9], [.res 5, .res 6, .pre 10], [.res 5, .res 7], [.res 8], [.res 8], [.res 5, .res 8], [.res 5, .res 11], [.res 12], [.res 13, .pre 4], [.res 13, .res 14], [.res 13, .pre 7], [.res 13, .res 15, .res 16], [.res 13, .res 17], [.res 18], [.res 19, .pre 5], [.res 19, .res 20], [.res 21], [.res 22, .pre 10], [.res 22, .res 23], [.res 24]]) (outs := [.res 25, .pre 2, .pre 3, .pre 5, .pre 6, .pre 7, .pre 9, .pre 10]) (als := [false, false, false, false, false, false, false, false, false, false, false, false, false, false, false, false, false, false, false, false, false, false, false, false, false, false]) (posts := [.val (IsB false), .val (IsB false), .val (IsUndef), .val (IsUndef), .val (IsB false), .val (IsB false), .val (Lit (.int .u64 x)), .val (IsB false), .val (IsB false), .val (IsUndef), .val (IsUndef), .val (IsB false), .val (IsB false), .val (IsB false), .val (Lit (.int .u16 ((toW 16 64 x).1))), .val (Lit (.int .u64 ((toW 16 64 x).1))), .val (Lit (.int .u64 ((toW 16 64 x).1))), .val (IsB true), .val (IsB true), .val (IsB true), .val (IsB true), .val (IsB true), .val (IsB true), .val (IsB true), .val (IsB true), .val (IsB true)])
        (out := [(2, .val (IsB true)), (9, .val (Lit (.int .u32 ((toW 32 64 x).1)))), (10, .val (IsB ((toW 32 64 x).2))), (8, .val (IsB true)), (4, .val (Lit (.int .i64 16))), (5, .val (Lit (.int .u64 ((toW 16 64 x).1)))), (0, .val (Lit (.int .u64 x))), (105, .val (EnvV))]) (nb := []) H39 26 [] rfl (by kernel_rfl) rfl rfl ?_ ?_
      · refine .cons (.plain rfl (ok_move (.tmp 0 rfl))) ?_
        refine .cons (.plain rfl (ok_move (.tmp 0 rfl))) ?_
        refine .cons (.unwanted 1 true rfl rfl rfl 0 rfl) ?_
        refine .cons (.unwanted 1 true rfl rfl rfl 0 rfl) ?_
        refine .cons (.plain rfl (ok_pickF (.tmp 0 rfl) (.lit))) ?_
        refine .cons (.plain rfl (ok_move (.tmp 0 rfl))) ?_
        refine .cons (.wanted 5 false rfl rfl rfl 0 rfl (ok_move (.tmp 1 rfl))) ?_
        refine .cons (.wanted 5 false rfl rfl rfl 0 rfl (ok_callE ((con_nan15 x hx).weak (fun v w B h => by rw [hn] at h; exact h)) 2 rfl (.cons (.tmp 1 rfl) (.nil)))) ?_
        refine .cons (.wanted 5 false rfl rfl rfl 0 rfl (ok_move (.tmp 1 rfl))) ?_
        refine .cons (.unwanted 8 true rfl rfl rfl 0 rfl) ?_
        refine .cons (.unwanted 8 true rfl rfl rfl 0 rfl) ?_
        refine .cons (.wanted 5 false rfl rfl rfl 0 rfl (ok_pickF (.tmp 1 rfl) (.lit))) ?_
        refine .cons (.plain rfl (ok_pickF (.tmp 0 rfl) (.tmp 1 rfl))) ?_
        refine .cons (.plain rfl (ok_move (.tmp 0 rfl))) ?_
        refine .cons (.wanted 13 false rfl rfl rfl 0 rfl (ok_move (.tmp 1 rfl))) ?_
        refine .cons (.wanted 13 false rfl rfl rfl 0 rfl (ok_conv Tryz.underlying22 Tryz.underlying24 (r := ((toW 16 64 x).1)) (.tmp 1 rfl) (w_u64 (by omega)))) ?_
        refine .cons (.wanted 13 false rfl rfl rfl 0 rfl (ok_move (.tmp 1 rfl))) ?_
        refine .cons (.wanted 13 false rfl rfl rfl 0 rfl (ok_cmp (b := true) (.tmp 1 rfl) (.tmp 2 rfl) ((decide_eq_true (rfl)).symm))) ?_
        refine .cons (.plain rfl (ok_pickF (.tmp 0 rfl) (.tmp 1 rfl))) ?_
        refine .cons (.plain rfl (ok_move (.tmp 0 rfl))) ?_
        refine .cons (.wanted 19 true rfl rfl rfl 0 rfl (ok_move (.tmp 1 rfl))) ?_
        refine .cons (.plain rfl (ok_pickT (.tmp 0 rfl) (.tmp 1 rfl))) ?_
        refine .cons (.plain rfl (ok_move (.tmp 0 rfl))) ?_
        refine .cons (.wanted 22 true rfl rfl rfl 0 rfl (ok_callE (con_lives15) 1 rfl (.nil))) ?_
        refine .cons (.plain rfl (ok_pickT (.tmp 0 rfl) (.tmp 1 rfl))) ?_
        refine .cons (.plain rfl (ok_assign (.tmp 0 rfl))) ?_
        exact .nil
      clear H39 a39 w39 B39
      intro a40 w40 B40 H40
      refine ops_done ?_
      refine then_normal ?_
      refine wp_ret ?_
      refine block_ret ?_
      refine then_ret ?_
      exact f_ret H40 rfl 0 rfl (fun _ _ _ h => h)
    · have hz2 : okNV (.flt b) := qz ▸ ok_of w64 x (by rw [show (2 : Int) ^ 64 = 18446744073709551616 from by decide]; exact hx)
      rw [qz] at qp
      have H41 := St.setwB H23 1 (D' := IsNum (.flt b)) rfl (fun v h => num_eq qz h) (l' := [(13, .val (IsNum (ofV 64 x))), (3, .box 37 8 (IsNum (.flt b))), (2, .val (IsB false)), (0, .val (Lit (.int .u64 x))), (105, .val (EnvV))]) rfl
      clear H23
      refine flow_region (dsts := [some 15, some 16, some 14, some 17, some 18, some 19, some 4, some 5, some 6]) (refs := [[.pre 1], [.res 0, .pre 4], [.res 1], [.res 2], [.res 2], [.res 2], [.res 3], [.res 4], [.res 5]]) (outs := [.res 6, .res 7, .res 8, .pre 1, .pre 2, .pre 3, .pre 4]) (als := [false, false, false, false, false, false, false, false, false]) (posts := [.val (IsNum (.flt b)), .val (Tup [Lit (.int .i64 16), Lit (.int .u64 ((toW 16 64 x).1)), IsB true]), .val (Tup [Lit (.int .i64 16), Lit (.int .u64 ((toW 16 64 x).1)), IsB true]), .val (Lit (.int .i64 16)), .val (Lit (.int .u64 ((toW 16 64 x).1))), .val (IsB true), .val (Lit (.int .i64 16)), .val (Lit (.int .u64 ((toW 16 64 x).1))), .val (IsB true)])
        (out := [(4, .val (Lit (.int .i64 16))), (5, .val (Lit (.int .u64 ((toW 16 64 x).1)))), (6, .val (IsB true)), (3, .box 37 8 (IsNum (.flt b))), (2, .val (IsB false)), (0, .val (Lit (.int .u64 x))), (105, .val (EnvV))]) (nb := []) H41 9 [] rfl (by kernel_rfl) rfl rfl ?_ ?_
      · refine .cons (.plain rfl (ok_load tyV (.tmp 0 rfl))) ?_
        refine .cons (.plain rfl (ok_callE ((con_narrow (.flt b) hz2).weak (fun v w B h => by rw [qp] at h; exact h)) 1 rfl (.cons (.tmp 0 rfl) (.nil)))) ?_
        refine .cons (.plain rfl (ok_move (.tmp 0 rfl))) ?_
        refine .cons (.plain rfl (ok_extract 0 (.tmp 0 rfl) rfl)) ?_
        refine .cons (.plain rfl (ok_extract 1 (.tmp 0 rfl) rfl)) ?_
        refine .cons (.plain rfl (ok_extract 2 (.tmp 0 rfl) rfl)) ?_
        refine .cons (.plain rfl (ok_assign (.tmp 0 rfl))) ?_
        refine .cons (.plain rfl (ok_assign (.tmp 0 rfl))) ?_
        refine .cons (.plain rfl (ok_assign (.tmp 0 rfl))) ?_
        exact .nil
      clear H41 a22 w23 B22
      intro a42 w42 B42 H42
      refine ops_done ?_
      refine then_normal ?_
      refine wp_seq ?_
      refine wp_seq ?_
      refine flow_region (dsts := [some 20, some 21]) (refs := [[.pre 2], [.res 0]]) (outs := [.res 1, .pre 0, .pre 1, .pre 3, .pre 4, .pre 5, .pre 6]) (als := [false, false]) (posts := [.val (IsB true), .val (IsB false)])
        (out := [(21, .val (IsB false)), (4, .val (Lit (.int .i64 16))), (5, .val (Lit (.int .u64 ((toW 16 64 x).1)))), (3, .box 37 8 (IsNum (.flt b))), (2, .val (IsB false)), (0, .val (Lit (.int .u64 x))), (105, .val (EnvV))]) (nb := []) H42 2 [] rfl (by kernel_rfl) rfl rfl ?_ ?_
      · refine .cons (.plain rfl (ok_move (.tmp 0 rfl))) ?_
        refine .cons (.plain rfl (ok_not (b := true) (.tmp 0 rfl))) ?_
        exact .nil
      clear H42 a42 w42 B42
      intro a43 w43 B43 H43
      refine ops_done ?_
      refine then_normal ?_
      refine f_condF H43 (.tmp 0 rfl) ?_
      refine wp_skip ?_
      refine then_normal ?_
      refine wp_seq ?_
      refine flow_region (dsts := [some 23, some 24, some 22, some 25, some 26, some 7, some 8]) (refs := [[.pre 5], [.res 0, .pre 6], [.res 1], [.res 2], [.res 2], [.res 3], [.res 4]]) (outs := [.res 5, .res 6, .pre 1, .pre 2, .pre 3, .pre 4, .pre 5, .pre 6]) (als := [false, false, false, false, false, false, false]) (posts := [.val (Lit (.int .u64 x)), .val (Tup [Lit (.int .u16 ((toW 16 64 x).1)), IsB true]), .val (Tup [Lit (.int .u16 ((toW 16 64 x).1)), IsB true]), .val (Lit (.int .u16 ((toW 16 64 x).1))), .val (IsB true), .val (Lit (.int .u16 ((toW 16 64 x).1))), .val (IsB true)])
        (out := [(7, .val (Lit (.int .u16 ((toW 16 64 x).1)))), (8, .val (IsB true)), (4, .val (Lit (.int .i64 16))), (5, .val (Lit (.int .u64 ((toW 16 64 x).1)))), (3, .box 37 8 (IsNum (.flt b))), (2, .val (IsB false)), (0, .val (Lit (.int .u64 x))), (105, .val (EnvV))]) (nb := []) H43 7 [] rfl (by kernel_rfl) rfl rfl ?_ ?_
      · refine .cons (.plain rfl (ok_move (.tmp 0 rfl))) ?_
        refine .cons (.plain rfl (ok_callE ((con_to1664 x hx).weak (fun v w B h => by rw [q16] at h; exact h)) 1 rfl (.cons (.tmp 0 rfl) (.nil)))) ?_
        refine .cons (.plain rfl (ok_move (.tmp 0 rfl))) ?_
        refine .cons (.plain rfl (ok_extract 0 (.tmp 0 rfl) rfl)) ?_
        refine .cons (.plain rfl (ok_extract 1 (.tmp 0 rfl) rfl)) ?_
        refine .cons (.plain rfl (ok_assign (.tmp 0 rfl))) ?_
        refine .cons (.plain rfl (ok_assign (.tmp 0 rfl))) ?_
        exact .nil
      clear H43 a43 w43 B43
      intro a44 w44 B44 H44
      refine ops_done ?_
      refine then_normal ?_
      refine wp_seq ?_
      refine flow_region (dsts := [some 28, some 29, some 27, some 30, some 31, some 9, some 10]) (refs := [[.pre 6], [.res 0, .pre 7], [.res 1], [.res 2], [.res 2], [.res 3], [.res 4]]) (outs := [.res 5, .res 6, .pre 0, .pre 1, .pre 2, .pre 3, .pre 4, .pre 5, .pre 6, .pre 7]) (als := [false, false, false, false, false, false, false]) (posts := [.val (Lit (.int .u64 x)), .val (Tup [Lit (.int .u32 ((toW 32 64 x).1)), IsB ((toW 32 64 x).2)]), .val (Tup [Lit (.int .u32 ((toW 32 64 x).1)), IsB ((toW 32 64 x).2)]), .val (Lit (.int .u32 ((toW 32 64 x).1))), .val (IsB ((toW 32 64 x).2)), .val (Lit (.int .u32 ((toW 32 64 x).1))), .val (IsB ((toW 32 64 x).2))])
        (out := [(9, .val (Lit (.int .u32 ((toW 32 64 x).1)))), (10, .val (IsB ((toW 32 64 x).2))), (7, .val (Lit (.int .u16 ((toW 16 64 x).1)))), (8, .val (IsB true)), (4, .val (Lit (.int .i64 16))), (5, .val (Lit (.int .u64 ((toW 16 64 x).1)))), (3, .box 37 8 (IsNum (.flt b))), (2, .val (IsB false)), (0, .val (Lit (.int .u64 x))), (105, .val (EnvV))]) (nb := []) H44 7 [] rfl (by kernel_rfl) rfl rfl ?_ ?_
      · refine .cons (.plain rfl (ok_move (.tmp 0 rfl))) ?_
        refine .cons (.plain rfl (ok_callE (con_to3264 x hx) 1 rfl (.cons (.tmp 0 rfl) (.nil)))) ?_
        refine .cons (.plain rfl (ok_move (.tmp 0 rfl))) ?_
        refine .cons (.plain rfl (ok_extract 0 (.tmp 0 rfl) rfl)) ?_
        refine .cons (.plain rfl (ok_extract 1 (.tmp 0 rfl) rfl)) ?_
        refine .cons (.plain rfl (ok_assign (.tmp 0 rfl))) ?_
        refine .cons (.plain rfl (ok_assign (.tmp 0 rfl))) ?_
        exact .nil
      clear H44 a44 w44 B44
      intro a45 w45 B45 H45
      refine ops_done ?_
      refine then_normal ?_
      refine wp_seq ?_
      refine flow_region (dsts := [some 32, some 33, some 34, some 35, some 36, some 37, some 38, some 39, some 40, some 41, some 11]) (refs := [[.pre 6], [.res 0], [.res 1], [.res 2], [.res 3], [.res 3], [.res 3], [.res 3], [.res 3], [.res 3], [.res 9]]) (outs := [.res 10, .pre 0, .pre 1, .pre 2, .pre 3, .pre 4, .pre 5, .pre 7, .pre 8, .pre 9]) (als := [false, false, false, false, false, false, false, false, false, false, false]) (posts := [.ptr 37 8 (IsNum (.flt b)) 0, .val (Lit (.int .i8 4)), .val (IsB false), .val (IsB false), .val (IsUndef), .val (IsUndef), .val (IsUndef), .val (IsUndef), .val (IsUndef), .val (IsB false), .val (IsB false)])
        (out := [(11, .val (IsB false)), (9, .val (Lit (.int .u32 ((toW 32 64 x).1)))), (10, .val (IsB ((toW 32 64 x).2))), (7, .val (Lit (.int .u16 ((toW 16 64 x).1)))), (8, .val (IsB true)), (4, .val (Lit (.int .i64 16))), (5, .val (Lit (.int .u64 ((toW 16 64 x).1)))), (2, .val (IsB false)), (0, .val (Lit (.int .u64 x))), (105, .val (EnvV))]) (nb := []) H45 11 [] rfl (by kernel_rfl) rfl rfl ?_ ?_
      · refine .cons (.plain rfl (ok_addrV0 (.tmp 0 rfl))) ?_
        refine .cons (.plain rfl (ok_loadV0 (.tmp 0 rfl))) ?_
        refine .cons (.plain rfl (ok_cmp (b := false) (.tmp 0 rfl) (.lit) (by decide))) ?_
        refine .cons (.plain rfl (ok_move (.tmp 0 rfl))) ?_
        refine .cons (.unwanted 3 true rfl rfl rfl 0 rfl) ?_
        refine .cons (.unwanted 3 true rfl rfl rfl 0 rfl) ?_
        refine .cons (.unwanted 3 true rfl rfl rfl 0 rfl) ?_
        refine .cons (.unwanted 3 true rfl rfl rfl 0 rfl) ?_
        refine .cons (.unwanted 3 true rfl rfl rfl 0 rfl) ?_
        refine .cons (.plain rfl (ok_pickF (.tmp 0 rfl) (.lit))) ?_
        refine .cons (.plain rfl (ok_assign (.tmp 0 rfl))) ?_
        exact .nil
      clear H45 a45 w45 B45
      intro a46 w46 B46 H46
      refine ops_done ?_
      refine then_normal ?_
      refine wp_seq ?_
      refine wp_block ?_
      refine wp_seq ?_
      refine flow_region (dsts := [some 43, some 44, some 42]) (refs := [[.pre 5], [.res 0], [.res 1]]) (outs := [.res 2, .pre 0, .pre 1, .pre 2, .pre 3, .pre 4, .pre 5, .pre 6, .pre 7, .pre 8, .pre 9]) (als := [false, false, false]) (posts := [.val (Lit (.int .i64 16)), .val (IsB true), .val (IsB true)])
        (out := [(42, .val (IsB true)), (11, .val (IsB false)), (9, .val (Lit (.int .u32 ((toW 32 64 x).1)))), (10, .val (IsB ((toW 32 64 x).2))), (7, .val (Lit (.int .u16 ((toW 16 64 x).1)))), (8, .val (IsB true)), (4, .val (Lit (.int .i64 16))), (5, .val (Lit (.int .u64 ((toW 16 64 x).1)))), (2, .val (IsB false)), (0, .val (Lit (.int .u64 x))), (105, .val (EnvV))]) (nb := []) H46 3 [] rfl (by kernel_rfl) rfl rfl ?_ ?_
      · refine .cons (.plain rfl (ok_move (.tmp 0 rfl))) ?_
        refine .cons (.plain rfl (ok_cmp (b := true) (.tmp 0 rfl) (.lit) (by decide))) ?_
        refine .cons (.plain rfl (ok_assign (.tmp 0 rfl))) ?_
        exact .nil
      clear H46 a46 w46 B46
      intro a47 w47 B47 H47
      refine ops_done ?_
      refine then_normal ?_
      refine f_condT H47 (.tmp 0 rfl) ?_
      refine wp_seq ?_
      refine flow_region (dsts := [some 45, some 46, some 47, some 48, some 49, some 50, some 51, some 52, some 53, some 54, some 55, some 56, some 57, some 58, some 59, some 60, some 61, some 62, some 63, some 64, some 65, some 66, some 67, some 68, some 69, some 2]) (refs := [[.pre 1], [.res 0], [.res 1], [.res 1], [.res 1], [.res 4], [.res 5, .pre 9], [.res 5, .res 6, .pre 10], [.res 5, .res 7], [.res 8], [.res 8], [.res 5, .res 8], [.res 5, .res 11], [.res 12], [.res 13, .pre 4], [.res 13, .res 14], [.res 13, .pre 7], [.res 13, .res 15, .res 16], [.res 13, .res 17], [.res 18], [.res 19, .pre 5], [.res 19, .res 20], [.res 21], [.res 22, .pre 10], [.res 22, .res 23], [.res 24]]) (outs := [.res 25, .pre 2, .pre 3, .pre 5, .pre 6, .pre 7, .pre 9, .pre 10]) (als := [false, false, false, false, false, false, false, false, false, false, false, false, false, false, false, false, false, false, false, false, false, false, false, false, false, false]) (posts := [.val (IsB false), .val (IsB false), .val (IsUndef), .val (IsUndef), .val (IsB false), .val (IsB false), .val (Lit (.int .u64 x)), .val (IsB false), .val (IsB false), .val (IsUndef), .val (IsUndef), .val (IsB false), .val (IsB false), .val (IsB false), .val (Lit (.int .u16 ((toW 16 64 x).1))), .val (Lit (.int .u64 ((toW 16 64 x).1))), .val (Lit (.int .u64 ((toW 16 64 x).1))), .val (IsB true), .val (IsB true), .val (IsB true), .val (IsB true), .val (IsB true), .val (IsB true), .val (IsB true), .val (IsB true), .val (IsB true)])
        (out := [(2, .val (IsB true)), (9, .val (Lit (.int .u32 ((toW 32 64 x).1)))), (10, .val (IsB ((toW 32 64 x).2))), (8, .val (IsB true)), (4, .val (Lit (.int .i64 16))), (5, .val (Lit (.int .u64 ((toW 16 64 x).1)))), (0, .val (Lit (.int .u64 x))), (105, .val (EnvV))]) (nb := []) H47 26 [] rfl (by kernel_rfl) rfl rfl ?_ ?_
      · refine .cons (.plain rfl (ok_move (.tmp 0 rfl))) ?_
        refine .cons (.plain rfl (ok_move (.tmp 0 rfl))) ?_
        refine .cons (.unwanted 1 true rfl rfl rfl 0 rfl) ?_
        refine .cons (.unwanted 1 true rfl rfl rfl 0 rfl) ?_
        refine .cons (.plain rfl (ok_pickF (.tmp 0 rfl) (.lit))) ?_
        refine .cons (.plain rfl (ok_move (.tmp 0 rfl))) ?_
        refine .cons (.wanted 5 false rfl rfl rfl 0 rfl (ok_move (.tmp 1 rfl))) ?_
        refine .cons (.wanted 5 false rfl rfl rfl 0 rfl (ok_callE ((con_nan15 x hx).weak (fun v w B h => by rw [hn] at h; exact h)) 2 rfl (.cons (.tmp 1 rfl) (.nil)))) ?_
        refine .cons (.wanted 5 false rfl rfl rfl 0 rfl (ok_move (.tmp 1 rfl))) ?_
        refine .cons (.unwanted 8 true rfl rfl rfl 0 rfl) ?_
        refine .cons (.unwanted 8 true rfl rfl rfl 0 rfl) ?_
        refine .cons (.wanted 5 false rfl rfl rfl 0 rfl (ok_pickF (.tmp 1 rfl) (.lit))) ?_
        refine .cons (.plain rfl (ok_pickF (.tmp 0 rfl) (.tmp 1 rfl))) ?_
        refine .cons (.plain rfl (ok_move (.tmp 0 rfl))) ?_
        refine .cons (.wanted 13 false rfl rfl rfl 0 rfl (ok_move (.tmp 1 rfl))) ?_
        refine .cons (.wanted 13 false rfl rfl rfl 0 rfl (ok_conv Tryz.underlying22 Tryz.underlying24 (r := ((toW 16 64 x).1)) (.tmp 1 rfl) (w_u64 (by omega)))) ?_
        refine .cons (.wanted 13 false rfl rfl rfl 0 rfl (ok_move (.tmp 1 rfl))) ?_
        refine .cons (.wanted 13 false rfl rfl rfl 0 rfl (ok_cmp (b := true) (.tmp 1 rfl) (.tmp 2 rfl) ((decide_eq_true (rfl)).symm))) ?_
        refine .cons (.plain rfl (ok_pickF (.tmp 0 rfl) (.tmp 1 rfl))) ?_
        refine .cons (.plain rfl (ok_move (.tmp 0 rfl))) ?_
        refine .cons (.wanted 19 true rfl rfl rfl 0 rfl (ok_move (.tmp 1 rfl))) ?_
        refine .cons (.plain rfl (ok_pickT (.tmp 0 rfl) (.tmp 1 rfl))) ?_
        refine .cons (.plain rfl (ok_move (.tmp 0 rfl))) ?_
        refine .cons (.wanted 22 true rfl rfl rfl 0 rfl (ok_callE (con_lives15) 1 rfl (.nil))) ?_
        refine .cons (.plain rfl (ok_pickT (.tmp 0 rfl) (.tmp 1 rfl))) ?_
        refine .cons (.plain rfl (ok_assign (.tmp 0 rfl))) ?_
        exact .nil
      clear H47 a47 w47 B47
      intro a48 w48 B48 H48
      refine ops_done ?_
      refine then_normal ?_
      refine wp_ret ?_
      refine block_ret ?_
      refine then_ret ?_
      exact f_ret H48 rfl 0 rfl (fun _ _ _ h => h)
  · refine flow_region (dsts := [some 12, some 13, some 3]) (refs := [[.pre 1], [.res 0, .pre 2], []]) (outs := [.res 1, .res 2, .pre 0, .pre 1, .pre 2]) (als := [false, false, true]) (posts := [.val (Lit (.int .u64 x)), .val (IsNum (ofV 64 x)), .box 37 8 (IsVal 0 0 (IsI 0) 0 0 (⟨#[]⟩) (K0))])
      (out := [(13, .val (IsNum (ofV 64 x))), (3, .box 37 8 (IsVal 0 0 (IsI 0) 0 0 (⟨#[]⟩) (K0))), (2, .val (IsB false)), (0, .val (Lit (.int .u64 x))), (105, .val (EnvV))]) (nb := [3]) H1 3 [3] rfl (by kernel_rfl) rfl rfl ?_ ?_
    · refine .cons (.plain rfl (ok_move (.tmp 0 rfl))) ?_
      refine .cons (.plain rfl (ok_callE (con_of64 x hx) 1 rfl (.cons (.tmp 0 rfl) (.nil)))) ?_
      refine .cons (.plain rfl (ok_allocV)) ?_
      exact .nil
    clear H1 a1 w1 B1
    intro a49 w49 B49 H49
    simp only [List.cons_append, List.nil_append] at H49
    refine ops_one ?_
    refine store_op (l' := [(13, .val (IsNum (ofV 64 x))), (3, .box 37 8 (IsNum (ofV 64 x))), (2, .val (IsB false)), (0, .val (Lit (.int .u64 x))), (105, .val (EnvV))]) 1 H49 rfl tyV rfl (.tmp 0 rfl) (shape_Val shape_I oneK0) shape_Num rfl rfl ?_
    clear H49 w49
    intro w50 H50
    refine ops_done ?_
    refine then_normal ?_
    refine wp_seq ?_
    rcases (nv_cases (ofV 64 x)) with qz | ⟨N, qz, hN⟩ | ⟨b, qz⟩
    · rw [qz] at qp
      have H51 := St.setwB H50 1 (D' := IsNum (.int 0)) rfl (fun v h => num_eq qz h) (l' := [(13, .val (IsNum (ofV 64 x))), (3, .box 37 8 (IsNum (.int 0))), (2, .val (IsB false)), (0, .val (Lit (.int .u64 x))), (105, .val (EnvV))]) rfl
      clear H50
      refine flow_region (dsts := [some 15, some 16, some 14, some 17, some 18, some 19, some 4, some 5, some 6]) (refs := [[.pre 1], [.res 0, .pre 4], [.res 1], [.res 2], [.res 2], [.res 2], [.res 3], [.res 4], [.res 5]]) (outs := [.res 6, .res 7, .res 8, .pre 1, .pre 2, .pre 3, .pre 4]) (als := [false, false, false, false, false, false, false, false, false]) (posts := [.val (IsNum (.int 0)), .val (Tup [Lit (.int .i64 32), Lit (.int .u64 ((toW 32 64 x).1)), IsB true]), .val (Tup [Lit (.int .i64 32), Lit (.int .u64 ((toW 32 64 x).1)), IsB true]), .val (Lit (.int .i64 32)), .val (Lit (.int .u64 ((toW 32 64 x).1))), .val (IsB true), .val (Lit (.int .i64 32)), .val (Lit (.int .u64 ((toW 32 64 x).1))), .val (IsB true)])
        (out := [(4, .val (Lit (.int .i64 32))), (5, .val (Lit (.int .u64 ((toW 32 64 x).1)))), (6, .val (IsB true)), (3, .box 37 8 (IsNum (.int 0))), (2, .val (IsB false)), (0, .val (Lit (.int .u64 x))), (105, .val (EnvV))]) (nb := []) H51 9 [] rfl (by kernel_rfl) rfl rfl ?_ ?_
      · refine .cons (.plain rfl (ok_load tyV (.tmp 0 rfl))) ?_
        refine .cons (.plain rfl (ok_callE ((con_narrow (.int 0) trivial).weak (fun v w B h => by rw [qp] at h; exact h)) 1 rfl (.cons (.tmp 0 rfl) (.nil)))) ?_
        refine .cons (.plain rfl (ok_move (.tmp 0 rfl))) ?_
        refine .cons (.plain rfl (ok_extract 0 (.tmp 0 rfl) rfl)) ?_
        refine .cons (.plain rfl (ok_extract 1 (.tmp 0 rfl) rfl)) ?_
        refine .cons (.plain rfl (ok_extract 2 (.tmp 0 rfl) rfl)) ?_
        refine .cons (.plain rfl (ok_assign (.tmp 0 rfl))) ?_
        refine .cons (.plain rfl (ok_assign (.tmp 0 rfl))) ?_
        refine .cons (.plain rfl (ok_assign (.tmp 0 rfl))) ?_
        exact .nil
      clear H51 a49 w50 B49
      intro a52 w52 B52 H52
      refine ops_done ?_
      refine then_normal ?_
      refine wp_seq ?_
      refine wp_seq ?_
      refine flow_region (dsts := [some 20, some 21]) (refs := [[.pre 2], [.res 0]]) (outs := [.res 1, .pre 0, .pre 1, .pre 3, .pre 4, .pre 5, .pre 6]) (als := [false, false]) (posts := [.val (IsB true), .val (IsB false)])
        (out := [(21, .val (IsB false)), (4, .val (Lit (.int .i64 32))), (5, .val (Lit (.int .u64 ((toW 32 64 x).1)))), (3, .box 37 8 (IsNum (.int 0))), (2, .val (IsB false)), (0, .val (Lit (.int .u64 x))), (105, .val (EnvV))]) (nb := []) H52 2 [] rfl (by kernel_rfl) rfl rfl ?_ ?_
      · refine .cons (.plain rfl (ok_move (.tmp 0 rfl))) ?_
        refine .cons (.plain rfl (ok_not (b := true) (.tmp 0 rfl))) ?_
        exact .nil
      clear H52 a52 w52 B52
      intro a53 w53 B53 H53
      refine ops_done ?_
      refine then_normal ?_
      refine f_condF H53 (.tmp 0 rfl) ?_
      refine wp_skip ?_
      refine then_normal ?_
      refine wp_seq ?_
      refine flow_region (dsts := [some 23, some 24, some 22, some 25, some 26, some 7, some 8]) (refs := [[.pre 5], [.res 0, .pre 6], [.res 1], [.res 2], [.res 2], [.res 3], [.res 4]]) (outs := [.res 5, .res 6, .pre 1, .pre 2, .pre 3, .pre 4, .pre 5, .pre 6]) (als := [false, false, false, false, false, false, false]) (posts := [.val (Lit (.int .u64 x)), .val (Tup [Lit (.int .u16 ((toW 16 64 x).1)), IsB false]), .val (Tup [Lit (.int .u16 ((toW 16 64 x).1)), IsB false]), .val (Lit (.int .u16 ((toW 16 64 x).1))), .val (IsB false), .val (Lit (.int .u16 ((toW 16 64 x).1))), .val (IsB false)])
        (out := [(7, .val (Lit (.int .u16 ((toW 16 64 x).1)))), (8, .val (IsB false)), (4, .val (Lit (.int .i64 32))), (5, .val (Lit (.int .u64 ((toW 32 64 x).1)))), (3, .box 37 8 (IsNum (.int 0))), (2, .val (IsB false)), (0, .val (Lit (.int .u64 x))), (105, .val (EnvV))]) (nb := []) H53 7 [] rfl (by kernel_rfl) rfl rfl ?_ ?_
      · refine .cons (.plain rfl (ok_move (.tmp 0 rfl))) ?_
        refine .cons (.plain rfl (ok_callE ((con_to1664 x hx).weak (fun v w B h => by rw [q16] at h; exact h)) 1 rfl (.cons (.tmp 0 rfl) (.nil)))) ?_
        refine .cons (.plain rfl (ok_move (.tmp 0 rfl))) ?_
        refine .cons (.plain rfl (ok_extract 0 (.tmp 0 rfl) rfl)) ?_
        refine .cons (.plain rfl (ok_extract 1 (.tmp 0 rfl) rfl)) ?_
        refine .cons (.plain rfl (ok_assign (.tmp 0 rfl))) ?_
        refine .cons (.plain rfl (ok_assign (.tmp 0 rfl))) ?_
        exact .nil
      clear H53 a53 w53 B53
      intro a54 w54 B54 H54
      refine ops_done ?_
      refine then_normal ?_
      refine wp_seq ?_
      refine flow_region (dsts := [some 28, some 29, some 27, some 30, some 31, some 9, some 10]) (refs := [[.pre 6], [.res 0, .pre 7], [.res 1], [.res 2], [.res 2], [.res 3], [.res 4]]) (outs := [.res 5, .res 6, .pre 0, .pre 1, .pre 2, .pre 3, .pre 4, .pre 5, .pre 6, .pre 7]) (als := [false, false, false, false, false, false, false]) (posts := [.val (Lit (.int .u64 x)), .val (Tup [Lit (.int .u32 ((toW 32 64 x).1)), IsB true]), .val (Tup [Lit (.int .u32 ((toW 32 64 x).1)), IsB true]), .val (Lit (.int .u32 ((toW 32 64 x).1))), .val (IsB true), .val (Lit (.int .u32 ((toW 32 64 x).1))), .val (IsB true)])
        (out := [(9, .val (Lit (.int .u32 ((toW 32 64 x).1)))), (10, .val (IsB true)), (7, .val (Lit (.int .u16 ((toW 16 64 x).1)))), (8, .val (IsB false)), (4, .val (Lit (.int .i64 32))), (5, .val (Lit (.int .u64 ((toW 32 64 x).1)))), (3, .box 37 8 (IsNum (.int 0))), (2, .val (IsB false)), (0, .val (Lit (.int .u64 x))), (105, .val (EnvV))]) (nb := []) H54 7 [] rfl (by kernel_rfl) rfl rfl ?_ ?_
      · refine .cons (.plain rfl (ok_move (.tmp 0 rfl))) ?_
        refine .cons (.plain rfl (ok_callE ((con_to3264 x hx).weak (fun v w B h => by rw [q32] at h; exact h)) 1 rfl (.cons (.tmp 0 rfl) (.nil)))) ?_
        refine .cons (.plain rfl (ok_move (.tmp 0 rfl))) ?_
        refine .cons (.plain rfl (ok_extract 0 (.tmp 0 rfl) rfl)) ?_
        refine .cons (.plain rfl (ok_extract 1 (.tmp 0 rfl) rfl)) ?_
        refine .cons (.plain rfl (ok_assign (.tmp 0 rfl))) ?_
        refine .cons (.plain rfl (ok_assign (.tmp 0 rfl))) ?_
        exact .nil
      clear H54 a54 w54 B54
      intro a55 w55 B55 H55
      refine ops_done ?_
      refine then_normal ?_
      refine wp_seq ?_
      refine flow_region (dsts := [some 32, some 33, some 34, some 35, some 36, some 37, some 38, some 39, some 40, some 41, some 11]) (refs := [[.pre 6], [.res 0], [.res 1], [.res 2], [.res 3, .pre 6], [.res 3, .res 4], [.res 3, .res 5], [.res 3, .res 6], [.res 3, .res 7], [.res 3, .res 8], [.res 9]]) (outs := [.res 10, .pre 0, .pre 1, .pre 2, .pre 3, .pre 4, .pre 5, .pre 7, .pre 8, .pre 9]) (als := [false, false, false, false, false, false, false, false, false, false, false]) (posts := [.ptr 37 8 (IsNum (.int 0)) 0, .val (Lit (.int .i8 3)), .val (IsB true), .val (IsB true), .ptr 37 8 (IsNum (.int 0)) 2, .ptr 37 8 (IsNum (.int 0)) 3, .val (IsC ((0 : Int).natAbs : Int)), .val (Lit (.int .i64 ((dg 4294967296 ((0 : Int).natAbs : Int)).length : Int))), .val (IsB true), .val (IsB true), .val (IsB true)])
        (out := [(11, .val (IsB true)), (9, .val (Lit (.int .u32 ((toW 32 64 x).1)))), (10, .val (IsB true)), (7, .val (Lit (.int .u16 ((toW 16 64 x).1)))), (8, .val (IsB false)), (4, .val (Lit (.int .i64 32))), (5, .val (Lit (.int .u64 ((toW 32 64 x).1)))), (2, .val (IsB false)), (0, .val (Lit (.int .u64 x))), (105, .val (EnvV))]) (nb := []) H55 11 [] rfl (by kernel_rfl) rfl rfl ?_ ?_
      · refine .cons (.plain rfl (ok_addrV0 (.tmp 0 rfl))) ?_
        refine .cons (.plain rfl (ok_loadV0 (.tmp 0 rfl))) ?_
        refine .cons (.plain rfl (ok_cmp (b := true) (.tmp 0 rfl) (.lit) (by decide))) ?_
        refine .cons (.plain rfl (ok_move (.tmp 0 rfl))) ?_
        refine .cons (.wanted 3 true rfl rfl rfl 0 rfl (ok_addrV2 (.tmp 1 rfl))) ?_
        refine .cons (.wanted 3 true rfl rfl rfl 0 rfl (ok_addrVI1 (.tmp 1 rfl))) ?_
        refine .cons (.wanted 3 true rfl rfl rfl 0 rfl (ok_loadVM (.tmp 1 rfl))) ?_
        refine .cons (.wanted 3 true rfl rfl rfl 0 rfl (ok_lenC (.tmp 1 rfl))) ?_
        refine .cons (.wanted 3 true rfl rfl rfl 0 rfl (ok_cmp (b := true) (.tmp 1 rfl) (.lit) ((decide_eq_true ((dg_zero_iff 0).2 rfl)).symm))) ?_
        refine .cons (.plain rfl (ok_pickT (.tmp 0 rfl) (.tmp 1 rfl))) ?_
        refine .cons (.plain rfl (ok_assign (.tmp 0 rfl))) ?_
        exact .nil
      clear H55 a55 w55 B55
      intro a56 w56 B56 H56
      refine ops_done ?_
      refine then_normal ?_
      refine wp_seq ?_
      refine wp_block ?_
      refine wp_seq ?_
      refine flow_region (dsts := [some 43, some 44, some 42]) (refs := [[.pre 5], [.res 0], [.res 1]]) (outs := [.res 2, .pre 0, .pre 1, .pre 2, .pre 3, .pre 4, .pre 5, .pre 6, .pre 7, .pre 8, .pre 9]) (als := [false, false, false]) (posts := [.val (Lit (.int .i64 32)), .val (IsB false), .val (IsB false)])
        (out := [(42, .val (IsB false)), (11, .val (IsB true)), (9, .val (Lit (.int .u32 ((toW 32 64 x).1)))), (10, .val (IsB true)), (7, .val (Lit (.int .u16 ((toW 16 64 x).1)))), (8, .val (IsB false)), (4, .val (Lit (.int .i64 32))), (5, .val (Lit (.int .u64 ((toW 32 64 x).1)))), (2, .val (IsB false)), (0, .val (Lit (.int .u64 x))), (105, .val (EnvV))]) (nb := []) H56 3 [] rfl (by kernel_rfl) rfl rfl ?_ ?_
      · refine .cons (.plain rfl (ok_move (.tmp 0 rfl))) ?_
        refine .cons (.plain rfl (ok_cmp (b := false) (.tmp 0 rfl) (.lit) (by decide))) ?_
        refine .cons (.plain rfl (ok_assign (.tmp 0 rfl))) ?_
        exact .nil
      clear H56 a56 w56 B56
      intro a57 w57 B57 H57
      refine ops_done ?_
      refine then_normal ?_
      refine f_condF H57 (.tmp 0 rfl) ?_
      refine wp_seq ?_
      refine flow_region (dsts := [some 71, some 72, some 70]) (refs := [[.pre 6], [.res 0], [.res 1]]) (outs := [.res 2, .pre 2, .pre 3, .pre 5, .pre 6, .pre 7, .pre 8, .pre 9, .pre 10]) (als := [false, false, false]) (posts := [.val (Lit (.int .i64 32)), .val (IsB true), .val (IsB true)])
        (out := [(70, .val (IsB true)), (9, .val (Lit (.int .u32 ((toW 32 64 x).1)))), (10, .val (IsB true)), (8, .val (IsB false)), (4, .val (Lit (.int .i64 32))), (5, .val (Lit (.int .u64 ((toW 32 64 x).1)))), (2, .val (IsB false)), (0, .val (Lit (.int .u64 x))), (105, .val (EnvV))]) (nb := []) H57 3 [] rfl (by kernel_rfl) rfl rfl ?_ ?_
      · refine .cons (.plain rfl (ok_move (.tmp 0 rfl))) ?_
        refine .cons (.plain rfl (ok_cmp (b := true) (.tmp 0 rfl) (.lit) (by decide))) ?_
        refine .cons (.plain rfl (ok_assign (.tmp 0 rfl))) ?_
        exact .nil
      clear H57 a57 w57 B57
      intro a58 w58 B58 H58
      refine ops_done ?_
      refine then_normal ?_
      refine f_condT H58 (.tmp 0 rfl) ?_
      refine wp_seq ?_
      refine flow_region (dsts := [some 73, some 74, some 75, some 76, some 77, some 78, some 79, some 80, some 81, some 82, some 83, some 84, some 85, some 86, some 2]) (refs := [[.pre 1], [.res 0], [.pre 5], [.res 1, .res 2], [.res 3], [.res 4, .pre 2], [.res 4, .res 5], [.res 6], [.res 7, .pre 3], [.res 7, .res 8], [.res 7, .res 9], [.res 10], [.res 11, .pre 8], [.res 11, .res 12], [.res 13]]) (outs := [.res 14, .pre 2, .pre 3, .pre 4, .pre 5, .pre 7, .pre 8]) (als := [false, false, false, false, false, false, false, false, false, false, false, false, false, false, false]) (posts := [.val (Lit (.int .u32 ((toW 32 64 x).1))), .val (Lit (.int .u64 ((toW 32 64 x).1))), .val (Lit (.int .u64 ((toW 32 64 x).1))), .val (IsB true), .val (IsB true), .val (IsB true), .val (IsB true), .val (IsB true), .val (IsB false), .val (IsB true), .val (IsB true), .val (IsB true), .val (IsB true), .val (IsB true), .val (IsB true)])
        (out := [(2, .val (IsB true)), (10, .val (IsB true)), (8, .val (IsB false)), (4, .val (Lit (.int .i64 32))), (5, .val (Lit (.int .u64 ((toW 32 64 x).1)))), (0, .val (Lit (.int .u64 x))), (105, .val (EnvV))]) (nb := []) H58 15 [] rfl (by kernel_rfl) rfl rfl ?_ ?_
      · refine .cons (.plain rfl (ok_move (.tmp 0 rfl))) ?_
        refine .cons (.plain rfl (ok_conv Tryz.underlying23 Tryz.underlying24 (r := ((toW 32 64 x).1)) (.tmp 0 rfl) (w_u64 (by omega)))) ?_
        refine .cons (.plain rfl (ok_move (.tmp 0 rfl))) ?_
        refine .cons (.plain rfl (ok_cmp (b := true) (.tmp 0 rfl) (.tmp 1 rfl) ((decide_eq_true (rfl)).symm))) ?_
        refine .cons (.plain rfl (ok_move (.tmp 0 rfl))) ?_
        refine .cons (.wanted 4 true rfl rfl rfl 0 rfl (ok_move (.tmp 1 rfl))) ?_
        refine .cons (.plain rfl (ok_pickT (.tmp 0 rfl) (.tmp 1 rfl))) ?_
        refine .cons (.plain rfl (ok_move (.tmp 0 rfl))) ?_
        refine .cons (.wanted 7 true rfl rfl rfl 0 rfl (ok_move (.tmp 1 rfl))) ?_
        refine .cons (.wanted 7 true rfl rfl rfl 0 rfl (ok_not (b := false) (.tmp 1 rfl))) ?_
        refine .cons (.plain rfl (ok_pickT (.tmp 0 rfl) (.tmp 1 rfl))) ?_
        refine .cons (.plain rfl (ok_move (.tmp 0 rfl))) ?_
        refine .cons (.wanted 11 true rfl rfl rfl 0 rfl (ok_callE (con_lives15) 1 rfl (.nil))) ?_
        refine .cons (.plain rfl (ok_pickT (.tmp 0 rfl) (.tmp 1 rfl))) ?_
        refine .cons (.plain rfl (ok_assign (.tmp 0 rfl))) ?_
        exact .nil
      clear H58 a58 w58 B58
      intro a59 w59 B59 H59
      refine ops_done ?_
      refine then_normal ?_
      refine wp_ret ?_
      refine block_ret ?_
      refine then_ret ?_
      exact f_ret H59 rfl 0 rfl (fun _ _ _ h => h)
    · rw [qz] at qp
      have H60 := St.setwB H50 1 (D' := IsNum (.int N)) rfl (fun v h => num_eq qz h) (l' := [(13, .val (IsNum (ofV 64 x))), (3, .box 37 8 (IsNum (.int N))), (2, .val (IsB false)), (0, .val (Lit (.int .u64 x))), (105, .val (EnvV))]) rfl
      clear H50
      refine flow_region (dsts := [some 15, some 16, some 14, some 17, some 18, some 19, some 4, some 5, some 6]) (refs := [[.pre 1], [.res 0, .pre 4], [.res 1], [.res 2], [.res 2], [.res 2], [.res 3], [.res 4], [.res 5]]) (outs := [.res 6, .res 7, .res 8, .pre 1, .pre 2, .pre 3, .pre 4]) (als := [false, false, false, false, false, false, false, false, false]) (posts := [.val (IsNum (.int N)), .val (Tup [Lit (.int .i64 32), Lit (.int .u64 ((toW 32 64 x).1)), IsB true]), .val (Tup [Lit (.int .i64 32), Lit (.int .u64 ((toW 32 64 x).1)), IsB true]), .val (Lit (.int .i64 32)), .val (Lit (.int .u64 ((toW 32 64 x).1))), .val (IsB true), .val (Lit (.int .i64 32)), .val (Lit (.int .u64 ((toW 32 64 x).1))), .val (IsB true)])
        (out := [(4, .val (Lit (.int .i64 32))), (5, .val (Lit (.int .u64 ((toW 32 64 x).1)))), (6, .val (IsB true)), (3, .box 37 8 (IsNum (.int N))), (2, .val (IsB false)), (0, .val (Lit (.int .u64 x))), (105, .val (EnvV))]) (nb := []) H60 9 [] rfl (by kernel_rfl) rfl rfl ?_ ?_
      · refine .cons (.plain rfl (ok_load tyV (.tmp 0 rfl))) ?_
        refine .cons (.plain rfl (ok_callE ((con_narrow (.int N) trivial).weak (fun v w B h => by rw [qp] at h; exact h)) 1 rfl (.cons (.tmp 0 rfl) (.nil)))) ?_
        refine .cons (.plain rfl (ok_move (.tmp 0 rfl))) ?_
        refine .cons (.plain rfl (ok_extract 0 (.tmp 0 rfl) rfl)) ?_
        refine .cons (.plain rfl (ok_extract 1 (.tmp 0 rfl) rfl)) ?_
        refine .cons (.plain rfl (ok_extract 2 (.tmp 0 rfl) rfl)) ?_
        refine .cons (.plain rfl (ok_assign (.tmp 0 rfl))) ?_
        refine .cons (.plain rfl (ok_assign (.tmp 0 rfl))) ?_
        refine .cons (.plain rfl (ok_assign (.tmp 0 rfl))) ?_
        exact .nil
      clear H60 a49 w50 B49
      intro a61 w61 B61 H61
      refine ops_done ?_
      refine then_normal ?_
      refine wp_seq ?_
      refine wp_seq ?_
      refine flow_region (dsts := [some 20, some 21]) (refs := [[.pre 2], [.res 0]]) (outs := [.res 1, .pre 0, .pre 1, .pre 3, .pre 4, .pre 5, .pre 6]) (als := [false, false]) (posts := [.val (IsB true), .val (IsB false)])
        (out := [(21, .val (IsB false)), (4, .val (Lit (.int .i64 32))), (5, .val (Lit (.int .u64 ((toW 32 64 x).1)))), (3, .box 37 8 (IsNum (.int N))), (2, .val (IsB false)), (0, .val (Lit (.int .u64 x))), (105, .val (EnvV))]) (nb := []) H61 2 [] rfl (by kernel_rfl) rfl rfl ?_ ?_
      · refine .cons (.plain rfl (ok_move (.tmp 0 rfl))) ?_
        refine .cons (.plain rfl (ok_not (b := true) (.tmp 0 rfl))) ?_
        exact .nil
      clear H61 a61 w61 B61
      intro a62 w62 B62 H62
      refine ops_done ?_
      refine then_normal ?_
      refine f_condF H62 (.tmp 0 rfl) ?_
      refine wp_skip ?_
      refine then_normal ?_
      refine wp_seq ?_
      refine flow_region (dsts := [some 23, some 24, some 22, some 25, some 26, some 7, some 8]) (refs := [[.pre 5], [.res 0, .pre 6], [.res 1], [.res 2], [.res 2], [.res 3], [.res 4]]) (outs := [.res 5, .res 6, .pre 1, .pre 2, .pre 3, .pre 4, .pre 5, .pre 6]) (als := [false, false, false, false, false, false, false]) (posts := [.val (Lit (.int .u64 x)), .val (Tup [Lit (.int .u16 ((toW 16 64 x).1)), IsB false]), .val (Tup [Lit (.int .u16 ((toW 16 64 x).1)), IsB false]), .val (Lit (.int .u16 ((toW 16 64 x).1))), .val (IsB false), .val (Lit (.int .u16 ((toW 16 64 x).1))), .val (IsB false)])
        (out := [(7, .val (Lit (.int .u16 ((toW 16 64 x).1)))), (8, .val (IsB false)), (4, .val (Lit (.int .i64 32))), (5, .val (Lit (.int .u64 ((toW 32 64 x).1)))), (3, .box 37 8 (IsNum (.int N))), (2, .val (IsB false)), (0, .val (Lit (.int .u64 x))), (105, .val (EnvV))]) (nb := []) H62 7 [] rfl (by kernel_rfl) rfl rfl ?_ ?_
      · refine .cons (.plain rfl (ok_move (.tmp 0 rfl))) ?_
        refine .cons (.plain rfl (ok_callE ((con_to1664 x hx).weak (fun v w B h => by rw [q16] at h; exact h)) 1 rfl (.cons (.tmp 0 rfl) (.nil)))) ?_
        refine .cons (.plain rfl (ok_move (.tmp 0 rfl))) ?_
        refine .cons (.plain rfl (ok_extract 0 (.tmp 0 rfl) rfl)) ?_
        refine .cons (.plain rfl (ok_extract 1 (.tmp 0 rfl) rfl)) ?_
        refine .cons (.plain rfl (ok_assign (.tmp 0 rfl))) ?_
        refine .cons (.plain rfl (ok_assign (.tmp 0 rfl))) ?_
        exact .nil
      clear H62 a62 w62 B62
      intro a63 w63 B63 H63
      refine ops_done ?_
      refine then_normal ?_
      refine wp_seq ?_
      refine flow_region (dsts := [some 28, some 29, some 27, some 30, some 31, some 9, some 10]) (refs := [[.pre 6], [.res 0, .pre 7], [.res 1], [.res 2], [.res 2], [.res 3], [.res 4]]) (outs := [.res 5, .res 6, .pre 0, .pre 1, .pre 2, .pre 3, .pre 4, .pre 5, .pre 6, .pre 7]) (als := [false, false, false, false, false, false, false]) (posts := [.val (Lit (.int .u64 x)), .val (Tup [Lit (.int .u32 ((toW 32 64 x).1)), IsB true]), .val (Tup [Lit (.int .u32 ((toW 32 64 x).1)), IsB true]), .val (Lit (.int .u32 ((toW 32 64 x).1))), .val (IsB true), .val (Lit (.int .u32 ((toW 32 64 x).1))), .val (IsB true)])
        (out := [(9, .val (Lit (.int .u32 ((toW 32 64 x).1)))), (10, .val (IsB true)), (7, .val (Lit (.int .u16 ((toW 16 64 x).1)))), (8, .val (IsB false)), (4, .val (Lit (.int .i64 32))), (5, .val (Lit (.int .u64 ((toW 32 64 x).1)))), (3, .box 37 8 (IsNum (.int N))), (2, .val (IsB false)), (0, .val (Lit (.int .u64 x))), (105, .val (EnvV))]) (nb := []) H63 7 [] rfl (by kernel_rfl) rfl rfl ?_ ?_
      · refine .cons (.plain rfl (ok_move (.tmp 0 rfl))) ?_
        refine .cons (.plain rfl (ok_callE ((con_to3264 x hx).weak (fun v w B h => by rw [q32] at h; exact h)) 1 rfl (.cons (.tmp 0 rfl) (.nil)))) ?_
        refine .cons (.plain rfl (ok_move (.tmp 0 rfl))) ?_
        refine .cons (.plain rfl (ok_extract 0 (.tmp 0 rfl) rfl)) ?_
        refine .cons (.plain rfl (ok_extract 1 (.tmp 0 rfl) rfl)) ?_
        refine .cons (.plain rfl (ok_assign (.tmp 0 rfl))) ?_
        refine .cons (.plain rfl (ok_assign (.tmp 0 rfl))) ?_
        exact .nil
      clear H63 a63 w63 B63
      intro a64 w64 B64 H64
      refine ops_done ?_
      refine then_normal ?_
      refine wp_seq ?_
      refine flow_region (dsts := [some 32, some 33, some 34, some 35, some 36, some 37, some 38, some 39, some 40, some 41, some 11]) (refs := [[.pre 6], [.res 0], [.res 1], [.res 2], [.res 3, .pre 6], [.res 3, .res 4], [.res 3, .res 5], [.res 3, .res 6], [.res 3, .res 7], [.res 3, .res 8], [.res 9]]) (outs := [.res 10, .pre 0, .pre 1, .pre 2, .pre 3, .pre 4, .pre 5, .pre 7, .pre 8, .pre 9]) (als := [false, false, false, false, false, false, false, false, false, false, false]) (posts := [.ptr 37 8 (IsNum (.int N)) 0, .val (Lit (.int .i8 3)), .val (IsB true), .val (IsB true), .ptr 37 8 (IsNum (.int N)) 2, .ptr 37 8 (IsNum (.int N)) 3, .val (IsC ((N).natAbs : Int)), .val (Lit (.int .i64 ((dg 4294967296 ((N).natAbs : Int)).length : Int))), .val (IsB false), .val (IsB false), .val (IsB false)])
        (out := [(11, .val (IsB false)), (9, .val (Lit (.int .u32 ((toW 32 64 x).1)))), (10, .val (IsB true)), (7, .val (Lit (.int .u16 ((toW 16 64 x).1)))), (8, .val (IsB false)), (4, .val (Lit (.int .i64 32))), (5, .val (Lit (.int .u64 ((toW 32 64 x).1)))), (2, .val (IsB false)), (0, .val (Lit (.int .u64 x))), (105, .val (EnvV))]) (nb := []) H64 11 [] rfl (by kernel_rfl) rfl rfl ?_ ?_
      · refine .cons (.plain rfl (ok_addrV0 (.tmp 0 rfl))) ?_
        refine .cons (.plain rfl (ok_loadV0 (.tmp 0 rfl))) ?_
        refine .cons (.plain rfl (ok_cmp (b := true) (.tmp 0 rfl) (.lit) (by decide))) ?_
        refine .cons (.plain rfl (ok_move (.tmp 0 rfl))) ?_
        refine .cons (.wanted 3 true rfl rfl rfl 0 rfl (ok_addrV2 (.tmp 1 rfl))) ?_
        refine .cons (.wanted 3 true rfl rfl rfl 0 rfl (ok_addrVI1 (.tmp 1 rfl))) ?_
        refine .cons (.wanted 3 true rfl rfl rfl 0 rfl (ok_loadVM (.tmp 1 rfl))) ?_
        refine .cons (.wanted 3 true rfl rfl rfl 0 rfl (ok_lenC (.tmp 1 rfl))) ?_
        refine .cons (.wanted 3 true rfl rfl rfl 0 rfl (ok_cmp (b := false) (.tmp 1 rfl) (.lit) ((decide_eq_false (fun h => hN ((dg_zero_iff N).1 h))).symm))) ?_
        refine .cons (.plain rfl (ok_pickT (.tmp 0 rfl) (.tmp 1 rfl))) ?_
        refine .cons (.plain rfl (ok_assign (.tmp 0 rfl))) ?_
        exact .nil
      clear H64 a64 w64 B64
      intro a65 w65 B65 H65
      refine ops_done ?_
      refine then_normal ?_
      refine wp_seq ?_
      refine wp_block ?_
      refine wp_seq ?_
      refine flow_region (dsts := [some 43, some 44, some 42]) (refs := [[.pre 5], [.res 0], [.res 1]]) (outs := [.res 2, .pre 0, .pre 1, .pre 2, .pre 3, .pre 4, .pre 5, .pre 6, .pre 7, .pre 8, .pre 9]) (als := [false, false, false]) (posts := [.val (Lit (.int .i64 32)), .val (IsB false), .val (IsB false)])
        (out := [(42, .val (IsB false)), (11, .val (IsB false)), (9, .val (Lit (.int .u32 ((toW 32 64 x).1)))), (10, .val (IsB true)), (7, .val (Lit (.int .u16 ((toW 16 64 x).1)))), (8, .val (IsB false)), (4, .val (Lit (.int .i64 32))), (5, .val (Lit (.int .u64 ((toW 32 64 x).1)))), (2, .val (IsB false)), (0, .val (Lit (.int .u64 x))), (105, .val (EnvV))]) (nb := []) H65 3 [] rfl (by kernel_rfl) rfl rfl ?_ ?_
      · refine .cons (.plain rfl (ok_move (.tmp 0 rfl))) ?_
        refine .cons (.plain rfl (ok_cmp (b := false) (.tmp 0 rfl) (.lit) (by decide))) ?_
        refine .cons (.plain rfl (ok_assign (.tmp 0 rfl))) ?_
        exact .nil
      clear H65 a65 w65 B65
      intro a66 w66 B66 H66
      refine ops_done ?_
      refine then_normal ?_
      refine f_condF H66 (.tmp 0 rfl) ?_
      refine wp_seq ?_
      refine flow_region (dsts := [some 71, some 72, some 70]) (refs := [[.pre 6], [.res 0], [.res 1]]) (outs := [.res 2, .pre 2, .pre 3, .pre 5, .pre 6, .pre 7, .pre 8, .pre 9, .pre 10]) (als := [false, false, false]) (posts := [.val (Lit (.int .i64 32)), .val (IsB true), .val (IsB true)])
        (out := [(70, .val (IsB true)), (9, .val (Lit (.int .u32 ((toW 32 64 x).1)))), (10, .val (IsB true)), (8, .val (IsB false)), (4, .val (Lit (.int .i64 32))), (5, .val (Lit (.int .u64 ((toW 32 64 x).1)))), (2, .val (IsB false)), (0, .val (Lit (.int .u64 x))), (105, .val (EnvV))]) (nb := []) H66 3 [] rfl (by kernel_rfl) rfl rfl ?_ ?_
      · refine .cons (.plain rfl (ok_move (.tmp 0 rfl))) ?_
        refine .cons (.plain rfl (ok_cmp (b := true) (.tmp 0 rfl) (.lit) (by decide))) ?_
        refine .cons (.plain rfl (ok_assign (.tmp 0 rfl))) ?_
        exact .nil
      clear H66 a66 w66 B66
      intro a67 w67 B67 H67
      refine ops_done ?_
      refine then_normal ?_
      refine f_condT H67 (.tmp 0 rfl) ?_
      refine wp_seq ?_
      refine flow_region (dsts := [some 73, some 74, some 75, some 76, some 77, some 78, some 79, some 80, some 81, some 82, some 83, some 84, some 85, some 86, some 2]) (refs := [[.pre 1], [.res 0], [.pre 5], [.res 1, .res 2], [.res 3], [.res 4, .pre 2], [.res 4, .res 5], [.res 6], [.res 7, .pre 3], [.res 7, .res 8], [.res 7, .res 9], [.res 10], [.res 11, .pre 8], [.res 11, .res 12], [.res 13]]) (outs := [.res 14, .pre 2, .pre 3, .pre 4, .pre 5, .pre 7, .pre 8]) (als := [false, false, false, false, false, false, false, false, false, false, false, false, false, false, false]) (posts := [.val (Lit (.int .u32 ((toW 32 64 x).1))), .val (Lit (.int .u64 ((toW 32 64 x).1))), .val (Lit (.int .u64 ((toW 32 64 x).1))), .val (IsB true), .val (IsB true), .val (IsB true), .val (IsB true), .val (IsB true), .val (IsB false), .val (IsB true), .val (IsB true), .val (IsB true), .val (IsB true), .val (IsB true), .val (IsB true)])
        (out := [(2, .val (IsB true)), (10, .val (IsB true)), (8, .val (IsB false)), (4, .val (Lit (.int .i64 32))), (5, .val (Lit (.int .u64 ((toW 32 64 x).1)))), (0, .val (Lit (.int .u64 x))), (105, .val (EnvV))]) (nb := []) H67 15 [] rfl (by kernel_rfl) rfl rfl ?_ ?_
      · refine .cons (.plain rfl (ok_move (.tmp 0 rfl))) ?_
        refine .cons (.plain rfl (ok_conv Tryz.underlying23 Tryz.underlying24 (r := ((toW 32 64 x).1)) (.tmp 0 rfl) (w_u64 (by omega)))) ?_
        refine .cons (.plain rfl (ok_move (.tmp 0 rfl))) ?_
        refine .cons (.plain rfl (ok_cmp (b := true) (.tmp 0 rfl) (.tmp 1 rfl) ((decide_eq_true (rfl)).symm))) ?_
        refine .cons (.plain rfl (ok_move (.tmp 0 rfl))) ?_
        refine .cons (.wanted 4 true rfl rfl rfl 0 rfl (ok_move (.tmp 1 rfl))) ?_
        refine .cons (.plain rfl (ok_pickT (.tmp 0 rfl) (.tmp 1 rfl))) ?_
        refine .cons (.plain rfl (ok_move (.tmp 0 rfl))) ?_
        refine .cons (.wanted 7 true rfl rfl rfl 0 rfl (ok_move (.tmp 1 rfl))) ?_
        refine .cons (.wanted 7 true rfl rfl rfl 0 rfl (ok_not (b := false) (.tmp 1 rfl))) ?_
        refine .cons (.plain rfl (ok_pickT (.tmp 0 rfl) (.tmp 1 rfl))) ?_
        refine .cons (.plain rfl (ok_move (.tmp 0 rfl))) ?_
        refine .cons (.wanted 11 true rfl rfl rfl 0 rfl (ok_callE (con_lives15) 1 rfl (.nil))) ?_
        refine .cons (.plain rfl (ok_pickT (.tmp 0 rfl) (.tmp 1 rfl))) ?_
        refine .cons (.plain rfl (ok_assign (.tmp 0 rfl))) ?_
        exact .nil
      clear H67 a67 w67 B67
      intro a68 w68 B68 H68
      refine ops_done ?_
      refine then_normal ?_
      refine wp_ret ?_
      refine block_ret ?_
      refine then_ret ?_
      exact f_ret H68 rfl 0 rfl (fun _ _ _ h => h)
    · have hz2 : okNV (.flt b) := qz ▸ ok_of w64 x (by rw [show (2 : Int) ^ 64 = 18446744073709551616 from by decide]; exact hx)
      rw [qz] at qp
      have H69 := St.setwB H50 1 (D' := IsNum (.flt b)) rfl (fun v h => num_eq qz h) (l' := [(13, .val (IsNum (ofV 64 x))), (3, .box 37 8 (IsNum (.flt b))), (2, .val (IsB false)), (0, .val (Lit (.int .u64 x))), (105, .val (EnvV))]) rfl
      clear H50
      refine flow_region (dsts := [some 15, some 16, some 14, some 17, some 18, some 19, some 4, some 5, some 6]) (refs := [[.pre 1], [.res 0, .pre 4], [.res 1], [.res 2], [.res 2], [.res 2], [.res 3], [.res 4], [.res 5]]) (outs := [.res 6, .res 7, .res 8, .pre 1, .pre 2, .pre 3, .pre 4]) (als := [false, false, false, false, false, false, false, false, false]) (posts := [.val (IsNum (.flt b)), .val (Tup [Lit (.int .i64 32), Lit (.int .u64 ((toW 32 64 x).1)), IsB true]), .val (Tup [Lit (.int .i64 32), Lit (.int .u64 ((toW 32 64 x).1)), IsB true]), .val (Lit (.int .i64 32)), .val (Lit (.int .u64 ((toW 32 64 x).1))), .val (IsB true), .val (Lit (.int .i64 32)), .val (Lit (.int .u64 ((toW 32 64 x).1))), .val (IsB true)])
        (out := [(4, .val (Lit (.int .i64 32))), (5, .val (Lit (.int .u64 ((toW 32 64 x).1)))), (6, .val (IsB true)), (3, .box 37 8 (IsNum (.flt b))), (2, .val (IsB false)), (0, .val (Lit (.int .u64 x))), (105, .val (EnvV))]) (nb := []) H69 9 [] rfl (by kernel_rfl) rfl rfl ?_ ?_
      · refine .cons (.plain rfl (ok_load tyV (.tmp 0 rfl))) ?_
        refine .cons (.plain rfl (ok_callE ((con_narrow (.flt b) hz2).weak (fun v w B h => by rw [qp] at h; exact h)) 1 rfl (.cons (.tmp 0 rfl) (.nil)))) ?_
        refine .cons (.plain rfl (ok_move (.tmp 0 rfl))) ?_
        refine .cons (.plain rfl (ok_extract 0 (.tmp 0 rfl) rfl)) ?_
        refine .cons (.plain rfl (ok_extract 1 (.tmp 0 rfl) rfl)) ?_
        refine .cons (.plain rfl (ok_extract 2 (.tmp 0 rfl) rfl)) ?_
        refine .cons (.plain rfl (ok_assign (.tmp 0 rfl))) ?_
        refine .cons (.plain rfl (ok_assign (.tmp 0 rfl))) ?_
        refine .cons (.plain rfl (ok_assign (.tmp 0 rfl))) ?_
        exact .nil
      clear H69 a49 w50 B49
      intro a70 w70 B70 H70
      refine ops_done ?_
      refine then_normal ?_
      refine wp_seq ?_
      refine wp_seq ?_
      refine flow_region (dsts := [some 20, some 21]) (refs := [[.pre 2], [.res 0]]) (outs := [.res 1, .pre 0, .pre 1, .pre 3, .pre 4, .pre 5, .pre 6]) (als := [false, false]) (posts := [.val (IsB true), .val (IsB false)])
        (out := [(21, .val (IsB false)), (4, .val (Lit (.int .i64 32))), (5, .val (Lit (.int .u64 ((toW 32 64 x).1)))), (3, .box 37 8 (IsNum (.flt b))), (2, .val (IsB false)), (0, .val (Lit (.int .u64 x))), (105, .val (EnvV))]) (nb := []) H70 2 [] rfl (by kernel_rfl) rfl rfl ?_ ?_
      · refine .cons (.plain rfl (ok_move (.tmp 0 rfl))) ?_
        refine .cons (.plain rfl (ok_not (b := true) (.tmp 0 rfl))) ?_
        exact .nil
      clear H70 a70 w70 B70
      intro a71 w71 B71 H71
      refine ops_done ?_
      refine then_normal ?_
      refine f_condF H71 (.tmp 0 rfl) ?_
      refine wp_skip ?_
      refine then_normal ?_
      refine wp_seq ?_
      refine flow_region (dsts := [some 23, some 24, some 22, some 25, some 26, some 7, some 8]) (refs := [[.pre 5], [.res 0, .pre 6], [.res 1], [.res 2], [.res 2], [.res 3], [.res 4]]) (outs := [.res 5, .res 6, .pre 1, .pre 2, .pre 3, .pre 4, .pre 5, .pre 6]) (als := [false, false, false, false, false, false, false]) (posts := [.val (Lit (.int .u64 x)), .val (Tup [Lit (.int .u16 ((toW 16 64 x).1)), IsB false]), .val (Tup [Lit (.int .u16 ((toW 16 64 x).1)), IsB false]), .val (Lit (.int .u16 ((toW 16 64 x).1))), .val (IsB false), .val (Lit (.int .u16 ((toW 16 64 x).1))), .val (IsB false)])
        (out := [(7, .val (Lit (.int .u16 ((toW 16 64 x).1)))), (8, .val (IsB false)), (4, .val (Lit (.int .i64 32))), (5, .val (Lit (.int .u64 ((toW 32 64 x).1)))), (3, .box 37 8 (IsNum (.flt b))), (2, .val (IsB false)), (0, .val (Lit (.int .u64 x))), (105, .val (EnvV))]) (nb := []) H71 7 [] rfl (by kernel_rfl) rfl rfl ?_ ?_
      · refine .cons (.plain rfl (ok_move (.tmp 0 rfl))) ?_
        refine .cons (.plain rfl (ok_callE ((con_to1664 x hx).weak (fun v w B h => by rw [q16] at h; exact h)) 1 rfl (.cons (.tmp 0 rfl) (.nil)))) ?_
        refine .cons (.plain rfl (ok_move (.tmp 0 rfl))) ?_
        refine .cons (.plain rfl (ok_extract 0 (.tmp 0 rfl) rfl)) ?_
        refine .cons (.plain rfl (ok_extract 1 (.tmp 0 rfl) rfl)) ?_
        refine .cons (.plain rfl (ok_assign (.tmp 0 rfl))) ?_
        refine .cons (.plain rfl (ok_assign (.tmp 0 rfl))) ?_
        exact .nil
      clear H71 a71 w71 B71
      intro a72 w72 B72 H72
      refine ops_done ?_
      refine then_normal ?_
      refine wp_seq ?_
      refine flow_region (dsts := [some 28, some 29, some 27, some 30, some 31, some 9, some 10]) (refs := [[.pre 6], [.res 0, .pre 7], [.res 1], [.res 2], [.res 2], [.res 3], [.res 4]]) (outs := [.res 5, .res 6, .pre 0, .pre 1, .pre 2, .pre 3, .pre 4, .pre 5, .pre 6, .pre 7]) (als := [false, false, false, false, false, false, false]) (posts := [.val (Lit (.int .u64 x)), .val (Tup [Lit (.int .u32 ((toW 32 64 x).1)), IsB true]), .val (Tup [Lit (.int .u32 ((toW 32 64 x).1)), IsB true]), .val (Lit (.int .u32 ((toW 32 64 x).1))), .val (IsB true), .val (Lit (.int .u32 ((toW 32 64 x).1))), .val (IsB true)])
        (out := [(9, .val (Lit (.int .u32 ((toW 32 64 x).1)))), (10, .val (IsB true)), (7, .val (Lit (.int .u16 ((toW 16 64 x).1)))), (8, .val (IsB false)), (4, .val (Lit (.int .i64 32))), (5, .val (Lit (.int .u64 ((toW 32 64 x).1)))), (3, .box 37 8 (IsNum (.flt b))), (2, .val (IsB false)), (0, .val (Lit (.int .u64 x))), (105, .val (EnvV))]) (nb := []) H72 7 [] rfl (by kernel_rfl) rfl rfl ?_ ?_
      · refine .cons (.plain rfl (ok_move (.tmp 0 rfl))) ?_
        refine .cons (.plain rfl (ok_callE ((con_to3264 x hx).weak (fun v w B h => by rw [q32] at h; exact h)) 1 rfl (.cons (.tmp 0 rfl) (.nil)))) ?_
        refine .cons (.plain rfl (ok_move (.tmp 0 rfl))) ?_
        refine .cons (.plain rfl (ok_extract 0 (.tmp 0 rfl) rfl)) ?_
        refine .cons (.plain rfl (ok_extract 1 (.tmp 0 rfl) rfl)) ?_
        refine .cons (.plain rfl (ok_assign (.tmp 0 rfl))) ?_
        refine .cons (.plain rfl (ok_assign (.tmp 0 rfl))) ?_
        exact .nil
      clear H72 a72 w72 B72
      intro a73 w73 B73 H73
      refine ops_done ?_
      refine then_normal ?_
      refine wp_seq ?_
      refine flow_region (dsts := [some 32, some 33, some 34, some 35, some 36, some 37, some 38, some 39, some 40, some 41, some 11]) (refs := [[.pre 6], [.res 0], [.res 1], [.res 2], [.res 3], [.res 3], [.res 3], [.res 3], [.res 3], [.res 3], [.res 9]]) (outs := [.res 10, .pre 0, .pre 1, .pre 2, .pre 3, .pre 4, .pre 5, .pre 7, .pre 8, .pre 9]) (als := [false, false, false, false, false, false, false, false, false, false, false]) (posts := [.ptr 37 8 (IsNum (.flt b)) 0, .val (Lit (.int .i8 4)), .val (IsB false), .val (IsB false), .val (IsUndef), .val (IsUndef), .val (IsUndef), .val (IsUndef), .val (IsUndef), .val (IsB false), .val (IsB false)])
        (out := [(11, .val (IsB false)), (9, .val (Lit (.int .u32 ((toW 32 64 x).1)))), (10, .val (IsB true)), (7, .val (Lit (.int .u16 ((toW 16 64 x).1)))), (8, .val (IsB false)), (4, .val (Lit (.int .i64 32))), (5, .val (Lit (.int .u64 ((toW 32 64 x).1)))), (2, .val (IsB false)), (0, .val (Lit (.int .u64 x))), (105, .val (EnvV))]) (nb := []) H73 11 [] rfl (by kernel_rfl) rfl rfl ?_ ?_
      · refine .cons (.plain rfl (ok_addrV0 (.tmp 0 rfl))) ?_
        refine .cons (.plain rfl (ok_loadV0 (.tmp 0 rfl))) ?_
        refine .cons (.plain rfl (ok_cmp (b := false) (.tmp 0 rfl) (.lit) (by decide))) ?_
        refine .cons (.plain rfl (ok_move (.tmp 0 rfl))) ?_
        refine .cons (.unwanted 3 true rfl rfl rfl 0 rfl) ?_
        refine .cons (.unwanted 3 true rfl rfl rfl 0 rfl) ?_
        refine .cons (.unwanted 3 true rfl rfl rfl 0 rfl) ?_
        refine .cons (.unwanted 3 true rfl rfl rfl 0 rfl) ?_
        refine .cons (.unwanted 3 true rfl rfl rfl 0 rfl) ?_
        refine .cons (.plain rfl (ok_pickF (.tmp 0 rfl) (.lit))) ?_
        refine .cons (.plain rfl (ok_assign (.tmp 0 rfl))) ?_
        exact .nil
      clear H73 a73 w73 B73
      intro a74 w74 B74 H74
      refine ops_done ?_
      refine then_normal ?_
      refine wp_seq ?_
      refine wp_block ?_
      refine wp_seq ?_
      refine flow_region (dsts := [some 43, some 44, some 42]) (refs := [[.pre 5], [.res 0], [.res 1]]) (outs := [.res 2, .pre 0, .pre 1, .pre 2, .pre 3, .pre 4, .pre 5, .pre 6, .pre 7, .pre 8, .pre 9]) (als := [false, false, false]) (posts := [.val (Lit (.int .i64 32)), .val (IsB false), .val (IsB false)])
        (out := [(42, .val (IsB false)), (11, .val (IsB false)), (9, .val (Lit (.int .u32 ((toW 32 64 x).1)))), (10, .val (IsB true)), (7, .val (Lit (.int .u16 ((toW 16 64 x).1)))), (8, .val (IsB false)), (4, .val (Lit (.int .i64 32))), (5, .val (Lit (.int .u64 ((toW 32 64 x).1)))), (2, .val (IsB false)), (0, .val (Lit (.int .u64 x))), (105, .val (EnvV))]) (nb := []) H74 3 [] rfl (by kernel_rfl) rfl rfl ?_ ?_
      · refine .cons (.plain rfl (ok_move (.tmp 0 rfl))) ?_
        refine .cons (.plain rfl (ok_cmp (b := false) (.tmp 0 rfl) (.lit) (by decide))) ?_
        refine .cons (.plain rfl (ok_assign (.tmp 0 rfl))) ?_
        exact .nil
      clear H74 a74 w74 B74
      intro a75 w75 B75 H75
      refine ops_done ?_
      refine then_normal ?_
      refine f_condF H75 (.tmp 0 rfl) ?_
      refine wp_seq ?_
      refine flow_region (dsts := [some 71, some 72, some 70]) (refs := [[.pre 6], [.res 0], [.res 1]]) (outs := [.res 2, .pre 2, .pre 3, .pre 5, .pre 6, .pre 7, .pre 8, .pre 9, .pre 10]) (als := [false, false, false]) (posts := [.val (Lit (.int .i64 32)), .val (IsB true), .val (IsB true)])
        (out := [(70, .val (IsB true)), (9, .val (Lit (.int .u32 ((toW 32 64 x).1)))), (10, .val (IsB true)), (8, .val (IsB false)), (4, .val (Lit (.int .i64 32))), (5, .val (Lit (.int .u64 ((toW 32 64 x).1)))), (2, .val (IsB false)), (0, .val (Lit (.int .u64 x))), (105, .val (EnvV))]) (nb := []) H75 3 [] rfl (by kernel_rfl) rfl rfl ?_ ?_
      · refine .cons (.plain rfl (ok_move (.tmp 0 rfl))) ?_
        refine .cons (.plain rfl (ok_cmp (b := true) (.tmp 0 rfl) (.lit) (by decide))) ?_
        refine .cons (.plain rfl (ok_assign (.tmp 0 rfl))) ?_
        exact .nil
      clear H75 a75 w75 B75
      intro a76 w76 B76 H76
      refine ops_done ?_
      refine then_normal ?_
      refine f_condT H76 (.tmp 0 rfl) ?_
      refine wp_seq ?_
      refine flow_region (dsts := [some 73, some 74, some 75, some 76, some 77, some 78, some 79, some 80, some 81, some 82, some 83, some 84, some 85, some 86, some 2]) (refs := [[.pre 1], [.res 0], [.pre 5], [.res 1, .res 2], [.res 3], [.res 4, .pre 2], [.res 4, .res 5], [.res 6], [.res 7, .pre 3], [.res 7, .res 8], [.res 7, .res 9], [.res 10], [.res 11, .pre 8], [.res 11, .res 12], [.res 13]]) (outs := [.res 14, .pre 2, .pre 3, .pre 4, .pre 5, .pre 7, .pre 8]) (als := [false, false, false, false, false, false, false, false, false, false, false, false, false, false, false]) (posts := [.val (Lit (.int .u32 ((toW 32 64 x).1))), .val (Lit (.int .u64 ((toW 32 64 x).1))), .val (Lit (.int .u64 ((toW 32 64 x).1))), .val (IsB true), .val (IsB true), .val (IsB true), .val (IsB true), .val (IsB true), .val (IsB false), .val (IsB true), .val (IsB true), .val (IsB true), .val (IsB true), .val (IsB true), .val (IsB true)])
        (out := [(2, .val (IsB true)), (10, .val (IsB true)), (8, .val (IsB false)), (4, .val (Lit (.int .i64 32))), (5, .val (Lit (.int .u64 ((toW 32 64 x).1)))), (0, .val (Lit (.int .u64 x))), (105, .val (EnvV))]) (nb := []) H76 15 [] rfl (by kernel_rfl) rfl rfl ?_ ?_
      · refine .cons (.plain rfl (ok_move (.tmp 0 rfl))) ?_
        refine .cons (.plain rfl (ok_conv Tryz.underlying23 Tryz.underlying24 (r := ((toW 32 64 x).1)) (.tmp 0 rfl) (w_u64 (by omega)))) ?_
        refine .cons (.plain rfl (ok_move (.tmp 0 rfl))) ?_
        refine .cons (.plain rfl (ok_cmp (b := true) (.tmp 0 rfl) (.tmp 1 rfl) ((decide_eq_true (rfl)).symm))) ?_
        refine .cons (.plain rfl (ok_move (.tmp 0 rfl))) ?_
        refine .cons (.wanted 4 true rfl rfl rfl 0 rfl (ok_move (.tmp 1 rfl))) ?_
        refine .cons (.plain rfl (ok_pickT (.tmp 0 rfl) (.tmp 1 rfl))) ?_
        refine .cons (.plain rfl (ok_move (.tmp 0 rfl))) ?_
        refine .cons (.wanted 7 true rfl rfl rfl 0 rfl (ok_move (.tmp 1 rfl))) ?_
        refine .cons (.wanted 7 true rfl rfl rfl 0 rfl (ok_not (b := false) (.tmp 1 rfl))) ?_
        refine .cons (.plain rfl (ok_pickT (.tmp 0 rfl) (.tmp 1 rfl))) ?_
        refine .cons (.plain rfl (ok_move (.tmp 0 rfl))) ?_
        refine .cons (.wanted 11 true rfl rfl rfl 0 rfl (ok_callE (con_lives15) 1 rfl (.nil))) ?_
        refine .cons (.plain rfl (ok_pickT (.tmp 0 rfl) (.tmp 1 rfl))) ?_
        refine .cons (.plain rfl (ok_assign (.tmp 0 rfl))) ?_
        exact .nil
      clear H76 a76 w76 B76
      intro a77 w77 B77 H77
      refine ops_done ?_
      refine then_normal ?_
      refine wp_ret ?_
      refine block_ret ?_
      refine then_ret ?_
      exact f_ret H77 rfl 0 rfl (fun _ _ _ h => h)
  · refine flow_region (dsts := [some 12, some 13, some 3]) (refs := [[.pre 1], [.res 0, .pre 2], []]) (outs := [.res 1, .res 2, .pre 0, .pre 1, .pre 2]) (als := [false, false, true]) (posts := [.val (Lit (.int .u64 x)), .val (IsNum (ofV 64 x)), .box 37 8 (IsVal 0 0 (IsI 0) 0 0 (⟨#[]⟩) (K0))])
      (out := [(13, .val (IsNum (ofV 64 x))), (3, .box 37 8 (IsVal 0 0 (IsI 0) 0 0 (⟨#[]⟩) (K0))), (2, .val (IsB false)), (0, .val (Lit (.int .u64 x))), (105, .val (EnvV))]) (nb := [3]) H1 3 [3] rfl (by kernel_rfl) rfl rfl ?_ ?_
    · refine .cons (.plain rfl (ok_move (.tmp 0 rfl))) ?_
      refine .cons (.plain rfl (ok_callE (con_of64 x hx) 1 rfl (.cons (.tmp 0 rfl) (.nil)))) ?_
      refine .cons (.plain rfl (ok_allocV)) ?_
      exact .nil
    clear H1 a1 w1 B1
    intro a78 w78 B78 H78
    simp only [List.cons_append, List.nil_append] at H78
    refine ops_one ?_
    refine store_op (l' := [(13, .val (IsNum (ofV 64 x))), (3, .box 37 8 (IsNum (ofV 64 x))), (2, .val (IsB false)), (0, .val (Lit (.int .u64 x))), (105, .val (EnvV))]) 1 H78 rfl tyV rfl (.tmp 0 rfl) (shape_Val shape_I oneK0) shape_Num rfl rfl ?_
    clear H78 w78
    intro w79 H79
    refine ops_done ?_
    refine then_normal ?_
    refine wp_seq ?_
    rcases (nv_cases (ofV 64 x)) with qz | ⟨N, qz, hN⟩ | ⟨b, qz⟩
    · rw [qz] at qp
      have H80 := St.setwB H79 1 (D' := IsNum (.int 0)) rfl (fun v h => num_eq qz h) (l' := [(13, .val (IsNum (ofV 64 x))), (3, .box 37 8 (IsNum (.int 0))), (2, .val (IsB false)), (0, .val (Lit (.int .u64 x))), (105, .val (EnvV))]) rfl
      clear H79
      refine flow_region (dsts := [some 15, some 16, some 14, some 17, some 18, some 19, some 4, some 5, some 6]) (refs := [[.pre 1], [.res 0, .pre 4], [.res 1], [.res 2], [.res 2], [.res 2], [.res 3], [.res 4], [.res 5]]) (outs := [.res 6, .res 7, .res 8, .pre 1, .pre 2, .pre 3, .pre 4]) (als := [false, false, false, false, false, false, false, false, false]) (posts := [.val (IsNum (.int 0)), .val (Tup [Lit (.int .i64 64), Lit (.int .u64 x), IsB true]), .val (Tup [Lit (.int .i64 64), Lit (.int .u64 x), IsB true]), .val (Lit (.int .i64 64)), .val (Lit (.int .u64 x)), .val (IsB true), .val (Lit (.int .i64 64)), .val (Lit (.int .u64 x)), .val (IsB true)])
        (out := [(4, .val (Lit (.int .i64 64))), (5, .val (Lit (.int .u64 x))), (6, .val (IsB true)), (3, .box 37 8 (IsNum (.int 0))), (2, .val (IsB false)), (0, .val (Lit (.int .u64 x))), (105, .val (EnvV))]) (nb := []) H80 9 [] rfl (by kernel_rfl) rfl rfl ?_ ?_
      · refine .cons (.plain rfl (ok_load tyV (.tmp 0 rfl))) ?_
        refine .cons (.plain rfl (ok_callE ((con_narrow (.int 0) trivial).weak (fun v w B h => by rw [qp] at h; exact h)) 1 rfl (.cons (.tmp 0 rfl) (.nil)))) ?_
        refine .cons (.plain rfl (ok_move (.tmp 0 rfl))) ?_
        refine .cons (.plain rfl (ok_extract 0 (.tmp 0 rfl) rfl)) ?_
        refine .cons (.plain rfl (ok_extract 1 (.tmp 0 rfl) rfl)) ?_
        refine .cons (.plain rfl (ok_extract 2 (.tmp 0 rfl) rfl)) ?_
        refine .cons (.plain rfl (ok_assign (.tmp 0 rfl))) ?_
        refine .cons (.plain rfl (ok_assign (.tmp 0 rfl))) ?_
        refine .cons (.plain rfl (ok_assign (.tmp 0 rfl))) ?_
        exact .nil
      clear H80 a78 w79 B78
      intro a81 w81 B81 H81
      refine ops_done ?_
      refine then_normal ?_
      refine wp_seq ?_
      refine wp_seq ?_
      refine flow_region (dsts := [some 20, some 21]) (refs := [[.pre 2], [.res 0]]) (outs := [.res 1, .pre 0, .pre 1, .pre 3, .pre 4, .pre 5, .pre 6]) (als := [false, false]) (posts := [.val (IsB true), .val (IsB false)])
        (out := [(21, .val (IsB false)), (4, .val (Lit (.int .i64 64))), (5, .val (Lit (.int .u64 x))), (3, .box 37 8 (IsNum (.int 0))), (2, .val (IsB false)), (0, .val (Lit (.int .u64 x))), (105, .val (EnvV))]) (nb := []) H81 2 [] rfl (by kernel_rfl) rfl rfl ?_ ?_
      · refine .cons (.plain rfl (ok_move (.tmp 0 rfl))) ?_
        refine .cons (.plain rfl (ok_not (b := true) (.tmp 0 rfl))) ?_
        exact .nil
      clear H81 a81 w81 B81
      intro a82 w82 B82 H82
      refine ops_done ?_
      refine then_normal ?_
      refine f_condF H82 (.tmp 0 rfl) ?_
      refine wp_skip ?_
      refine then_normal ?_
      refine wp_seq ?_
      refine flow_region (dsts := [some 23, some 24, some 22, some 25, some 26, some 7, some 8]) (refs := [[.pre 5], [.res 0, .pre 6], [.res 1], [.res 2], [.res 2], [.res 3], [.res 4]]) (outs := [.res 5, .res 6, .pre 1, .pre 2, .pre 3, .pre 4, .pre 5, .pre 6]) (als := [false, false, false, false, false, false, false]) (posts := [.val (Lit (.int .u64 x)), .val (Tup [Lit (.int .u16 ((toW 16 64 x).1)), IsB false]), .val (Tup [Lit (.int .u16 ((toW 16 64 x).1)), IsB false]), .val (Lit (.int .u16 ((toW 16 64 x).1))), .val (IsB false), .val (Lit (.int .u16 ((toW 16 64 x).1))), .val (IsB false)])
        (out := [(7, .val (Lit (.int .u16 ((toW 16 64 x).1)))), (8, .val (IsB false)), (4, .val (Lit (.int .i64 64))), (5, .val (Lit (.int .u64 x))), (3, .box 37 8 (IsNum (.int 0))), (2, .val (IsB false)), (0, .val (Lit (.int .u64 x))), (105, .val (EnvV))]) (nb := []) H82 7 [] rfl (by kernel_rfl) rfl rfl ?_ ?_
      · refine .cons (.plain rfl (ok_move (.tmp 0 rfl))) ?_
        refine .cons (.plain rfl (ok_callE ((con_to1664 x hx).weak (fun v w B h => by rw [q16] at h; exact h)) 1 rfl (.cons (.tmp 0 rfl) (.nil)))) ?_
        refine .cons (.plain rfl (ok_move (.tmp 0 rfl))) ?_
        refine .cons (.plain rfl (ok_extract 0 (.tmp 0 rfl) rfl)) ?_
        refine .cons (.plain rfl (ok_extract 1 (.tmp 0 rfl) rfl)) ?_
        refine .cons (.plain rfl (ok_assign (.tmp 0 rfl))) ?_
        refine .cons (.plain rfl (ok_assign (.tmp 0 rfl))) ?_
        exact .nil
      clear H82 a82 w82 B82
      intro a83 w83 B83 H83
      refine ops_done ?_
      refine then_normal ?_
      refine wp_seq ?_
      refine flow_region (dsts := [some 28, some 29, some 27, some 30, some 31, some 9, some 10]) (refs := [[.pre 6], [.res 0, .pre 7], [.res 1], [.res 2], [.res 2], [.res 3], [.res 4]]) (outs := [.res 5, .res 6, .pre 0, .pre 1, .pre 2, .pre 3, .pre 4, .pre 5, .pre 6, .pre 7]) (als := [false, false, false, false, false, false, false]) (posts := [.val (Lit (.int .u64 x)), .val (Tup [Lit (.int .u32 ((toW 32 64 x).1)), IsB false]), .val (Tup [Lit (.int .u32 ((toW 32 64 x).1)), IsB false]), .val (Lit (.int .u32 ((toW 32 64 x).1))), .val (IsB false), .val (Lit (.int .u32 ((toW 32 64 x).1))), .val (IsB false)])
        (out := [(9, .val (Lit (.int .u32 ((toW 32 64 x).1)))), (10, .val (IsB false)), (7, .val (Lit (.int .u16 ((toW 16 64 x).1)))), (8, .val (IsB false)), (4, .val (Lit (.int .i64 64))), (5, .val (Lit (.int .u64 x))), (3, .box 37 8 (IsNum (.int 0))), (2, .val (IsB false)), (0, .val (Lit (.int .u64 x))), (105, .val (EnvV))]) (nb := []) H83 7 [] rfl (by kernel_rfl) rfl rfl ?_ ?_
      · refine .cons (.plain rfl (ok_move (.tmp 0 rfl))) ?_
        refine .cons (.plain rfl (ok_callE ((con_to3264 x hx).weak (fun v w B h => by rw [q32] at h; exact h)) 1 rfl (.cons (.tmp 0 rfl) (.nil)))) ?_
        refine .cons (.plain rfl (ok_move (.tmp 0 rfl))) ?_
        refine .cons (.plain rfl (ok_extract 0 (.tmp 0 rfl) rfl)) ?_
        refine .cons (.plain rfl (ok_extract 1 (.tmp 0 rfl) rfl)) ?_
        refine .cons (.plain rfl (ok_assign (.tmp 0 rfl))) ?_
        refine .cons (.plain rfl (ok_assign (.tmp 0 rfl))) ?_
        exact .nil
      clear H83 a83 w83 B83
      intro a84 w84 B84 H84
      refine ops_done ?_
      refine then_normal ?_
      refine wp_seq ?_
      refine flow_region (dsts := [some 32, some 33, some 34, some 35, some 36, some 37, some 38, some 39, some 40, some 41, some 11]) (refs := [[.pre 6], [.res 0], [.res 1], [.res 2], [.res 3, .pre 6], [.res 3, .res 4], [.res 3, .res 5], [.res 3, .res 6], [.res 3, .res 7], [.res 3, .res 8], [.res 9]]) (outs := [.res 10, .pre 0, .pre 1, .pre 2, .pre 3, .pre 4, .pre 5, .pre 7, .pre 8, .pre 9]) (als := [false, false, false, false, false, false, false, false, false, false, false]) (posts := [.ptr 37 8 (IsNum (.int 0)) 0, .val (Lit (.int .i8 3)), .val (IsB true), .val (IsB true), .ptr 37 8 (IsNum (.int 0)) 2, .ptr 37 8 (IsNum (.int 0)) 3, .val (IsC ((0 : Int).natAbs : Int)), .val (Lit (.int .i64 ((dg 4294967296 ((0 : Int).natAbs : Int)).length : Int))), .val (IsB true), .val (IsB true), .val (IsB true)])
        (out := [(11, .val (IsB true)), (9, .val (Lit (.int .u32 ((toW 32 64 x).1)))), (10, .val (IsB false)), (7, .val (Lit (.int .u16 ((toW 16 64 x).1)))), (8, .val (IsB false)), (4, .val (Lit (.int .i64 64))), (5, .val (Lit (.int .u64 x))), (2, .val (IsB false)), (0, .val (Lit (.int .u64 x))), (105, .val (EnvV))]) (nb := []) H84 11 [] rfl (by kernel_rfl) rfl rfl ?_ ?_
      · refine .cons (.plain rfl (ok_addrV0 (.tmp 0 rfl))) ?_
        refine .cons (.plain rfl (ok_loadV0 (.tmp 0 rfl))) ?_
        refine .cons (.plain rfl (ok_cmp (b := true) (.tmp 0 rfl) (.lit) (by decide))) ?_
        refine .cons (.plain rfl (ok_move (.tmp 0 rfl))) ?_
        refine .cons (.wanted 3 true rfl rfl rfl 0 rfl (ok_addrV2 (.tmp 1 rfl))) ?_
        refine .cons (.wanted 3 true rfl rfl rfl 0 rfl (ok_addrVI1 (.tmp 1 rfl))) ?_
        refine .cons (.wanted 3 true rfl rfl rfl 0 rfl (ok_loadVM (.tmp 1 rfl))) ?_
        refine .cons (.wanted 3 true rfl rfl rfl 0 rfl (ok_lenC (.tmp 1 rfl))) ?_
        refine .cons (.wanted 3 true rfl rfl rfl 0 rfl (ok_cmp (b := true) (.tmp 1 rfl) (.lit) ((decide_eq_true ((dg_zero_iff 0).2 rfl)).symm))) ?_
        refine .cons (.plain rfl (ok_pickT (.tmp 0 rfl) (.tmp 1 rfl))) ?_
        refine .cons (.plain rfl (ok_assign (.tmp 0 rfl))) ?_
        exact .nil
      clear H84 a84 w84 B84
      intro a85 w85 B85 H85
      refine ops_done ?_
      refine then_normal ?_
      refine wp_seq ?_
      refine wp_block ?_
      refine wp_seq ?_
      refine flow_region (dsts := [some 43, some 44, some 42]) (refs := [[.pre 5], [.res 0], [.res 1]]) (outs := [.res 2, .pre 0, .pre 1, .pre 2, .pre 3, .pre 4, .pre 5, .pre 6, .pre 7, .pre 8, .pre 9]) (als := [false, false, false]) (posts := [.val (Lit (.int .i64 64)), .val (IsB false), .val (IsB false)])
        (out := [(42, .val (IsB false)), (11, .val (IsB true)), (9, .val (Lit (.int .u32 ((toW 32 64 x).1)))), (10, .val (IsB false)), (7, .val (Lit (.int .u16 ((toW 16 64 x).1)))), (8, .val (IsB false)), (4, .val (Lit (.int .i64 64))), (5, .val (Lit (.int .u64 x))), (2, .val (IsB false)), (0, .val (Lit (.int .u64 x))), (105, .val (EnvV))]) (nb := []) H85 3 [] rfl (by kernel_rfl) rfl rfl ?_ ?_
      · refine .cons (.plain rfl (ok_move (.tmp 0 rfl))) ?_
        refine .cons (.plain rfl (ok_cmp (b := false) (.tmp 0 rfl) (.lit) (by decide))) ?_
        refine .cons (.plain rfl (ok_assign (.tmp 0 rfl))) ?_
        exact .nil
      clear H85 a85 w85 B85
      intro a86 w86 B86 H86
      refine ops_done ?_
      refine then_normal ?_
      refine f_condF H86 (.tmp 0 rfl) ?_
      refine wp_seq ?_
      refine flow_region (dsts := [some 71, some 72, some 70]) (refs := [[.pre 6], [.res 0], [.res 1]]) (outs := [.res 2, .pre 2, .pre 3, .pre 5, .pre 6, .pre 7, .pre 8, .pre 9, .pre 10]) (als := [false, false, false]) (posts := [.val (Lit (.int .i64 64)), .val (IsB false), .val (IsB false)])
        (out := [(70, .val (IsB false)), (9, .val (Lit (.int .u32 ((toW 32 64 x).1)))), (10, .val (IsB false)), (8, .val (IsB false)), (4, .val (Lit (.int .i64 64))), (5, .val (Lit (.int .u64 x))), (2, .val (IsB false)), (0, .val (Lit (.int .u64 x))), (105, .val (EnvV))]) (nb := []) H86 3 [] rfl (by kernel_rfl) rfl rfl ?_ ?_
      · refine .cons (.plain rfl (ok_move (.tmp 0 rfl))) ?_
        refine .cons (.plain rfl (ok_cmp (b := false) (.tmp 0 rfl) (.lit) (by decide))) ?_
        refine .cons (.plain rfl (ok_assign (.tmp 0 rfl))) ?_
        exact .nil
      clear H86 a86 w86 B86
      intro a87 w87 B87 H87
      refine ops_done ?_
      refine then_normal ?_
      refine f_condF H87 (.tmp 0 rfl) ?_
      refine wp_skip ?_
      refine block_normal ?_
      refine then_normal ?_
      refine wp_seq ?_
      refine flow_region (dsts := [some 87, some 88, some 89, some 90, some 91, some 92, some 93, some 94, some 95, some 96, some 97, some 98, some 99, some 100, some 101, some 102, some 103, some 104, some 2]) (refs := [[.pre 4], [.res 0], [.res 1], [.res 2, .pre 5], [.res 2, .pre 7], [.res 2, .res 3, .res 4], [.res 2, .res 5], [.res 6], [.res 7, .pre 2], [.res 7, .res 8], [.res 7, .res 9], [.res 10], [.res 11, .pre 3], [.res 11, .res 12], [.res 11, .res 13], [.res 14], [.res 15, .pre 8], [.res 15, .res 16], [.res 17]]) (outs := [.res 18, .pre 8]) (als := [false, false, false, false, false, false, false, false, false, false, false, false, false, false, false, false, false, false, false]) (posts := [.val (Lit (.int .i64 64)), .val (IsB true), .val (IsB true), .val (Lit (.int .u64 x)), .val (Lit (.int .u64 x)), .val (IsB true), .val (IsB true), .val (IsB true), .val (IsB false), .val (IsB true), .val (IsB true), .val (IsB true), .val (IsB false), .val (IsB true), .val (IsB true), .val (IsB true), .val (IsB true), .val (IsB true), .val (IsB true)])
        (out := [(2, .val (IsB true)), (105, .val (EnvV))]) (nb := []) H87 19 [] rfl (by kernel_rfl) rfl rfl ?_ ?_
      · refine .cons (.plain rfl (ok_move (.tmp 0 rfl))) ?_
        refine .cons (.plain rfl (ok_cmp (b := true) (.tmp 0 rfl) (.lit) (by decide))) ?_
        refine .cons (.plain rfl (ok_move (.tmp 0 rfl))) ?_
        refine .cons (.wanted 2 true rfl rfl rfl 0 rfl (ok_move (.tmp 1 rfl))) ?_
        refine .cons (.wanted 2 true rfl rfl rfl 0 rfl (ok_move (.tmp 1 rfl))) ?_
        refine .cons (.wanted 2 true rfl rfl rfl 0 rfl (ok_cmp (b := true) (.tmp 1 rfl) (.tmp 2 rfl) ((decide_eq_true (rfl)).symm))) ?_
        refine .cons (.plain rfl (ok_pickT (.tmp 0 rfl) (.tmp 1 rfl))) ?_
        refine .cons (.plain rfl (ok_move (.tmp 0 rfl))) ?_
        refine .cons (.wanted 7 true rfl rfl rfl 0 rfl (ok_move (.tmp 1 rfl))) ?_
        refine .cons (.wanted 7 true rfl rfl rfl 0 rfl (ok_not (b := false) (.tmp 1 rfl))) ?_
        refine .cons (.plain rfl (ok_pickT (.tmp 0 rfl) (.tmp 1 rfl))) ?_
        refine .cons (.plain rfl (ok_move (.tmp 0 rfl))) ?_
        refine .cons (.wanted 11 true rfl rfl rfl 0 rfl (ok_move (.tmp 1 rfl))) ?_
        refine .cons (.wanted 11 true rfl rfl rfl 0 rfl (ok_not (b := false) (.tmp 1 rfl))) ?_
        refine .cons (.plain rfl (ok_pickT (.tmp 0 rfl) (.tmp 1 rfl))) ?_
        refine .cons (.plain rfl (ok_move (.tmp 0 rfl))) ?_
        refine .cons (.wanted 15 true rfl rfl rfl 0 rfl (ok_callE (con_lives15) 1 rfl (.nil))) ?_
        refine .cons (.plain rfl (ok_pickT (.tmp 0 rfl) (.tmp 1 rfl))) ?_
        refine .cons (.plain rfl (ok_assign (.tmp 0 rfl))) ?_
        exact .nil
      clear H87 a87 w87 B87
      intro a88 w88 B88 H88
      refine ops_done ?_
      refine then_normal ?_
      refine wp_ret ?_
      exact f_ret H88 rfl 0 rfl (fun _ _ _ h => h)
    · rw [qz] at qp
      have H89 := St.setwB H79 1 (D' := IsNum (.int N)) rfl (fun v h => num_eq qz h) (l' := [(13, .val (IsNum (ofV 64 x))), (3, .box 37 8 (IsNum (.int N))), (2, .val (IsB false)), (0, .val (Lit (.int .u64 x))), (105, .val (EnvV))]) rfl
      clear H79
      refine flow_region (dsts := [some 15, some 16, some 14, some 17, some 18, some 19, some 4, some 5, some 6]) (refs := [[.pre 1], [.res 0, .pre 4], [.res 1], [.res 2], [.res 2], [.res 2], [.res 3], [.res 4], [.res 5]]) (outs := [.res 6, .res 7, .res 8, .pre 1, .pre 2, .pre 3, .pre 4]) (als := [false, false, false, false, false, false, false, false, false]) (posts := [.val (IsNum (.int N)), .val (Tup [Lit (.int .i64 64), Lit (.int .u64 x), IsB true]), .val (Tup [Lit (.int .i64 64), Lit (.int .u64 x), IsB true]), .val (Lit (.int .i64 64)), .val (Lit (.int .u64 x)), .val (IsB true), .val (Lit (.int .i64 64)), .val (Lit (.int .u64 x)), .val (IsB true)])
        (out := [(4, .val (Lit (.int .i64 64))), (5, .val (Lit (.int .u64 x))), (6, .val (IsB true)), (3, .box 37 8 (IsNum (.int N))), (2, .val (IsB false)), (0, .val (Lit (.int .u64 x))), (105, .val (EnvV))]) (nb := []) H89 9 [] rfl (by kernel_rfl) rfl rfl ?_ ?_
      · refine .cons (.plain rfl (ok_load tyV (.tmp 0 rfl))) ?_
        refine .cons (.plain rfl (ok_callE ((con_narrow (.int N) trivial).weak (fun v w B h => by rw [qp] at h; exact h)) 1 rfl (.cons (.tmp 0 rfl) (.nil)))) ?_
        refine .cons (.plain rfl (ok_move (.tmp 0 rfl))) ?_
        refine .cons (.plain rfl (ok_extract 0 (.tmp 0 rfl) rfl)) ?_
        refine .cons (.plain rfl (ok_extract 1 (.tmp 0 rfl) rfl)) ?_
        refine .cons (.plain rfl (ok_extract 2 (.tmp 0 rfl) rfl)) ?_
        refine .cons (.plain rfl (ok_assign (.tmp 0 rfl))) ?_
        refine .cons (.plain rfl (ok_assign (.tmp 0 rfl))) ?_
        refine .cons (.plain rfl (ok_assign (.tmp 0 rfl))) ?_
        exact .nil
      clear H89 a78 w79 B78
      intro a90 w90 B90 H90
      refine ops_done ?_
      refine then_normal ?_
      refine wp_seq ?_
      refine wp_seq ?_
      refine flow_region (dsts := [some 20, some 21]) (refs := [[.pre 2], [.res 0]]) (outs := [.res 1, .pre 0, .pre 1, .pre 3, .pre 4, .pre 5, .pre 6]) (als := [false, false]) (posts := [.val (IsB true), .val (IsB false)])
        (out := [(21, .val (IsB false)), (4, .val (Lit (.int .i64 64))), (5, .val (Lit (.int .u64 x))), (3, .box 37 8 (IsNum (.int N))), (2, .val (IsB false)), (0, .val (Lit (.int .u64 x))), (105, .val (EnvV))]) (nb := []) H90 2 [] rfl (by kernel_rfl) rfl rfl ?_ ?_
      · refine .cons (.plain rfl (ok_move (.tmp 0 rfl))) ?_
        refine .cons (.plain rfl (ok_not (b := true) (.tmp 0 rfl))) ?_
        exact .nil
      clear H90 a90 w90 B90
      intro a91 w91 B91 H91
      refine ops_done ?_
      refine then_normal ?_
      refine f_condF H91 (.tmp 0 rfl) ?_
      refine wp_skip ?_
      refine then_normal ?_
      refine wp_seq ?_
      refine flow_region (dsts := [some 23, some 24, some 22, some 25, some 26, some 7, some 8]) (refs := [[.pre 5], [.res 0, .pre 6], [.res 1], [.res 2], [.res 2], [.res 3], [.res 4]]) (outs := [.res 5, .res 6, .pre 1, .pre 2, .pre 3, .pre 4, .pre 5, .pre 6]) (als := [false, false, false, false, false, false, false]) (posts := [.val (Lit (.int .u64 x)), .val (Tup [Lit (.int .u16 ((toW 16 64 x).1)), IsB false]), .val (Tup [Lit (.int .u16 ((toW 16 64 x).1)), IsB false]), .val (Lit (.int .u16 ((toW 16 64 x).1))), .val (IsB false), .val (Lit (.int .u16 ((toW 16 64 x).1))), .val (IsB false)])
        (out := [(7, .val (Lit (.int .u16 ((toW 16 64 x).1)))), (8, .val (IsB false)), (4, .val (Lit (.int .i64 64))), (5, .val (Lit (.int .u64 x))), (3, .box 37 8 (IsNum (.int N))), (2, .val (IsB false)), (0, .val (Lit (.int .u64 x))), (105, .val (EnvV))]) (nb := []) H91 7 [] rfl (by kernel_rfl) rfl rfl ?_ ?_
      · refine .cons (.plain rfl (ok_move (.tmp 0 rfl))) ?_
        refine .cons (.plain rfl (ok_callE ((con_to1664 x hx).weak (fun v w B h => by rw [q16] at h; exact h)) 1 rfl (.cons (.tmp 0 rfl) (.nil)))) ?_
        refine .cons (.plain rfl (ok_move (.tmp 0 rfl))) ?_
        refine .cons (.plain rfl (ok_extract 0 (.tmp 0 rfl) rfl)) ?_
        refine .cons (.plain rfl (ok_extract 1 (.tmp 0 rfl) rfl)) ?_
        refine .cons (.plain rfl (ok_assign (.tmp 0 rfl))) ?_
        refine .cons (.plain rfl (ok_assign (.tmp 0 rfl))) ?_
        exact .nil
      clear H91 a91 w91 B91
      intro a92 w92 B92 H92
      refine ops_done ?_
      refine then_normal ?_
      refine wp_seq ?_
      refine flow_region (dsts := [some 28, some 29, some 27, some 30, some 31, some 9, some 10]) (refs := [[.pre 6], [.res 0, .pre 7], [.res 1], [.res 2], [.res 2], [.res 3], [.res 4]]) (outs := [.res 5, .res 6, .pre 0, .pre 1, .pre 2, .pre 3, .pre 4, .pre 5, .pre 6, .pre 7]) (als := [false, false, false, false, false, false, false]) (posts := [.val (Lit (.int .u64 x)), .val (Tup [Lit (.int .u32 ((toW 32 64 x).1)), IsB false]), .val (Tup [Lit (.int .u32 ((toW 32 64 x).1)), IsB false]), .val (Lit (.int .u32 ((toW 32 64 x).1))), .val (IsB false), .val (Lit (.int .u32 ((toW 32 64 x).1))), .val (IsB false)])
        (out := [(9, .val (Lit (.int .u32 ((toW 32 64 x).1)))), (10, .val (IsB false)), (7, .val (Lit (.int .u16 ((toW 16 64 x).1)))), (8, .val (IsB false)), (4, .val (Lit (.int .i64 64))), (5, .val (Lit (.int .u64 x))), (3, .box 37 8 (IsNum (.int N))), (2, .val (IsB false)), (0, .val (Lit (.int .u64 x))), (105, .val (EnvV))]) (nb := []) H92 7 [] rfl (by kernel_rfl) rfl rfl ?_ ?_
      · refine .cons (.plain rfl (ok_move (.tmp 0 rfl))) ?_
        refine .cons (.plain rfl (ok_callE ((con_to3264 x hx).weak (fun v w B h => by rw [q32] at h; exact h)) 1 rfl (.cons (.tmp 0 rfl) (.nil)))) ?_
        refine .cons (.plain rfl (ok_move (.tmp 0 rfl))) ?_
        refine .cons (.plain rfl (ok_extract 0 (.tmp 0 rfl) rfl)) ?_
        refine .cons (.plain rfl (ok_extract 1 (.tmp 0 rfl) rfl)) ?_
        refine .cons (.plain rfl (ok_assign (.tmp 0 rfl))) ?_
        refine .cons (.plain rfl (ok_assign (.tmp 0 rfl))) ?_
        exact .nil
      clear H92 a92 w92 B92
      intro a93 w93 B93 H93
      refine ops_done ?_
      refine then_normal ?_
      refine wp_seq ?_
      refine flow_region (dsts := [some 32, some 33, some 34, some 35, some 36, some 37, some 38, some 39, some 40, some 41, some 11]) (refs := [[.pre 6], [.res 0], [.res 1], [.res 2], [.res 3, .pre 6], [.res 3, .res 4], [.res 3, .res 5], [.res 3, .res 6], [.res 3, .res 7], [.res 3, .res 8], [.res 9]]) (outs := [.res 10, .pre 0, .pre 1, .pre 2, .pre 3, .pre 4, .pre 5, .pre 7, .pre 8, .pre 9]) (als := [false, false, false, false, false, false, false, false, false, false, false]) (posts := [.ptr 37 8 (IsNum (.int N)) 0, .val (Lit (.int .i8 3)), .val (IsB true), .val (IsB true), .ptr 37 8 (IsNum (.int N)) 2, .ptr 37 8 (IsNum (.int N)) 3, .val (IsC ((N).natAbs : Int)), .val (Lit (.int .i64 ((dg 4294967296 ((N).natAbs : Int)).length : Int))), .val (IsB false), .val (IsB false), .val (IsB false)])
        (out := [(11, .val (IsB false)), (9, .val (Lit (.int .u32 ((toW 32 64 x).1)))), (10, .val (IsB false)), (7, .val (Lit (.int .u16 ((toW 16 64 x).1)))), (8, .val (IsB false)), (4, .val (Lit (.int .i64 64))), (5, .val (Lit (.int .u64 x))), (2, .val (IsB false)), (0, .val (Lit (.int .u64 x))), (105, .val (EnvV))]) (nb := []) H93 11 [] rfl (by kernel_rfl) rfl rfl ?_ ?_
      · refine .cons (.plain rfl (ok_addrV0 (.tmp 0 rfl))) ?_
        refine .cons (.plain rfl (ok_loadV0 (.tmp 0 rfl))) ?_
        refine .cons (.plain rfl (ok_cmp (b := true) (.tmp 0 rfl) (.lit) (by decide))) ?_
        refine .cons (.plain rfl (ok_move (.tmp 0 rfl))) ?_
        refine .cons (.wanted 3 true rfl rfl rfl 0 rfl (ok_addrV2 (.tmp 1 rfl))) ?_
        refine .cons (.wanted 3 true rfl rfl rfl 0 rfl (ok_addrVI1 (.tmp 1 rfl))) ?_
        refine .cons (.wanted 3 true rfl rfl rfl 0 rfl (ok_loadVM (.tmp 1 rfl))) ?_
        refine .cons (.wanted 3 true rfl rfl rfl 0 rfl (ok_lenC (.tmp 1 rfl))) ?_
        refine .cons (.wanted 3 true rfl rfl rfl 0 rfl (ok_cmp (b := false) (.tmp 1 rfl) (.lit) ((decide_eq_false (fun h => hN ((dg_zero_iff N).1 h))).symm))) ?_
        refine .cons (.plain rfl (ok_pickT (.tmp 0 rfl) (.tmp 1 rfl))) ?_
        refine .cons (.plain rfl (ok_assign (.tmp 0 rfl))) ?_
        exact .nil
      clear H93 a93 w93 B93
      intro a94 w94 B94 H94
      refine ops_done ?_
      refine then_normal ?_
      refine wp_seq ?_
      refine wp_block ?_
      refine wp_seq ?_
      refine flow_region (dsts := [some 43, some 44, some 42]) (refs := [[.pre 5], [.res 0], [.res 1]]) (outs := [.res 2, .pre 0, .pre 1, .pre 2, .pre 3, .pre 4, .pre 5, .pre 6, .pre 7, .pre 8, .pre 9]) (als := [false, false, false]) (posts := [.val (Lit (.int .i64 64)), .val (IsB false), .val (IsB false)])
        (out := [(42, .val (IsB false)), (11, .val (IsB false)), (9, .val (Lit (.int .u32 ((toW 32 64 x).1)))), (10, .val (IsB false)), (7, .val (Lit (.int .u16 ((toW 16 64 x).1)))), (8, .val (IsB false)), (4, .val (Lit (.int .i64 64))), (5, .val (Lit (.int .u64 x))), (2, .val (IsB false)), (0, .val (Lit (.int .u64 x))), (105, .val (EnvV))]) (nb := []) H94 3 [] rfl (by kernel_rfl) rfl rfl ?_ ?_
      · refine .cons (.plain rfl (ok_move (.tmp 0 rfl))) ?_
        refine .cons (.plain rfl (ok_cmp (b := false) (.tmp 0 rfl) (.lit) (by decide))) ?_
        refine .cons (.plain rfl (ok_assign (.tmp 0 rfl))) ?_
        exact .nil
      clear H94 a94 w94 B94
      intro a95 w95 B95 H95
      refine ops_done ?_
      refine then_normal ?_
      refine f_condF H95 (.tmp 0 rfl) ?_
      refine wp_seq ?_
      refine flow_region (dsts := [some 71, some 72, some 70]) (refs := [[.pre 6], [.res 0], [.res 1]]) (outs := [.res 2, .pre 2, .pre 3, .pre 5, .pre 6, .pre 7, .pre 8, .pre 9, .pre 10]) (als := [false, false, false]) (posts := [.val (Lit (.int .i64 64)), .val (IsB false), .val (IsB false)])
        (out := [(70, .val (IsB false)), (9, .val (Lit (.int .u32 ((toW 32 64 x).1)))), (10, .val (IsB false)), (8, .val (IsB false)), (4, .val (Lit (.int .i64 64))), (5, .val (Lit (.int .u64 x))), (2, .val (IsB false)), (0, .val (Lit (.int .u64 x))), (105, .val (EnvV))]) (nb := []) H95 3 [] rfl (by kernel_rfl) rfl rfl ?_ ?_
      · refine .cons (.plain rfl (ok_move (.tmp 0 rfl))) ?_
        refine .cons (.plain rfl (ok_cmp (b := false) (.tmp 0 rfl) (.lit) (by decide))) ?_
        refine .cons (.plain rfl (ok_assign (.tmp 0 rfl))) ?_
        exact .nil
      clear H95 a95 w95 B95
      intro a96 w96 B96 H96
      refine ops_done ?_
      refine then_normal ?_
      refine f_condF H96 (.tmp 0 rfl) ?_
      refine wp_skip ?_
      refine block_normal ?_
      refine then_normal ?_
      refine wp_seq ?_
      refine flow_region (dsts := [some 87, some 88, some 89, some 90, some 91, some 92, some 93, some 94, some 95, some 96, some 97, some 98, some 99, some 100, some 101, some 102, some 103, some 104, some 2]) (refs := [[.pre 4], [.res 0], [.res 1], [.res 2, .pre 5], [.res 2, .pre 7], [.res 2, .res 3, .res 4], [.res 2, .res 5], [.res 6], [.res 7, .pre 2], [.res 7, .res 8], [.res 7, .res 9], [.res 10], [.res 11, .pre 3], [.res 11, .res 12], [.res 11, .res 13], [.res 14], [.res 15, .pre 8], [.res 15, .res 16], [.res 17]]) (outs := [.res 18, .pre 8]) (als := [false, false, false, false, false, false, false, false, false, false, false, false, false, false, false, false, false, false, false]) (posts := [.val (Lit (.int .i64 64)), .val (IsB true), .val (IsB true), .val (Lit (.int .u64 x)), .val (Lit (.int .u64 x)), .val (IsB true), .val (IsB true), .val (IsB true), .val (IsB false), .val (IsB true), .val (IsB true), .val (IsB true), .val (IsB false), .val (IsB true), .val (IsB true), .val (IsB true), .val (IsB true), .val (IsB true), .val (IsB true)])
        (out := [(2, .val (IsB true)), (105, .val (EnvV))]) (nb := []) H96 19 [] rfl (by kernel_rfl) rfl rfl ?_ ?_
      · refine .cons (.plain rfl (ok_move (.tmp 0 rfl))) ?_
        refine .cons (.plain rfl (ok_cmp (b := true) (.tmp 0 rfl) (.lit) (by decide))) ?_
        refine .cons (.plain rfl (ok_move (.tmp 0 rfl))) ?_
        refine .cons (.wanted 2 true rfl rfl rfl 0 rfl (ok_move (.tmp 1 rfl))) ?_
        refine .cons (.wanted 2 true rfl rfl rfl 0 rfl (ok_move (.tmp 1 rfl))) ?_
        refine .cons (.wanted 2 true rfl rfl rfl 0 rfl (ok_cmp (b := true) (.tmp 1 rfl) (.tmp 2 rfl) ((decide_eq_true (rfl)).symm))) ?_
        refine .cons (.plain rfl (ok_pickT (.tmp 0 rfl) (.tmp 1 rfl))) ?_
        refine .cons (.plain rfl (ok_move (.tmp 0 rfl))) ?_
        refine .cons (.wanted 7 true rfl rfl rfl 0 rfl (ok_move (.tmp 1 rfl))) ?_
        refine .cons (.wanted 7 true rfl rfl rfl 0 rfl (ok_not (b := false) (.tmp 1 rfl))) ?_
        refine .cons (.plain rfl (ok_pickT (.tmp 0 rfl) (.tmp 1 rfl))) ?_
        refine .cons (.plain rfl (ok_move (.tmp 0 rfl))) ?_
        refine .cons (.wanted 11 true rfl rfl rfl 0 rfl (ok_move (.tmp 1 rfl))) ?_
        refine .cons (.wanted 11 true rfl rfl rfl 0 rfl (ok_not (b := false) (.tmp 1 rfl))) ?_
        refine .cons (.plain rfl (ok_pickT (.tmp 0 rfl) (.tmp 1 rfl))) ?_
        refine .cons (.plain rfl (ok_move (.tmp 0 rfl))) ?_
        refine .cons (.wanted 15 true rfl rfl rfl 0 rfl (ok_callE (con_lives15) 1 rfl (.nil))) ?_
        refine .cons (.plain rfl (ok_pickT (.tmp 0 rfl) (.tmp 1 rfl))) ?_
        refine .cons (.plain rfl (ok_assign (.tmp 0 rfl))) ?_
        exact .nil
      clear H96 a96 w96 B96
      intro a97 w97 B97 H97
      refine ops_done ?_
      refine then_normal ?_
      refine wp_ret ?_
      exact f_ret H97 rfl 0 rfl (fun _ _ _ h => h)
    · have hz2 : okNV (.flt b) := qz ▸ ok_of w64 x (by rw [show (2 : Int) ^ 64 = 18446744073709551616 from by decide]; exact hx)
      rw [qz] at qp
      have H98 := St.setwB H79 1 (D' := IsNum (.flt b)) rfl (fun v h => num_eq qz h) (l' := [(13, .val (IsNum (ofV 64 x))), (3, .box 37 8 (IsNum (.flt b))), (2, .val (IsB false)), (0, .val (Lit (.int .u64 x))), (105, .val (EnvV))]) rfl
      clear H79
      refine flow_region (dsts := [some 15, some 16, some 14, some 17, some 18, some 19, some 4, some 5, some 6]) (refs := [[.pre 1], [.res 0, .pre 4], [.res 1], [.res 2], [.res 2], [.res 2], [.res 3], [.res 4], [.res 5]]) (outs := [.res 6, .res 7, .res 8, .pre 1, .pre 2, .pre 3, .pre 4]) (als := [false, false, false, false, false, false, false, false, false]) (posts := [.val (IsNum (.flt b)), .val (Tup [Lit (.int .i64 64), Lit (.int .u64 x), IsB true]), .val (Tup [Lit (.int .i64 64), Lit (.int .u64 x), IsB true]), .val (Lit (.int .i64 64)), .val (Lit (.int .u64 x)), .val (IsB true), .val (Lit (.int .i64 64)), .val (Lit (.int .u64 x)), .val (IsB true)])
        (out := [(4, .val (Lit (.int .i64 64))), (5, .val (Lit (.int .u64 x))), (6, .val (IsB true)), (3, .box 37 8 (IsNum (.flt b))), (2, .val (IsB false)), (0, .val (Lit (.int .u64 x))), (105, .val (EnvV))]) (nb := []) H98 9 [] rfl (by kernel_rfl) rfl rfl ?_ ?_
      · refine .cons (.plain rfl (ok_load tyV (.tmp 0 rfl))) ?_
        refine .cons (.plain rfl (ok_callE ((con_narrow (.flt b) hz2).weak (fun v w B h => by rw [qp] at h; exact h)) 1 rfl (.cons (.tmp 0 rfl) (.nil)))) ?_
        refine .cons (.plain rfl (ok_move (.tmp 0 rfl))) ?_
        refine .cons (.plain rfl (ok_extract 0 (.tmp 0 rfl) rfl)) ?_
        refine .cons (.plain rfl (ok_extract 1 (.tmp 0 rfl) rfl)) ?_
        refine .cons (.plain rfl (ok_extract 2 (.tmp 0 rfl) rfl)) ?_
        refine .cons (.plain rfl (ok_assign (.tmp 0 rfl))) ?_
        refine .cons (.plain rfl (ok_assign (.tmp 0 rfl))) ?_
        refine .cons (.plain rfl (ok_assign (.tmp 0 rfl))) ?_
        exact .nil
      clear H98 a78 w79 B78
      intro a99 w99 B99 H99
      refine ops_done ?_
      refine then_normal ?_
      refine wp_seq ?_
      refine wp_seq ?_
      refine flow_region (dsts := [some 20, some 21]) (refs := [[.pre 2], [.res 0]]) (outs := [.res 1, .pre 0, .pre 1, .pre 3, .pre 4, .pre 5, .pre 6]) (als := [false, false]) (posts := [.val (IsB true), .val (IsB false)])
        (out := [(21, .val (IsB false)), (4, .val (Lit (.int .i64 64))), (5, .val (Lit (.int .u64 x))), (3, .box 37 8 (IsNum (.flt b))), (2, .val (IsB false)), (0, .val (Lit (.int .u64 x))), (105, .val (EnvV))]) (nb := []) H99 2 [] rfl (by kernel_rfl) rfl rfl ?_ ?_
      · refine .cons (.plain rfl (ok_move (.tmp 0 rfl))) ?_
        refine .cons (.plain rfl (ok_not (b := true) (.tmp 0 rfl))) ?_
        exact .nil
      clear H99 a99 w99 B99
      intro a100 w100 B100 H100
      refine ops_done ?_
      refine then_normal ?_
      refine f_condF H100 (.tmp 0 rfl) ?_
      refine wp_skip ?_
      refine then_normal ?_
      refine wp_seq ?_
      refine flow_region (dsts := [some 23, some 24, some 22, some 25, some 26, some 7, some 8]) (refs := [[.pre 5], [.res 0, .pre 6], [.res 1], [.res 2], [.res 2], [.res 3], [.res 4]]) (outs := [.res 5, .res 6, .pre 1, .pre 2, .pre 3, .pre 4, .pre 5, .pre 6]) (als := [false, false, false, false, false, false, false]) (posts := [.val (Lit (.int .u64 x)), .val (Tup [Lit (.int .u16 ((toW 16 64 x).1)), IsB false]), .val (Tup [Lit (.int .u16 ((toW 16 64 x).1)), IsB false]), .val (Lit (.int .u16 ((toW 16 64 x).1))), .val (IsB false), .val (Lit (.int .u16 ((toW 16 64 x).1))), .val (IsB false)])
        (out := [(7, .val (Lit (.int .u16 ((toW 16 64 x).1)))), (8, .val (IsB false)), (4, .val (Lit (.int .i64 64))), (5, .val (Lit (.int .u64 x))), (3, .box 37 8 (IsNum (.flt b))), (2, .val (IsB false)), (0, .val (Lit (.int .u64 x))), (105, .val (EnvV))]) (nb := []) H100 7 [] rfl (by kernel_rfl) rfl rfl ?_ ?_
      · refine .cons (.plain rfl (ok_move (.tmp 0 rfl))) ?_
        refine .cons (.plain rfl (ok_callE ((con_to1664 x hx).weak (fun v w B h => by rw [q16] at h; exact h)) 1 rfl (.cons (.tmp 0 rfl) (.nil)))) ?_
        refine .cons (.plain rfl (ok_move (.tmp 0 rfl))) ?_
        refine .cons (.plain rfl (ok_extract 0 (.tmp 0 rfl) rfl)) ?_
        refine .cons (.plain rfl (ok_extract 1 (.tmp 0 rfl) rfl)) ?_
        refine .cons (.plain rfl (ok_assign (.tmp 0 rfl))) ?_
        refine .cons (.plain rfl (ok_assign (.tmp 0 rfl))) ?_
        exact .nil
      clear H100 a100 w100 B100
      intro a101 w101 B101 H101
      refine ops_done ?_
      refine then_normal ?_
      refine wp_seq ?_
      refine flow_region (dsts := [some 28, some 29, some 27, some 30, some 31, some 9, some 10]) (refs := [[.pre 6], [.res 0, .pre 7], [.res 1], [.res 2], [.res 2], [.res 3], [.res 4]]) (outs := [.res 5, .res 6, .pre 0, .pre 1, .pre 2, .pre 3, .pre 4, .pre 5, .pre 6, .pre 7]) (als := [false, false, false, false, false, false, false]) (posts := [.val (Lit (.int .u64 x)), .val (Tup [Lit (.int .u32 ((toW 32 64 x).1)), IsB false]), .val (Tup [Lit (.int .u32 ((toW 32 64 x).1)), IsB false]), .val (Lit (.int .u32 ((toW 32 64 x).1))), .val (IsB false), .val (Lit (.int .u32 ((toW 32 64 x).1))), .val (IsB false)])
        (out := [(9, .val (Lit (.int .u32 ((toW 32 64 x).1)))), (10, .val (IsB false)), (7, .val (Lit (.int .u16 ((toW 16 64 x).1)))), (8, .val (IsB false)), (4, .val (Lit (.int .i64 64))), (5, .val (Lit (.int .u64 x))), (3, .box 37 8 (IsNum (.flt b))), (2, .val (IsB false)), (0, .val (Lit (.int .u64 x))), (105, .val (EnvV))]) (nb := []) H101 7 [] rfl (by kernel_rfl) rfl rfl ?_ ?_
      · refine .cons (.plain rfl (ok_move (.tmp 0 rfl))) ?_
        refine .cons (.plain rfl (ok_callE ((con_to3264 x hx).weak (fun v w B h => by rw [q32] at h; exact h)) 1 rfl (.cons (.tmp 0 rfl) (.nil)))) ?_
        refine .cons (.plain rfl (ok_move (.tmp 0 rfl))) ?_
        refine .cons (.plain rfl (ok_extract 0 (.tmp 0 rfl) rfl)) ?_
        refine .cons (.plain rfl (ok_extract 1 (.tmp 0 rfl) rfl)) ?_
        refine .cons (.plain rfl (ok_assign (.tmp 0 rfl))) ?_
        refine .cons (.plain rfl (ok_assign (.tmp 0 rfl))) ?_
        exact .nil
      clear H101 a101 w101 B101
      intro a102 w102 B102 H102
      refine ops_done ?_
      refine then_normal ?_
      refine wp_seq ?_
      refine flow_region (dsts := [some 32, some 33, some 34, some 35, some 36, some 37, some 38, some 39, some 40, some 41, some 11]) (refs := [[.pre 6], [.res 0], [.res 1], [.res 2], [.res 3], [.res 3], [.res 3], [.res 3], [.res 3], [.res 3], [.res 9]]) (outs := [.res 10, .pre 0, .pre 1, .pre 2, .pre 3, .pre 4, .pre 5, .pre 7, .pre 8, .pre 9]) (als := [false, false, false, false, false, false, false, false, false, false, false]) (posts := [.ptr 37 8 (IsNum (.flt b)) 0, .val (Lit (.int .i8 4)), .val (IsB false), .val (IsB false), .val (IsUndef), .val (IsUndef), .val (IsUndef), .val (IsUndef), .val (IsUndef), .val (IsB false), .val (IsB false)])
        (out := [(11, .val (IsB false)), (9, .val (Lit (.int .u32 ((toW 32 64 x).1)))), (10, .val (IsB false)), (7, .val (Lit (.int .u16 ((toW 16 64 x).1)))), (8, .val (IsB false)), (4, .val (Lit (.int .i64 64))), (5, .val (Lit (.int .u64 x))), (2, .val (IsB false)), (0, .val (Lit (.int .u64 x))), (105, .val (EnvV))]) (nb := []) H102 11 [] rfl (by kernel_rfl) rfl rfl ?_ ?_
      · refine .cons (.plain rfl (ok_addrV0 (.tmp 0 rfl))) ?_
        refine .cons (.plain rfl (ok_loadV0 (.tmp 0 rfl))) ?_
        refine .cons (.plain rfl (ok_cmp (b := false) (.tmp 0 rfl) (.lit) (by decide))) ?_
        refine .cons (.plain rfl (ok_move (.tmp 0 rfl))) ?_
        refine .cons (.unwanted 3 true rfl rfl rfl 0 rfl) ?_
        refine .cons (.unwanted 3 true rfl rfl rfl 0 rfl) ?_
        refine .cons (.unwanted 3 true rfl rfl rfl 0 rfl) ?_
        refine .cons (.unwanted 3 true rfl rfl rfl 0 rfl) ?_
        refine .cons (.unwanted 3 true rfl rfl rfl 0 rfl) ?_
        refine .cons (.plain rfl (ok_pickF (.tmp 0 rfl) (.lit))) ?_
        refine .cons (.plain rfl (ok_assign (.tmp 0 rfl))) ?_
        exact .nil
      clear H102 a102 w102 B102
      intro a103 w103 B103 H103
      refine ops_done ?_
      refine then_normal ?_
      refine wp_seq ?_
      refine wp_block ?_
      refine wp_seq ?_
      refine flow_region (dsts := [some 43, some 44, some 42]) (refs := [[.pre 5], [.res 0], [.res 1]]) (outs := [.res 2, .pre 0, .pre 1, .pre 2, .pre 3, .pre 4, .pre 5, .pre 6, .pre 7, .pre 8, .pre 9]) (als := [false, false, false]) (posts := [.val (Lit (.int .i64 64)), .val (IsB false), .val (IsB false)])
        (out := [(42, .val (IsB false)), (11, .val (IsB false)), (9, .val (Lit (.int .u32 ((toW 32 64 x).1)))), (10, .val (IsB false)), (7, .val (Lit (.int .u16 ((toW 16 64 x).1)))), (8, .val (IsB false)), (4, .val (Lit (.int .i64 64))), (5, .val (Lit (.int .u64 x))), (2, .val (IsB false)), (0, .val (Lit (.int .u64 x))), (105, .val (EnvV))]) (nb := []) H103 3 [] rfl (by kernel_rfl) rfl rfl ?_ ?_
      · refine .cons (.plain rfl (ok_move (.tmp 0 rfl))) ?_
        refine .cons (.plain rfl (ok_cmp (b := false) (.tmp 0 rfl) (.lit) (by decide))) ?_
        refine .cons (.plain rfl (ok_assign (.tmp 0 rfl))) ?_
        exact .nil
      clear H103 a103 w103 B103
      intro a104 w104 B104 H104
      refine ops_done ?_
      refine then_normal ?_
      refine f_condF H104 (.tmp 0 rfl) ?_
      refine wp_seq ?_
      refine flow_region (dsts := [some 71, some 72, some 70]) (refs := [[.pre 6], [.res 0], [.res 1]]) (outs := [.res 2, .pre 2, .pre 3, .pre 5, .pre 6, .pre 7, .pre 8, .pre 9, .pre 10]) (als := [false, false, false]) (posts := [.val (Lit (.int .i64 64)), .val (IsB false), .val (IsB false)])
        (out := [(70, .val (IsB false)), (9, .val (Lit (.int .u32 ((toW 32 64 x).1)))), (10, .val (IsB false)), (8, .val (IsB false)), (4, .val (Lit (.int .i64 64))), (5, .val (Lit (.int .u64 x))), (2, .val (IsB false)), (0, .val (Lit (.int .u64 x))), (105, .val (EnvV))]) (nb := []) H104 3 [] rfl (by kernel_rfl) rfl rfl ?_ ?_
      · refine .cons (.plain rfl (ok_move (.tmp 0 rfl))) ?_
        refine .cons (.plain rfl (ok_cmp (b := false) (.tmp 0 rfl) (.lit) (by decide))) ?_
        refine .cons (.plain rfl (ok_assign (.tmp 0 rfl))) ?_
        exact .nil
      clear H104 a104 w104 B104
      intro a105 w105 B105 H105
      refine ops_done ?_
      refine then_normal ?_
      refine f_condF H105 (.tmp 0 rfl) ?_
      refine wp_skip ?_
      refine block_normal ?_
      refine then_normal ?_
      refine wp_seq ?_
      refine flow_region (dsts := [some 87, some 88, some 89, some 90, some 91, some 92, some 93, some 94, some 95, some 96, some 97, some 98, some 99, some 100, some 101, some 102, some 103, some 104, some 2]) (refs := [[.pre 4], [.res 0], [.res 1], [.res 2, .pre 5], [.res 2, .pre 7], [.res 2, .res 3, .res 4], [.res 2, .res 5], [.res 6], [.res 7, .pre 2], [.res 7, .res 8], [.res 7, .res 9], [.res 10], [.res 11, .pre 3], [.res 11, .res 12], [.res 11, .res 13], [.res 14], [.res 15, .pre 8], [.res 15, .res 16], [.res 17]]) (outs := [.res 18, .pre 8]) (als := [false, false, false, false, false, false, false, false, false, false, false, false, false, false, false, false, false, false, false]) (posts := [.val (Lit (.int .i64 64)), .val (IsB true), .val (IsB true), .val (Lit (.int .u64 x)), .val (Lit (.int .u64 x)), .val (IsB true), .val (IsB true), .val (IsB true), .val (IsB false), .val (IsB true), .val (IsB true), .val (IsB true), .val (IsB false), .val (IsB true), .val (IsB true), .val (IsB true), .val (IsB true), .val (IsB true), .val (IsB true)])
        (out := [(2, .val (IsB true)), (105, .val (EnvV))]) (nb := []) H105 19 [] rfl (by kernel_rfl) rfl rfl ?_ ?_
      · refine .cons (.plain rfl (ok_move (.tmp 0 rfl))) ?_
        refine .cons (.plain rfl (ok_cmp (b := true) (.tmp 0 rfl) (.lit) (by decide))) ?_
        refine .cons (.plain rfl (ok_move (.tmp 0 rfl))) ?_
        refine .cons (.wanted 2 true rfl rfl rfl 0 rfl (ok_move (.tmp 1 rfl))) ?_
        refine .cons (.wanted 2 true rfl rfl rfl 0 rfl (ok_move (.tmp 1 rfl))) ?_
        refine .cons (.wanted 2 true rfl rfl rfl 0 rfl (ok_cmp (b := true) (.tmp 1 rfl) (.tmp 2 rfl) ((decide_eq_true (rfl)).symm))) ?_
        refine .cons (.plain rfl (ok_pickT (.tmp 0 rfl) (.tmp 1 rfl))) ?_
        refine .cons (.plain rfl (ok_move (.tmp 0 rfl))) ?_
        refine .cons (.wanted 7 true rfl rfl rfl 0 rfl (ok_move (.tmp 1 rfl))) ?_
        refine .cons (.wanted 7 true rfl rfl rfl 0 rfl (ok_not (b := false) (.tmp 1 rfl))) ?_
        refine .cons (.plain rfl (ok_pickT (.tmp 0 rfl) (.tmp 1 rfl))) ?_
        refine .cons (.plain rfl (ok_move (.tmp 0 rfl))) ?_
        refine .cons (.wanted 11 true rfl rfl rfl 0 rfl (ok_move (.tmp 1 rfl))) ?_
        refine .cons (.wanted 11 true rfl rfl rfl 0 rfl (ok_not (b := false) (.tmp 1 rfl))) ?_
        refine .cons (.plain rfl (ok_pickT (.tmp 0 rfl) (.tmp 1 rfl))) ?_
        refine .cons (.plain rfl (ok_move (.tmp 0 rfl))) ?_
        refine .cons (.wanted 15 true rfl rfl rfl 0 rfl (ok_callE (con_lives15) 1 rfl (.nil))) ?_
        refine .cons (.plain rfl (ok_pickT (.tmp 0 rfl) (.tmp 1 rfl))) ?_
        refine .cons (.plain rfl (ok_assign (.tmp 0 rfl))) ?_
        exact .nil
      clear H105 a105 w105 B105
      intro a106 w106 B106 H106
      refine ops_done ?_
      refine then_normal ?_
      refine wp_ret ?_
      exact f_ret H106 rfl 0 rfl (fun _ _ _ h => h)
theorem walk_NumberNarrow (w : World) (hS : Shapes w) (hT : Tab w) (x : Int) (hx : 0 ≤ x ∧ x < 18446744073709551616) :
    Calls Tryz.prog 6 #[.int .u64 x] w (fun e w' => e = .returned (.bool true) ∧ Below w.heap.size w w') := by
  refine ((con_NumberNarrow x hx).calls [.int .u64 x] w (fun _ => False) (fun _ h => h.elim) ⟨hS, hT, fun h => h⟩ ⟨rfl, trivial⟩).mono ?_
  rintro e w' ⟨v, rfl, h, hb⟩
  obtain rfl := h
  exact ⟨rfl, hb⟩
end Go.Proofs.YtoimhjcpeifegaaGreatDoor
