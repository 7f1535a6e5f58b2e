/- The law NumberNone: its walk. -/
import Derived.Test.YtoimhjcpeifegaaGreatDoorPk20
set_option linter.unusedVariables false
set_option linter.unusedSimpArgs false
/- WalkNumberNone. (Printed by flow15.py.) -/
namespace Go.Proofs.YtoimhjcpeifegaaGreatDoor
open Go Go.RowKit

set_option maxRecDepth 20000 in
set_option maxHeartbeats 4000000 in
theorem con_NumberNone (t : VT) (okt : VOk (VT.d t)) (x : Int) (hx : 0 ≤ x ∧ x < 18446744073709551616) : ConE Tryz.prog 7 [IsVA t, Lit (.int .u64 x)] (IsB true) := by
  refine f_enterE (N := 93) Tryz.ntmps7 (fun _ _ => by go_simp) Tryz.func7 rfl (by simp) ?_
  intro a0 w0 B0 H0
  replace H0 : St 93 w0 B0 a0 w0 B0 [(0, .val (IsVA t)), (1, .val (Lit (.int .u64 x))), (93, .val (EnvV))] [] := H0
  refine wp_seq ?_
  refine flow_region (dsts := [some 2, some 4]) (refs := [[.pre 0], []]) (outs := [.res 0, .res 1, .pre 1, .pre 2]) (als := [true, false]) (posts := [.box 37 8 (IsVA t), .val (IsB false)])
    (out := [(2, .box 37 8 (IsVA t)), (4, .val (IsB false)), (1, .val (Lit (.int .u64 x))), (93, .val (EnvV))]) (nb := [2]) H0 2 [] rfl (by kernel_rfl) rfl rfl ?_ ?_
  · refine .cons (.plain rfl (ok_box (.tmp 0 rfl) shape_VA.two)) ?_
    refine .cons (.plain rfl (ok_assign (.lit))) ?_
    exact .nil
  clear H0
  intro a1 w1 B1 H1
  simp only [List.cons_append, List.nil_append] at H1
  refine ops_done ?_
  refine then_normal ?_
  refine wp_seq ?_
  refine wp_seq ?_
  refine flow_region (dsts := [some 14, some 15, some 16]) (refs := [[.pre 0], [.res 0], [.res 1]]) (outs := [.res 2, .pre 0, .pre 1, .pre 2, .pre 3]) (als := [false, false, false]) (posts := [.val (IsVA t), .val (IsVq ([t])), .val (IsIf True (∀ u ∈ [t], Wn u))])
    (out := [(16, .val (IsIf True (∀ u ∈ [t], Wn u))), (2, .box 37 8 (IsVA t)), (4, .val (IsB false)), (1, .val (Lit (.int .u64 x))), (93, .val (EnvV))]) (nb := []) H1 3 [] rfl (by kernel_rfl) rfl rfl ?_ ?_
  · refine .cons (.plain rfl (ok_load tyV (.tmp 0 rfl))) ?_
    refine .cons (.plain rfl (ok_oneVq (.tmp 0 rfl))) ?_
    refine .cons (.plain rfl (ok_call (con_beyondV [t]) (.cons (.tmp 0 rfl) (.nil)))) ?_
    exact .nil
  clear H1 a1 w1 B1
  intro a2 w2 B2 H2
  refine ops_done ?_
  refine then_normal ?_
  refine f_condI H2 (.tmp 0 rfl) ?_ ?_
  · intro hc3
    refine wp_seq ?_
    refine flow_region (dsts := [some 4]) (refs := [[]]) (outs := [.res 0, .pre 1, .pre 3, .pre 4]) (als := [false]) (posts := [.val (IsB true)])
      (out := [(4, .val (IsB true)), (2, .box 37 8 (IsVA t)), (1, .val (Lit (.int .u64 x))), (93, .val (EnvV))]) (nb := []) H2 1 [] rfl (by kernel_rfl) rfl rfl ?_ ?_
    · refine .cons (.plain rfl (ok_assign (.lit))) ?_
      exact .nil
    clear H2 a2 w2 B2
    intro a4 w4 B4 H4
    refine ops_done ?_
    refine then_normal ?_
    refine wp_ret ?_
    refine then_ret ?_
    exact f_ret H4 rfl 0 rfl (fun _ _ _ h => h)
  · intro hc3
    have hW : Wn t := hc3 t (List.mem_singleton.2 rfl)
    refine wp_skip ?_
    refine then_normal ?_
    refine wp_seq ?_
    refine wp_seq ?_
    rcases (k_cases t) with ⟨h3, h4⟩ | ⟨h3, hgood⟩ | ⟨h3, hbad⟩ | ⟨h3, h4, hgood⟩ | ⟨h3, h4, hbad⟩
    · have hno : NoNum t := .inl ⟨h3, h4⟩
      refine flow_region (dsts := [some 17, some 18, some 19, some 20, some 21, some 22, some 23, some 24, some 25, some 26, some 27, some 28, some 29]) (refs := [[.pre 1], [.res 0], [.res 1], [.res 2], [.res 3, .pre 1], [.res 3, .res 4], [.res 3, .res 5], [.res 3, .res 6], [.res 7], [.res 8], [.res 8], [.res 8], [.res 8]]) (outs := [.res 12, .pre 1, .pre 2, .pre 3, .pre 4]) (als := [false, false, false, false, false, false, false, false, false, false, false, false, false]) (posts := [.ptr 37 8 (IsVA t) 0, .val (Lit (.int .i8 ((VT.d t).k))), .val (IsB false), .val (IsB false), .ptr 37 8 (IsVA t) 0, .val (Lit (.int .i8 ((VT.d t).k))), .val (IsB false), .val (IsB false), .val (IsB false), .val (IsUndef), .val (IsUndef), .val (IsUndef), .val (IsB false)])
        (out := [(29, .val (IsB false)), (2, .box 37 8 (IsVA t)), (4, .val (IsB false)), (1, .val (Lit (.int .u64 x))), (93, .val (EnvV))]) (nb := []) H2 13 [] rfl (by kernel_rfl) rfl rfl ?_ ?_
      · refine .cons (.plain rfl (ok_addrV0 (.tmp 0 rfl))) ?_
        refine .cons (.plain rfl (ok_loadVA0 (.tmp 0 rfl))) ?_
        refine .cons (.plain rfl (ok_cmp (b := false) (.tmp 0 rfl) (.lit) ((decide_eq_false (h3)).symm))) ?_
        refine .cons (.plain rfl (ok_move (.tmp 0 rfl))) ?_
        refine .cons (.wanted 3 false rfl rfl rfl 0 rfl (ok_addrV0 (.tmp 1 rfl))) ?_
        refine .cons (.wanted 3 false rfl rfl rfl 0 rfl (ok_loadVA0 (.tmp 1 rfl))) ?_
        refine .cons (.wanted 3 false rfl rfl rfl 0 rfl (ok_cmp (b := false) (.tmp 1 rfl) (.lit) ((decide_eq_false (h4)).symm))) ?_
        refine .cons (.plain rfl (ok_pickF (.tmp 0 rfl) (.tmp 1 rfl))) ?_
        refine .cons (.plain rfl (ok_move (.tmp 0 rfl))) ?_
        refine .cons (.unwanted 8 true rfl rfl rfl 0 rfl) ?_
        refine .cons (.unwanted 8 true rfl rfl rfl 0 rfl) ?_
        refine .cons (.unwanted 8 true rfl rfl rfl 0 rfl) ?_
        refine .cons (.plain rfl (ok_pickF (.tmp 0 rfl) (.lit))) ?_
        exact .nil
      clear H2 a2 w2 B2
      intro a5 w5 B5 H5
      refine ops_done ?_
      refine then_normal ?_
      refine f_condF H5 (.tmp 0 rfl) ?_
      refine wp_skip ?_
      refine then_normal ?_
      refine wp_seq ?_
      refine flow_region (dsts := [some 32, some 33, some 31, some 34, some 35, some 5, some 6]) (refs := [[.pre 1], [.res 0, .pre 4], [.res 1], [.res 2], [.res 2], [.res 3], [.res 4]]) (outs := [.res 5, .res 6, .pre 1, .pre 2, .pre 3, .pre 4]) (als := [false, false, false, false, false, false, false]) (posts := [.val (IsVA t), .val (Tup [Lit (.int .u64 0), IsB false]), .val (Tup [Lit (.int .u64 0), IsB false]), .val (Lit (.int .u64 0)), .val (IsB false), .val (Lit (.int .u64 0)), .val (IsB false)])
        (out := [(5, .val (Lit (.int .u64 0))), (6, .val (IsB false)), (2, .box 37 8 (IsVA t)), (4, .val (IsB false)), (1, .val (Lit (.int .u64 x))), (93, .val (EnvV))]) (nb := []) H5 7 [] rfl (by kernel_rfl) rfl rfl ?_ ?_
      · refine .cons (.plain rfl (ok_load tyV (.tmp 0 rfl))) ?_
        refine .cons (.plain rfl (ok_callE (con_nbitsN t okt.b hno) 1 rfl (.cons (.tmp 0 rfl) (.nil)))) ?_
        refine .cons (.plain rfl (ok_move (.tmp 0 rfl))) ?_
        refine .cons (.plain rfl (ok_extract 0 (.tmp 0 rfl) rfl)) ?_
        refine .cons (.plain rfl (ok_extract 1 (.tmp 0 rfl) rfl)) ?_
        refine .cons (.plain rfl (ok_assign (.tmp 0 rfl))) ?_
        refine .cons (.plain rfl (ok_assign (.tmp 0 rfl))) ?_
        exact .nil
      clear H5 a5 w5 B5
      intro a6 w6 B6 H6
      refine ops_done ?_
      refine then_normal ?_
      refine wp_seq ?_
      refine flow_region (dsts := [some 37, some 38, some 36, some 39, some 40, some 41, some 7, some 8, some 9]) (refs := [[.pre 2], [.res 0, .pre 5], [.res 1], [.res 2], [.res 2], [.res 2], [.res 3], [.res 4], [.res 5]]) (outs := [.res 6, .res 7, .res 8, .pre 0, .pre 1, .pre 2, .pre 3, .pre 4, .pre 5]) (als := [false, false, false, false, false, false, false, false, false]) (posts := [.val (IsVA t), .val (Tup [Lit (.int .i64 0), Lit (.int .u64 0), IsB false]), .val (Tup [Lit (.int .i64 0), Lit (.int .u64 0), IsB false]), .val (Lit (.int .i64 0)), .val (Lit (.int .u64 0)), .val (IsB false), .val (Lit (.int .i64 0)), .val (Lit (.int .u64 0)), .val (IsB false)])
        (out := [(7, .val (Lit (.int .i64 0))), (8, .val (Lit (.int .u64 0))), (9, .val (IsB false)), (5, .val (Lit (.int .u64 0))), (6, .val (IsB false)), (2, .box 37 8 (IsVA t)), (4, .val (IsB false)), (1, .val (Lit (.int .u64 x))), (93, .val (EnvV))]) (nb := []) H6 9 [] rfl (by kernel_rfl) rfl rfl ?_ ?_
      · refine .cons (.plain rfl (ok_load tyV (.tmp 0 rfl))) ?_
        refine .cons (.plain rfl (ok_callE (con_narrowN t okt.b hno) 1 rfl (.cons (.tmp 0 rfl) (.nil)))) ?_
        refine .cons (.plain rfl (ok_move (.tmp 0 rfl))) ?_
        refine .cons (.plain rfl (ok_extract 0 (.tmp 0 rfl) rfl)) ?_
        refine .cons (.plain rfl (ok_extract 1 (.tmp 0 rfl) rfl)) ?_
        refine .cons (.plain rfl (ok_extract 2 (.tmp 0 rfl) rfl)) ?_
        refine .cons (.plain rfl (ok_assign (.tmp 0 rfl))) ?_
        refine .cons (.plain rfl (ok_assign (.tmp 0 rfl))) ?_
        refine .cons (.plain rfl (ok_assign (.tmp 0 rfl))) ?_
        exact .nil
      clear H6 a6 w6 B6
      intro a7 w7 B7 H7
      refine ops_done ?_
      refine then_normal ?_
      refine wp_seq ?_
      refine flow_drawT (dsts := [some 43, some 44, some 45, some 46, some 42, some 47, some 48, some 10, some 11]) (refs := [[.pre 5], [.pre 7], [.res 1, .pre 8], [.res 0, .res 2, .pre 8], [.res 3], [.res 4], [.res 4], [.res 5], [.res 6]]) (outs := [.res 7, .res 8, .pre 0, .pre 1, .pre 2, .pre 3, .pre 4, .pre 5, .pre 6, .pre 7, .pre 8]) (als := [false, false, false, false, false, false, false, false, false]) (posts := [.val (IsVA t), .val (Lit (.int .u64 x)), .val (IsNum (ofV 64 x)), .val (Tup [Lit (.int .i64 0), IsB false]), .val (Tup [Lit (.int .i64 0), IsB false]), .val (Lit (.int .i64 0)), .val (IsB false), .val (Lit (.int .i64 0)), .val (IsB false)])
        (out := [(10, .val (Lit (.int .i64 0))), (11, .val (IsB false)), (7, .val (Lit (.int .i64 0))), (8, .val (Lit (.int .u64 0))), (9, .val (IsB false)), (5, .val (Lit (.int .u64 0))), (6, .val (IsB false)), (2, .box 37 8 (IsVA t)), (4, .val (IsB false)), (1, .val (Lit (.int .u64 x))), (93, .val (EnvV))]) (nb := []) H7 (by kernel_rfl) 9 0 #[true, true, true, true, true, true, true, true, true] (by kernel_rfl) (by kernel_rfl) rfl rfl ?_ ?_
      · refine .cons (.plain rfl (ok_load tyV (.tmp 0 rfl))) ?_
        refine .cons (.plain rfl (ok_move (.tmp 0 rfl))) ?_
        refine .cons (.plain rfl (ok_callE (con_of64 x hx) 1 rfl (.cons (.tmp 0 rfl) (.nil)))) ?_
        refine .cons (.plain rfl (ok_callE (con_ncmpNL t okt.b hno (ofV 64 x) (ok_of w64 x (hx64v hx))) 2 rfl (.cons (.tmp 0 rfl) (.cons (.tmp 1 rfl) (.nil))))) ?_
        refine .cons (.plain rfl (ok_move (.tmp 0 rfl))) ?_
        refine .cons (.plain rfl (ok_extract 0 (.tmp 0 rfl) rfl)) ?_
        refine .cons (.plain rfl (ok_extract 1 (.tmp 0 rfl) rfl)) ?_
        refine .cons (.plain rfl (ok_assign (.tmp 0 rfl))) ?_
        refine .cons (.plain rfl (ok_assign (.tmp 0 rfl))) ?_
        exact .nil
      clear H7 a7 w7 B7
      intro a8 w8 B8 H8
      refine any_done (by kernel_rfl) ?_
      refine then_normal ?_
      refine wp_seq ?_
      refine flow_drawT (dsts := [some 50, some 51, some 52, some 53, some 49, some 54, some 55, some 12, some 13]) (refs := [[.pre 9], [.res 0, .pre 10], [.pre 7], [.res 1, .res 2, .pre 10], [.res 3], [.res 4], [.res 4], [.res 5], [.res 6]]) (outs := [.res 7, .res 8, .pre 0, .pre 1, .pre 2, .pre 3, .pre 4, .pre 5, .pre 6, .pre 8, .pre 10]) (als := [false, false, false, false, false, false, false, false, false]) (posts := [.val (Lit (.int .u64 x)), .val (IsNum (ofV 64 x)), .val (IsVA t), .val (Tup [Lit (.int .i64 0), IsB false]), .val (Tup [Lit (.int .i64 0), IsB false]), .val (Lit (.int .i64 0)), .val (IsB false), .val (Lit (.int .i64 0)), .val (IsB false)])
        (out := [(12, .val (Lit (.int .i64 0))), (13, .val (IsB false)), (10, .val (Lit (.int .i64 0))), (11, .val (IsB false)), (7, .val (Lit (.int .i64 0))), (8, .val (Lit (.int .u64 0))), (9, .val (IsB false)), (5, .val (Lit (.int .u64 0))), (6, .val (IsB false)), (4, .val (IsB false)), (93, .val (EnvV))]) (nb := []) H8 (by kernel_rfl) 9 0 #[true, true, true, true, true, true, true, true, true] (by kernel_rfl) (by kernel_rfl) rfl rfl ?_ ?_
      · refine .cons (.plain rfl (ok_move (.tmp 0 rfl))) ?_
        refine .cons (.plain rfl (ok_callE (con_of64 x hx) 1 rfl (.cons (.tmp 0 rfl) (.nil)))) ?_
        refine .cons (.plain rfl (ok_load tyV (.tmp 0 rfl))) ?_
        refine .cons (.plain rfl (ok_callE (con_ncmpNR t okt.b hno (ofV 64 x) (ok_of w64 x (hx64v hx)) (whatV_some _)) 2 rfl (.cons (.tmp 0 rfl) (.cons (.tmp 1 rfl) (.nil))))) ?_
        refine .cons (.plain rfl (ok_move (.tmp 0 rfl))) ?_
        refine .cons (.plain rfl (ok_extract 0 (.tmp 0 rfl) rfl)) ?_
        refine .cons (.plain rfl (ok_extract 1 (.tmp 0 rfl) rfl)) ?_
        refine .cons (.plain rfl (ok_assign (.tmp 0 rfl))) ?_
        refine .cons (.plain rfl (ok_assign (.tmp 0 rfl))) ?_
        exact .nil
      clear H8 a8 w8 B8
      intro a9 w9 B9 H9
      refine any_done (by kernel_rfl) ?_
      refine then_normal ?_
      refine wp_seq ?_
      refine flow_region (dsts := [some 56, some 57, some 58, some 59, some 60, some 61, some 62, some 63, some 64, some 65, some 66, some 67, some 68, some 69, some 70, some 71, some 72, some 73, some 74, some 75, some 76, some 77, some 78, some 79, some 80, some 81, some 82, some 83, some 84, some 85, some 86, some 87, some 88, some 89, some 90, some 91, some 92, some 4]) (refs := [[.pre 7], [.res 0], [.res 1], [.res 2, .pre 8], [.res 2, .res 3], [.res 2, .res 4], [.res 5], [.res 6, .pre 4], [.res 6, .res 7], [.res 6, .res 8], [.res 9], [.res 10, .pre 5], [.res 10, .res 11], [.res 10, .res 12], [.res 13], [.res 14, .pre 6], [.res 14, .res 15], [.res 14, .res 16], [.res 17], [.res 18, .pre 2], [.res 18, .res 19], [.res 18, .res 20], [.res 21], [.res 22, .pre 3], [.res 22, .res 23], [.res 22, .res 24], [.res 25], [.res 26, .pre 0], [.res 26, .res 27], [.res 26, .res 28], [.res 29], [.res 30, .pre 1], [.res 30, .res 31], [.res 30, .res 32], [.res 33], [.res 34, .pre 10], [.res 34, .res 35], [.res 36]]) (outs := [.res 37, .pre 10]) (als := [false, false, false, false, false, false, false, false, false, false, false, false, false, false, false, false, false, false, false, false, false, false, false, false, false, false, false, false, false, false, false, false, false, false, false, false, false, false]) (posts := [.val (Lit (.int .u64 0)), .val (IsB true), .val (IsB true), .val (IsB false), .val (IsB true), .val (IsB true), .val (IsB true), .val (Lit (.int .i64 0)), .val (IsB true), .val (IsB true), .val (IsB true), .val (Lit (.int .u64 0)), .val (IsB true), .val (IsB true), .val (IsB true), .val (IsB false), .val (IsB true), .val (IsB true), .val (IsB true), .val (Lit (.int .i64 0)), .val (IsB true), .val (IsB true), .val (IsB true), .val (IsB false), .val (IsB true), .val (IsB true), .val (IsB true), .val (Lit (.int .i64 0)), .val (IsB true), .val (IsB true), .val (IsB true), .val (IsB false), .val (IsB true), .val (IsB true), .val (IsB true), .val (IsB true), .val (IsB true), .val (IsB true)])
        (out := [(4, .val (IsB true)), (93, .val (EnvV))]) (nb := []) H9 38 [] rfl (by kernel_rfl) rfl rfl ?_ ?_
      · refine .cons (.plain rfl (ok_move (.tmp 0 rfl))) ?_
        refine .cons (.plain rfl (ok_cmp (b := true) (.tmp 0 rfl) (.lit) (by decide))) ?_
        refine .cons (.plain rfl (ok_move (.tmp 0 rfl))) ?_
        refine .cons (.wanted 2 true rfl rfl rfl 0 rfl (ok_move (.tmp 1 rfl))) ?_
        refine .cons (.wanted 2 true rfl rfl rfl 0 rfl (ok_not (b := false) (.tmp 1 rfl))) ?_
        refine .cons (.plain rfl (ok_pickT (.tmp 0 rfl) (.tmp 1 rfl))) ?_
        refine .cons (.plain rfl (ok_move (.tmp 0 rfl))) ?_
        refine .cons (.wanted 6 true rfl rfl rfl 0 rfl (ok_move (.tmp 1 rfl))) ?_
        refine .cons (.wanted 6 true rfl rfl rfl 0 rfl (ok_cmp (b := true) (.tmp 1 rfl) (.lit) (by decide))) ?_
        refine .cons (.plain rfl (ok_pickT (.tmp 0 rfl) (.tmp 1 rfl))) ?_
        refine .cons (.plain rfl (ok_move (.tmp 0 rfl))) ?_
        refine .cons (.wanted 10 true rfl rfl rfl 0 rfl (ok_move (.tmp 1 rfl))) ?_
        refine .cons (.wanted 10 true rfl rfl rfl 0 rfl (ok_cmp (b := true) (.tmp 1 rfl) (.lit) (by decide))) ?_
        refine .cons (.plain rfl (ok_pickT (.tmp 0 rfl) (.tmp 1 rfl))) ?_
        refine .cons (.plain rfl (ok_move (.tmp 0 rfl))) ?_
        refine .cons (.wanted 14 true rfl rfl rfl 0 rfl (ok_move (.tmp 1 rfl))) ?_
        refine .cons (.wanted 14 true rfl rfl rfl 0 rfl (ok_not (b := false) (.tmp 1 rfl))) ?_
        refine .cons (.plain rfl (ok_pickT (.tmp 0 rfl) (.tmp 1 rfl))) ?_
        refine .cons (.plain rfl (ok_move (.tmp 0 rfl))) ?_
        refine .cons (.wanted 18 true rfl rfl rfl 0 rfl (ok_move (.tmp 1 rfl))) ?_
        refine .cons (.wanted 18 true rfl rfl rfl 0 rfl (ok_cmp (b := true) (.tmp 1 rfl) (.lit) (by decide))) ?_
        refine .cons (.plain rfl (ok_pickT (.tmp 0 rfl) (.tmp 1 rfl))) ?_
        refine .cons (.plain rfl (ok_move (.tmp 0 rfl))) ?_
        refine .cons (.wanted 22 true rfl rfl rfl 0 rfl (ok_move (.tmp 1 rfl))) ?_
        refine .cons (.wanted 22 true rfl rfl rfl 0 rfl (ok_not (b := false) (.tmp 1 rfl))) ?_
        refine .cons (.plain rfl (ok_pickT (.tmp 0 rfl) (.tmp 1 rfl))) ?_
        refine .cons (.plain rfl (ok_move (.tmp 0 rfl))) ?_
        refine .cons (.wanted 26 true rfl rfl rfl 0 rfl (ok_move (.tmp 1 rfl))) ?_
        refine .cons (.wanted 26 true rfl rfl rfl 0 rfl (ok_cmp (b := true) (.tmp 1 rfl) (.lit) (by decide))) ?_
        refine .cons (.plain rfl (ok_pickT (.tmp 0 rfl) (.tmp 1 rfl))) ?_
        refine .cons (.plain rfl (ok_move (.tmp 0 rfl))) ?_
        refine .cons (.wanted 30 true rfl rfl rfl 0 rfl (ok_move (.tmp 1 rfl))) ?_
        refine .cons (.wanted 30 true rfl rfl rfl 0 rfl (ok_not (b := false) (.tmp 1 rfl))) ?_
        refine .cons (.plain rfl (ok_pickT (.tmp 0 rfl) (.tmp 1 rfl))) ?_
        refine .cons (.plain rfl (ok_move (.tmp 0 rfl))) ?_
        refine .cons (.wanted 34 true rfl rfl rfl 0 rfl (ok_callE (con_lives15) 1 rfl (.nil))) ?_
        refine .cons (.plain rfl (ok_pickT (.tmp 0 rfl) (.tmp 1 rfl))) ?_
        refine .cons (.plain rfl (ok_assign (.tmp 0 rfl))) ?_
        exact .nil
      clear H9 a9 w9 B9
      intro a10 w10 B10 H10
      refine ops_done ?_
      refine then_normal ?_
      refine wp_ret ?_
      exact f_ret H10 rfl 0 rfl (fun _ _ _ h => h)
    · have hk : (VT.d t).k = 3 ∨ (VT.d t).k = 4 := .inl h3
      refine flow_region (dsts := [some 17, some 18, some 19, some 20, some 21, some 22, some 23, some 24, some 25, some 26, some 27, some 28, some 29]) (refs := [[.pre 1], [.res 0], [.res 1], [.res 2], [.res 3], [.res 3], [.res 3], [.res 3], [.res 7], [.res 8, .pre 1], [.res 8, .res 9, .pre 4], [.res 8, .res 10], [.res 8, .res 11]]) (outs := [.res 12, .pre 1, .pre 2, .pre 3, .pre 4]) (als := [false, false, false, false, false, false, false, false, false, false, false, false, false]) (posts := [.ptr 37 8 (IsVA t) 0, .val (Lit (.int .i8 ((VT.d t).k))), .val (IsB true), .val (IsB true), .val (IsUndef), .val (IsUndef), .val (IsUndef), .val (IsB true), .val (IsB true), .val (IsVA t), .val (IsErr true), .val (IsB true), .val (IsB true)])
        (out := [(29, .val (IsB true)), (2, .box 37 8 (IsVA t)), (4, .val (IsB false)), (1, .val (Lit (.int .u64 x))), (93, .val (EnvV))]) (nb := []) H2 13 [] rfl (by kernel_rfl) rfl rfl ?_ ?_
      · refine .cons (.plain rfl (ok_addrV0 (.tmp 0 rfl))) ?_
        refine .cons (.plain rfl (ok_loadVA0 (.tmp 0 rfl))) ?_
        refine .cons (.plain rfl (ok_cmp (b := true) (.tmp 0 rfl) (.lit) ((decide_eq_true (h3)).symm))) ?_
        refine .cons (.plain rfl (ok_move (.tmp 0 rfl))) ?_
        refine .cons (.unwanted 3 false rfl rfl rfl 0 rfl) ?_
        refine .cons (.unwanted 3 false rfl rfl rfl 0 rfl) ?_
        refine .cons (.unwanted 3 false rfl rfl rfl 0 rfl) ?_
        refine .cons (.plain rfl (ok_pickT (.tmp 0 rfl) (.lit))) ?_
        refine .cons (.plain rfl (ok_move (.tmp 0 rfl))) ?_
        refine .cons (.wanted 8 true rfl rfl rfl 0 rfl (ok_load tyV (.tmp 1 rfl))) ?_
        refine .cons (.wanted 8 true rfl rfl rfl 0 rfl (ok_callE (con_checkgood t hk okt.b hgood hW) 2 rfl (.cons (.tmp 1 rfl) (.nil)))) ?_
        refine .cons (.wanted 8 true rfl rfl rfl 0 rfl (ok_eqErr (b := true) (.tmp 1 rfl))) ?_
        refine .cons (.plain rfl (ok_pickT (.tmp 0 rfl) (.tmp 1 rfl))) ?_
        exact .nil
      clear H2 a2 w2 B2
      intro a11 w11 B11 H11
      refine ops_done ?_
      refine then_normal ?_
      refine f_condT H11 (.tmp 0 rfl) ?_
      refine wp_seq ?_
      refine flow_region (dsts := [some 30, some 4]) (refs := [[.pre 4], [.res 0]]) (outs := [.res 1, .pre 1, .pre 3, .pre 4]) (als := [false, false]) (posts := [.val (IsB true), .val (IsB true)])
        (out := [(4, .val (IsB true)), (2, .box 37 8 (IsVA t)), (1, .val (Lit (.int .u64 x))), (93, .val (EnvV))]) (nb := []) H11 2 [] rfl (by kernel_rfl) rfl rfl ?_ ?_
      · refine .cons (.plain rfl (ok_callE (con_lives15) 0 rfl (.nil))) ?_
        refine .cons (.plain rfl (ok_assign (.tmp 0 rfl))) ?_
        exact .nil
      clear H11 a11 w11 B11
      intro a12 w12 B12 H12
      refine ops_done ?_
      refine then_normal ?_
      refine wp_ret ?_
      refine then_ret ?_
      exact f_ret H12 rfl 0 rfl (fun _ _ _ h => h)
    · have hk : (VT.d t).k = 3 ∨ (VT.d t).k = 4 := .inl h3
      have hno : NoNum t := .inr ⟨hk, hbad⟩
      refine flow_region (dsts := [some 17, some 18, some 19, some 20, some 21, some 22, some 23, some 24, some 25, some 26, some 27, some 28, some 29]) (refs := [[.pre 1], [.res 0], [.res 1], [.res 2], [.res 3], [.res 3], [.res 3], [.res 3], [.res 7], [.res 8, .pre 1], [.res 8, .res 9, .pre 4], [.res 8, .res 10], [.res 8, .res 11]]) (outs := [.res 12, .pre 1, .pre 2, .pre 3, .pre 4]) (als := [false, false, false, false, false, false, false, false, false, false, false, false, false]) (posts := [.ptr 37 8 (IsVA t) 0, .val (Lit (.int .i8 ((VT.d t).k))), .val (IsB true), .val (IsB true), .val (IsUndef), .val (IsUndef), .val (IsUndef), .val (IsB true), .val (IsB true), .val (IsVA t), .val (IsErr false), .val (IsB false), .val (IsB false)])
        (out := [(29, .val (IsB false)), (2, .box 37 8 (IsVA t)), (4, .val (IsB false)), (1, .val (Lit (.int .u64 x))), (93, .val (EnvV))]) (nb := []) H2 13 [] rfl (by kernel_rfl) rfl rfl ?_ ?_
      · refine .cons (.plain rfl (ok_addrV0 (.tmp 0 rfl))) ?_
        refine .cons (.plain rfl (ok_loadVA0 (.tmp 0 rfl))) ?_
        refine .cons (.plain rfl (ok_cmp (b := true) (.tmp 0 rfl) (.lit) ((decide_eq_true (h3)).symm))) ?_
        refine .cons (.plain rfl (ok_move (.tmp 0 rfl))) ?_
        refine .cons (.unwanted 3 false rfl rfl rfl 0 rfl) ?_
        refine .cons (.unwanted 3 false rfl rfl rfl 0 rfl) ?_
        refine .cons (.unwanted 3 false rfl rfl rfl 0 rfl) ?_
        refine .cons (.plain rfl (ok_pickT (.tmp 0 rfl) (.lit))) ?_
        refine .cons (.plain rfl (ok_move (.tmp 0 rfl))) ?_
        refine .cons (.wanted 8 true rfl rfl rfl 0 rfl (ok_load tyV (.tmp 1 rfl))) ?_
        refine .cons (.wanted 8 true rfl rfl rfl 0 rfl (ok_callE (con_checkbad t hk okt.b hbad) 2 rfl (.cons (.tmp 1 rfl) (.nil)))) ?_
        refine .cons (.wanted 8 true rfl rfl rfl 0 rfl (ok_eqErr (b := false) (.tmp 1 rfl))) ?_
        refine .cons (.plain rfl (ok_pickT (.tmp 0 rfl) (.tmp 1 rfl))) ?_
        exact .nil
      clear H2 a2 w2 B2
      intro a13 w13 B13 H13
      refine ops_done ?_
      refine then_normal ?_
      refine f_condF H13 (.tmp 0 rfl) ?_
      refine wp_skip ?_
      refine then_normal ?_
      refine wp_seq ?_
      refine flow_region (dsts := [some 32, some 33, some 31, some 34, some 35, some 5, some 6]) (refs := [[.pre 1], [.res 0, .pre 4], [.res 1], [.res 2], [.res 2], [.res 3], [.res 4]]) (outs := [.res 5, .res 6, .pre 1, .pre 2, .pre 3, .pre 4]) (als := [false, false, false, false, false, false, false]) (posts := [.val (IsVA t), .val (Tup [Lit (.int .u64 0), IsB false]), .val (Tup [Lit (.int .u64 0), IsB false]), .val (Lit (.int .u64 0)), .val (IsB false), .val (Lit (.int .u64 0)), .val (IsB false)])
        (out := [(5, .val (Lit (.int .u64 0))), (6, .val (IsB false)), (2, .box 37 8 (IsVA t)), (4, .val (IsB false)), (1, .val (Lit (.int .u64 x))), (93, .val (EnvV))]) (nb := []) H13 7 [] rfl (by kernel_rfl) rfl rfl ?_ ?_
      · refine .cons (.plain rfl (ok_load tyV (.tmp 0 rfl))) ?_
        refine .cons (.plain rfl (ok_callE (con_nbitsN t okt.b hno) 1 rfl (.cons (.tmp 0 rfl) (.nil)))) ?_
        refine .cons (.plain rfl (ok_move (.tmp 0 rfl))) ?_
        refine .cons (.plain rfl (ok_extract 0 (.tmp 0 rfl) rfl)) ?_
        refine .cons (.plain rfl (ok_extract 1 (.tmp 0 rfl) rfl)) ?_
        refine .cons (.plain rfl (ok_assign (.tmp 0 rfl))) ?_
        refine .cons (.plain rfl (ok_assign (.tmp 0 rfl))) ?_
        exact .nil
      clear H13 a13 w13 B13
      intro a14 w14 B14 H14
      refine ops_done ?_
      refine then_normal ?_
      refine wp_seq ?_
      refine flow_region (dsts := [some 37, some 38, some 36, some 39, some 40, some 41, some 7, some 8, some 9]) (refs := [[.pre 2], [.res 0, .pre 5], [.res 1], [.res 2], [.res 2], [.res 2], [.res 3], [.res 4], [.res 5]]) (outs := [.res 6, .res 7, .res 8, .pre 0, .pre 1, .pre 2, .pre 3, .pre 4, .pre 5]) (als := [false, false, false, false, false, false, false, false, false]) (posts := [.val (IsVA t), .val (Tup [Lit (.int .i64 0), Lit (.int .u64 0), IsB false]), .val (Tup [Lit (.int .i64 0), Lit (.int .u64 0), IsB false]), .val (Lit (.int .i64 0)), .val (Lit (.int .u64 0)), .val (IsB false), .val (Lit (.int .i64 0)), .val (Lit (.int .u64 0)), .val (IsB false)])
        (out := [(7, .val (Lit (.int .i64 0))), (8, .val (Lit (.int .u64 0))), (9, .val (IsB false)), (5, .val (Lit (.int .u64 0))), (6, .val (IsB false)), (2, .box 37 8 (IsVA t)), (4, .val (IsB false)), (1, .val (Lit (.int .u64 x))), (93, .val (EnvV))]) (nb := []) H14 9 [] rfl (by kernel_rfl) rfl rfl ?_ ?_
      · refine .cons (.plain rfl (ok_load tyV (.tmp 0 rfl))) ?_
        refine .cons (.plain rfl (ok_callE (con_narrowN t okt.b hno) 1 rfl (.cons (.tmp 0 rfl) (.nil)))) ?_
        refine .cons (.plain rfl (ok_move (.tmp 0 rfl))) ?_
        refine .cons (.plain rfl (ok_extract 0 (.tmp 0 rfl) rfl)) ?_
        refine .cons (.plain rfl (ok_extract 1 (.tmp 0 rfl) rfl)) ?_
        refine .cons (.plain rfl (ok_extract 2 (.tmp 0 rfl) rfl)) ?_
        refine .cons (.plain rfl (ok_assign (.tmp 0 rfl))) ?_
        refine .cons (.plain rfl (ok_assign (.tmp 0 rfl))) ?_
        refine .cons (.plain rfl (ok_assign (.tmp 0 rfl))) ?_
        exact .nil
      clear H14 a14 w14 B14
      intro a15 w15 B15 H15
      refine ops_done ?_
      refine then_normal ?_
      refine wp_seq ?_
      refine flow_drawT (dsts := [some 43, some 44, some 45, some 46, some 42, some 47, some 48, some 10, some 11]) (refs := [[.pre 5], [.pre 7], [.res 1, .pre 8], [.res 0, .res 2, .pre 8], [.res 3], [.res 4], [.res 4], [.res 5], [.res 6]]) (outs := [.res 7, .res 8, .pre 0, .pre 1, .pre 2, .pre 3, .pre 4, .pre 5, .pre 6, .pre 7, .pre 8]) (als := [false, false, false, false, false, false, false, false, false]) (posts := [.val (IsVA t), .val (Lit (.int .u64 x)), .val (IsNum (ofV 64 x)), .val (Tup [Lit (.int .i64 0), IsB false]), .val (Tup [Lit (.int .i64 0), IsB false]), .val (Lit (.int .i64 0)), .val (IsB false), .val (Lit (.int .i64 0)), .val (IsB false)])
        (out := [(10, .val (Lit (.int .i64 0))), (11, .val (IsB false)), (7, .val (Lit (.int .i64 0))), (8, .val (Lit (.int .u64 0))), (9, .val (IsB false)), (5, .val (Lit (.int .u64 0))), (6, .val (IsB false)), (2, .box 37 8 (IsVA t)), (4, .val (IsB false)), (1, .val (Lit (.int .u64 x))), (93, .val (EnvV))]) (nb := []) H15 (by kernel_rfl) 9 0 #[true, true, true, true, true, true, true, true, true] (by kernel_rfl) (by kernel_rfl) rfl rfl ?_ ?_
      · refine .cons (.plain rfl (ok_load tyV (.tmp 0 rfl))) ?_
        refine .cons (.plain rfl (ok_move (.tmp 0 rfl))) ?_
        refine .cons (.plain rfl (ok_callE (con_of64 x hx) 1 rfl (.cons (.tmp 0 rfl) (.nil)))) ?_
        refine .cons (.plain rfl (ok_callE (con_ncmpNL t okt.b hno (ofV 64 x) (ok_of w64 x (hx64v hx))) 2 rfl (.cons (.tmp 0 rfl) (.cons (.tmp 1 rfl) (.nil))))) ?_
        refine .cons (.plain rfl (ok_move (.tmp 0 rfl))) ?_
        refine .cons (.plain rfl (ok_extract 0 (.tmp 0 rfl) rfl)) ?_
        refine .cons (.plain rfl (ok_extract 1 (.tmp 0 rfl) rfl)) ?_
        refine .cons (.plain rfl (ok_assign (.tmp 0 rfl))) ?_
        refine .cons (.plain rfl (ok_assign (.tmp 0 rfl))) ?_
        exact .nil
      clear H15 a15 w15 B15
      intro a16 w16 B16 H16
      refine any_done (by kernel_rfl) ?_
      refine then_normal ?_
      refine wp_seq ?_
      refine flow_drawT (dsts := [some 50, some 51, some 52, some 53, some 49, some 54, some 55, some 12, some 13]) (refs := [[.pre 9], [.res 0, .pre 10], [.pre 7], [.res 1, .res 2, .pre 10], [.res 3], [.res 4], [.res 4], [.res 5], [.res 6]]) (outs := [.res 7, .res 8, .pre 0, .pre 1, .pre 2, .pre 3, .pre 4, .pre 5, .pre 6, .pre 8, .pre 10]) (als := [false, false, false, false, false, false, false, false, false]) (posts := [.val (Lit (.int .u64 x)), .val (IsNum (ofV 64 x)), .val (IsVA t), .val (Tup [Lit (.int .i64 0), IsB false]), .val (Tup [Lit (.int .i64 0), IsB false]), .val (Lit (.int .i64 0)), .val (IsB false), .val (Lit (.int .i64 0)), .val (IsB false)])
        (out := [(12, .val (Lit (.int .i64 0))), (13, .val (IsB false)), (10, .val (Lit (.int .i64 0))), (11, .val (IsB false)), (7, .val (Lit (.int .i64 0))), (8, .val (Lit (.int .u64 0))), (9, .val (IsB false)), (5, .val (Lit (.int .u64 0))), (6, .val (IsB false)), (4, .val (IsB false)), (93, .val (EnvV))]) (nb := []) H16 (by kernel_rfl) 9 0 #[true, true, true, true, true, true, true, true, true] (by kernel_rfl) (by kernel_rfl) rfl rfl ?_ ?_
      · refine .cons (.plain rfl (ok_move (.tmp 0 rfl))) ?_
        refine .cons (.plain rfl (ok_callE (con_of64 x hx) 1 rfl (.cons (.tmp 0 rfl) (.nil)))) ?_
        refine .cons (.plain rfl (ok_load tyV (.tmp 0 rfl))) ?_
        refine .cons (.plain rfl (ok_callE (con_ncmpNR t okt.b hno (ofV 64 x) (ok_of w64 x (hx64v hx)) (whatV_some _)) 2 rfl (.cons (.tmp 0 rfl) (.cons (.tmp 1 rfl) (.nil))))) ?_
        refine .cons (.plain rfl (ok_move (.tmp 0 rfl))) ?_
        refine .cons (.plain rfl (ok_extract 0 (.tmp 0 rfl) rfl)) ?_
        refine .cons (.plain rfl (ok_extract 1 (.tmp 0 rfl) rfl)) ?_
        refine .cons (.plain rfl (ok_assign (.tmp 0 rfl))) ?_
        refine .cons (.plain rfl (ok_assign (.tmp 0 rfl))) ?_
        exact .nil
      clear H16 a16 w16 B16
      intro a17 w17 B17 H17
      refine any_done (by kernel_rfl) ?_
      refine then_normal ?_
      refine wp_seq ?_
      refine flow_region (dsts := [some 56, some 57, some 58, some 59, some 60, some 61, some 62, some 63, some 64, some 65, some 66, some 67, some 68, some 69, some 70, some 71, some 72, some 73, some 74, some 75, some 76, some 77, some 78, some 79, some 80, some 81, some 82, some 83, some 84, some 85, some 86, some 87, some 88, some 89, some 90, some 91, some 92, some 4]) (refs := [[.pre 7], [.res 0], [.res 1], [.res 2, .pre 8], [.res 2, .res 3], [.res 2, .res 4], [.res 5], [.res 6, .pre 4], [.res 6, .res 7], [.res 6, .res 8], [.res 9], [.res 10, .pre 5], [.res 10, .res 11], [.res 10, .res 12], [.res 13], [.res 14, .pre 6], [.res 14, .res 15], [.res 14, .res 16], [.res 17], [.res 18, .pre 2], [.res 18, .res 19], [.res 18, .res 20], [.res 21], [.res 22, .pre 3], [.res 22, .res 23], [.res 22, .res 24], [.res 25], [.res 26, .pre 0], [.res 26, .res 27], [.res 26, .res 28], [.res 29], [.res 30, .pre 1], [.res 30, .res 31], [.res 30, .res 32], [.res 33], [.res 34, .pre 10], [.res 34, .res 35], [.res 36]]) (outs := [.res 37, .pre 10]) (als := [false, false, false, false, false, false, false, false, false, false, false, false, false, false, false, false, false, false, false, false, false, false, false, false, false, false, false, false, false, false, false, false, false, false, false, false, false, false]) (posts := [.val (Lit (.int .u64 0)), .val (IsB true), .val (IsB true), .val (IsB false), .val (IsB true), .val (IsB true), .val (IsB true), .val (Lit (.int .i64 0)), .val (IsB true), .val (IsB true), .val (IsB true), .val (Lit (.int .u64 0)), .val (IsB true), .val (IsB true), .val (IsB true), .val (IsB false), .val (IsB true), .val (IsB true), .val (IsB true), .val (Lit (.int .i64 0)), .val (IsB true), .val (IsB true), .val (IsB true), .val (IsB false), .val (IsB true), .val (IsB true), .val (IsB true), .val (Lit (.int .i64 0)), .val (IsB true), .val (IsB true), .val (IsB true), .val (IsB false), .val (IsB true), .val (IsB true), .val (IsB true), .val (IsB true), .val (IsB true), .val (IsB true)])
        (out := [(4, .val (IsB true)), (93, .val (EnvV))]) (nb := []) H17 38 [] rfl (by kernel_rfl) rfl rfl ?_ ?_
      · refine .cons (.plain rfl (ok_move (.tmp 0 rfl))) ?_
        refine .cons (.plain rfl (ok_cmp (b := true) (.tmp 0 rfl) (.lit) (by decide))) ?_
        refine .cons (.plain rfl (ok_move (.tmp 0 rfl))) ?_
        refine .cons (.wanted 2 true rfl rfl rfl 0 rfl (ok_move (.tmp 1 rfl))) ?_
        refine .cons (.wanted 2 true rfl rfl rfl 0 rfl (ok_not (b := false) (.tmp 1 rfl))) ?_
        refine .cons (.plain rfl (ok_pickT (.tmp 0 rfl) (.tmp 1 rfl))) ?_
        refine .cons (.plain rfl (ok_move (.tmp 0 rfl))) ?_
        refine .cons (.wanted 6 true rfl rfl rfl 0 rfl (ok_move (.tmp 1 rfl))) ?_
        refine .cons (.wanted 6 true rfl rfl rfl 0 rfl (ok_cmp (b := true) (.tmp 1 rfl) (.lit) (by decide))) ?_
        refine .cons (.plain rfl (ok_pickT (.tmp 0 rfl) (.tmp 1 rfl))) ?_
        refine .cons (.plain rfl (ok_move (.tmp 0 rfl))) ?_
        refine .cons (.wanted 10 true rfl rfl rfl 0 rfl (ok_move (.tmp 1 rfl))) ?_
        refine .cons (.wanted 10 true rfl rfl rfl 0 rfl (ok_cmp (b := true) (.tmp 1 rfl) (.lit) (by decide))) ?_
        refine .cons (.plain rfl (ok_pickT (.tmp 0 rfl) (.tmp 1 rfl))) ?_
        refine .cons (.plain rfl (ok_move (.tmp 0 rfl))) ?_
        refine .cons (.wanted 14 true rfl rfl rfl 0 rfl (ok_move (.tmp 1 rfl))) ?_
        refine .cons (.wanted 14 true rfl rfl rfl 0 rfl (ok_not (b := false) (.tmp 1 rfl))) ?_
        refine .cons (.plain rfl (ok_pickT (.tmp 0 rfl) (.tmp 1 rfl))) ?_
        refine .cons (.plain rfl (ok_move (.tmp 0 rfl))) ?_
        refine .cons (.wanted 18 true rfl rfl rfl 0 rfl (ok_move (.tmp 1 rfl))) ?_
        refine .cons (.wanted 18 true rfl rfl rfl 0 rfl (ok_cmp (b := true) (.tmp 1 rfl) (.lit) (by decide))) ?_
        refine .cons (.plain rfl (ok_pickT (.tmp 0 rfl) (.tmp 1 rfl))) ?_
        refine .cons (.plain rfl (ok_move (.tmp 0 rfl))) ?_
        refine .cons (.wanted 22 true rfl rfl rfl 0 rfl (ok_move (.tmp 1 rfl))) ?_
        refine .cons (.wanted 22 true rfl rfl rfl 0 rfl (ok_not (b := false) (.tmp 1 rfl))) ?_
        refine .cons (.plain rfl (ok_pickT (.tmp 0 rfl) (.tmp 1 rfl))) ?_
        refine .cons (.plain rfl (ok_move (.tmp 0 rfl))) ?_
        refine .cons (.wanted 26 true rfl rfl rfl 0 rfl (ok_move (.tmp 1 rfl))) ?_
        refine .cons (.wanted 26 true rfl rfl rfl 0 rfl (ok_cmp (b := true) (.tmp 1 rfl) (.lit) (by decide))) ?_
        refine .cons (.plain rfl (ok_pickT (.tmp 0 rfl) (.tmp 1 rfl))) ?_
        refine .cons (.plain rfl (ok_move (.tmp 0 rfl))) ?_
        refine .cons (.wanted 30 true rfl rfl rfl 0 rfl (ok_move (.tmp 1 rfl))) ?_
        refine .cons (.wanted 30 true rfl rfl rfl 0 rfl (ok_not (b := false) (.tmp 1 rfl))) ?_
        refine .cons (.plain rfl (ok_pickT (.tmp 0 rfl) (.tmp 1 rfl))) ?_
        refine .cons (.plain rfl (ok_move (.tmp 0 rfl))) ?_
        refine .cons (.wanted 34 true rfl rfl rfl 0 rfl (ok_callE (con_lives15) 1 rfl (.nil))) ?_
        refine .cons (.plain rfl (ok_pickT (.tmp 0 rfl) (.tmp 1 rfl))) ?_
        refine .cons (.plain rfl (ok_assign (.tmp 0 rfl))) ?_
        exact .nil
      clear H17 a17 w17 B17
      intro a18 w18 B18 H18
      refine ops_done ?_
      refine then_normal ?_
      refine wp_ret ?_
      exact f_ret H18 rfl 0 rfl (fun _ _ _ h => h)
    · have hk : (VT.d t).k = 3 ∨ (VT.d t).k = 4 := .inr h4
      refine flow_region (dsts := [some 17, some 18, some 19, some 20, some 21, some 22, some 23, some 24, some 25, some 26, some 27, some 28, some 29]) (refs := [[.pre 1], [.res 0], [.res 1], [.res 2], [.res 3, .pre 1], [.res 3, .res 4], [.res 3, .res 5], [.res 3, .res 6], [.res 7], [.res 8, .pre 1], [.res 8, .res 9, .pre 4], [.res 8, .res 10], [.res 8, .res 11]]) (outs := [.res 12, .pre 1, .pre 2, .pre 3, .pre 4]) (als := [false, false, false, false, false, false, false, false, false, false, false, false, false]) (posts := [.ptr 37 8 (IsVA t) 0, .val (Lit (.int .i8 ((VT.d t).k))), .val (IsB false), .val (IsB false), .ptr 37 8 (IsVA t) 0, .val (Lit (.int .i8 ((VT.d t).k))), .val (IsB true), .val (IsB true), .val (IsB true), .val (IsVA t), .val (IsErr true), .val (IsB true), .val (IsB true)])
        (out := [(29, .val (IsB true)), (2, .box 37 8 (IsVA t)), (4, .val (IsB false)), (1, .val (Lit (.int .u64 x))), (93, .val (EnvV))]) (nb := []) H2 13 [] rfl (by kernel_rfl) rfl rfl ?_ ?_
      · refine .cons (.plain rfl (ok_addrV0 (.tmp 0 rfl))) ?_
        refine .cons (.plain rfl (ok_loadVA0 (.tmp 0 rfl))) ?_
        refine .cons (.plain rfl (ok_cmp (b := false) (.tmp 0 rfl) (.lit) ((decide_eq_false (h3)).symm))) ?_
        refine .cons (.plain rfl (ok_move (.tmp 0 rfl))) ?_
        refine .cons (.wanted 3 false rfl rfl rfl 0 rfl (ok_addrV0 (.tmp 1 rfl))) ?_
        refine .cons (.wanted 3 false rfl rfl rfl 0 rfl (ok_loadVA0 (.tmp 1 rfl))) ?_
        refine .cons (.wanted 3 false rfl rfl rfl 0 rfl (ok_cmp (b := true) (.tmp 1 rfl) (.lit) ((decide_eq_true (h4)).symm))) ?_
        refine .cons (.plain rfl (ok_pickF (.tmp 0 rfl) (.tmp 1 rfl))) ?_
        refine .cons (.plain rfl (ok_move (.tmp 0 rfl))) ?_
        refine .cons (.wanted 8 true rfl rfl rfl 0 rfl (ok_load tyV (.tmp 1 rfl))) ?_
        refine .cons (.wanted 8 true rfl rfl rfl 0 rfl (ok_callE (con_checkgood t hk okt.b hgood hW) 2 rfl (.cons (.tmp 1 rfl) (.nil)))) ?_
        refine .cons (.wanted 8 true rfl rfl rfl 0 rfl (ok_eqErr (b := true) (.tmp 1 rfl))) ?_
        refine .cons (.plain rfl (ok_pickT (.tmp 0 rfl) (.tmp 1 rfl))) ?_
        exact .nil
      clear H2 a2 w2 B2
      intro a19 w19 B19 H19
      refine ops_done ?_
      refine then_normal ?_
      refine f_condT H19 (.tmp 0 rfl) ?_
      refine wp_seq ?_
      refine flow_region (dsts := [some 30, some 4]) (refs := [[.pre 4], [.res 0]]) (outs := [.res 1, .pre 1, .pre 3, .pre 4]) (als := [false, false]) (posts := [.val (IsB true), .val (IsB true)])
        (out := [(4, .val (IsB true)), (2, .box 37 8 (IsVA t)), (1, .val (Lit (.int .u64 x))), (93, .val (EnvV))]) (nb := []) H19 2 [] rfl (by kernel_rfl) rfl rfl ?_ ?_
      · refine .cons (.plain rfl (ok_callE (con_lives15) 0 rfl (.nil))) ?_
        refine .cons (.plain rfl (ok_assign (.tmp 0 rfl))) ?_
        exact .nil
      clear H19 a19 w19 B19
      intro a20 w20 B20 H20
      refine ops_done ?_
      refine then_normal ?_
      refine wp_ret ?_
      refine then_ret ?_
      exact f_ret H20 rfl 0 rfl (fun _ _ _ h => h)
    · have hk : (VT.d t).k = 3 ∨ (VT.d t).k = 4 := .inr h4
      have hno : NoNum t := .inr ⟨hk, hbad⟩
      refine flow_region (dsts := [some 17, some 18, some 19, some 20, some 21, some 22, some 23, some 24, some 25, some 26, some 27, some 28, some 29]) (refs := [[.pre 1], [.res 0], [.res 1], [.res 2], [.res 3, .pre 1], [.res 3, .res 4], [.res 3, .res 5], [.res 3, .res 6], [.res 7], [.res 8, .pre 1], [.res 8, .res 9, .pre 4], [.res 8, .res 10], [.res 8, .res 11]]) (outs := [.res 12, .pre 1, .pre 2, .pre 3, .pre 4]) (als := [false, false, false, false, false, false, false, false, false, false, false, false, false]) (posts := [.ptr 37 8 (IsVA t) 0, .val (Lit (.int .i8 ((VT.d t).k))), .val (IsB false), .val (IsB false), .ptr 37 8 (IsVA t) 0, .val (Lit (.int .i8 ((VT.d t).k))), .val (IsB true), .val (IsB true), .val (IsB true), .val (IsVA t), .val (IsErr false), .val (IsB false), .val (IsB false)])
        (out := [(29, .val (IsB false)), (2, .box 37 8 (IsVA t)), (4, .val (IsB false)), (1, .val (Lit (.int .u64 x))), (93, .val (EnvV))]) (nb := []) H2 13 [] rfl (by kernel_rfl) rfl rfl ?_ ?_
      · refine .cons (.plain rfl (ok_addrV0 (.tmp 0 rfl))) ?_
        refine .cons (.plain rfl (ok_loadVA0 (.tmp 0 rfl))) ?_
        refine .cons (.plain rfl (ok_cmp (b := false) (.tmp 0 rfl) (.lit) ((decide_eq_false (h3)).symm))) ?_
        refine .cons (.plain rfl (ok_move (.tmp 0 rfl))) ?_
        refine .cons (.wanted 3 false rfl rfl rfl 0 rfl (ok_addrV0 (.tmp 1 rfl))) ?_
        refine .cons (.wanted 3 false rfl rfl rfl 0 rfl (ok_loadVA0 (.tmp 1 rfl))) ?_
        refine .cons (.wanted 3 false rfl rfl rfl 0 rfl (ok_cmp (b := true) (.tmp 1 rfl) (.lit) ((decide_eq_true (h4)).symm))) ?_
        refine .cons (.plain rfl (ok_pickF (.tmp 0 rfl) (.tmp 1 rfl))) ?_
        refine .cons (.plain rfl (ok_move (.tmp 0 rfl))) ?_
        refine .cons (.wanted 8 true rfl rfl rfl 0 rfl (ok_load tyV (.tmp 1 rfl))) ?_
        refine .cons (.wanted 8 true rfl rfl rfl 0 rfl (ok_callE (con_checkbad t hk okt.b hbad) 2 rfl (.cons (.tmp 1 rfl) (.nil)))) ?_
        refine .cons (.wanted 8 true rfl rfl rfl 0 rfl (ok_eqErr (b := false) (.tmp 1 rfl))) ?_
        refine .cons (.plain rfl (ok_pickT (.tmp 0 rfl) (.tmp 1 rfl))) ?_
        exact .nil
      clear H2 a2 w2 B2
      intro a21 w21 B21 H21
      refine ops_done ?_
      refine then_normal ?_
      refine f_condF H21 (.tmp 0 rfl) ?_
      refine wp_skip ?_
      refine then_normal ?_
      refine wp_seq ?_
      refine flow_region (dsts := [some 32, some 33, some 31, some 34, some 35, some 5, some 6]) (refs := [[.pre 1], [.res 0, .pre 4], [.res 1], [.res 2], [.res 2], [.res 3], [.res 4]]) (outs := [.res 5, .res 6, .pre 1, .pre 2, .pre 3, .pre 4]) (als := [false, false, false, false, false, false, false]) (posts := [.val (IsVA t), .val (Tup [Lit (.int .u64 0), IsB false]), .val (Tup [Lit (.int .u64 0), IsB false]), .val (Lit (.int .u64 0)), .val (IsB false), .val (Lit (.int .u64 0)), .val (IsB false)])
        (out := [(5, .val (Lit (.int .u64 0))), (6, .val (IsB false)), (2, .box 37 8 (IsVA t)), (4, .val (IsB false)), (1, .val (Lit (.int .u64 x))), (93, .val (EnvV))]) (nb := []) H21 7 [] rfl (by kernel_rfl) rfl rfl ?_ ?_
      · refine .cons (.plain rfl (ok_load tyV (.tmp 0 rfl))) ?_
        refine .cons (.plain rfl (ok_callE (con_nbitsN t okt.b hno) 1 rfl (.cons (.tmp 0 rfl) (.nil)))) ?_
        refine .cons (.plain rfl (ok_move (.tmp 0 rfl))) ?_
        refine .cons (.plain rfl (ok_extract 0 (.tmp 0 rfl) rfl)) ?_
        refine .cons (.plain rfl (ok_extract 1 (.tmp 0 rfl) rfl)) ?_
        refine .cons (.plain rfl (ok_assign (.tmp 0 rfl))) ?_
        refine .cons (.plain rfl (ok_assign (.tmp 0 rfl))) ?_
        exact .nil
      clear H21 a21 w21 B21
      intro a22 w22 B22 H22
      refine ops_done ?_
      refine then_normal ?_
      refine wp_seq ?_
      refine flow_region (dsts := [some 37, some 38, some 36, some 39, some 40, some 41, some 7, some 8, some 9]) (refs := [[.pre 2], [.res 0, .pre 5], [.res 1], [.res 2], [.res 2], [.res 2], [.res 3], [.res 4], [.res 5]]) (outs := [.res 6, .res 7, .res 8, .pre 0, .pre 1, .pre 2, .pre 3, .pre 4, .pre 5]) (als := [false, false, false, false, false, false, false, false, false]) (posts := [.val (IsVA t), .val (Tup [Lit (.int .i64 0), Lit (.int .u64 0), IsB false]), .val (Tup [Lit (.int .i64 0), Lit (.int .u64 0), IsB false]), .val (Lit (.int .i64 0)), .val (Lit (.int .u64 0)), .val (IsB false), .val (Lit (.int .i64 0)), .val (Lit (.int .u64 0)), .val (IsB false)])
        (out := [(7, .val (Lit (.int .i64 0))), (8, .val (Lit (.int .u64 0))), (9, .val (IsB false)), (5, .val (Lit (.int .u64 0))), (6, .val (IsB false)), (2, .box 37 8 (IsVA t)), (4, .val (IsB false)), (1, .val (Lit (.int .u64 x))), (93, .val (EnvV))]) (nb := []) H22 9 [] rfl (by kernel_rfl) rfl rfl ?_ ?_
      · refine .cons (.plain rfl (ok_load tyV (.tmp 0 rfl))) ?_
        refine .cons (.plain rfl (ok_callE (con_narrowN t okt.b hno) 1 rfl (.cons (.tmp 0 rfl) (.nil)))) ?_
        refine .cons (.plain rfl (ok_move (.tmp 0 rfl))) ?_
        refine .cons (.plain rfl (ok_extract 0 (.tmp 0 rfl) rfl)) ?_
        refine .cons (.plain rfl (ok_extract 1 (.tmp 0 rfl) rfl)) ?_
        refine .cons (.plain rfl (ok_extract 2 (.tmp 0 rfl) rfl)) ?_
        refine .cons (.plain rfl (ok_assign (.tmp 0 rfl))) ?_
        refine .cons (.plain rfl (ok_assign (.tmp 0 rfl))) ?_
        refine .cons (.plain rfl (ok_assign (.tmp 0 rfl))) ?_
        exact .nil
      clear H22 a22 w22 B22
      intro a23 w23 B23 H23
      refine ops_done ?_
      refine then_normal ?_
      refine wp_seq ?_
      refine flow_drawT (dsts := [some 43, some 44, some 45, some 46, some 42, some 47, some 48, some 10, some 11]) (refs := [[.pre 5], [.pre 7], [.res 1, .pre 8], [.res 0, .res 2, .pre 8], [.res 3], [.res 4], [.res 4], [.res 5], [.res 6]]) (outs := [.res 7, .res 8, .pre 0, .pre 1, .pre 2, .pre 3, .pre 4, .pre 5, .pre 6, .pre 7, .pre 8]) (als := [false, false, false, false, false, false, false, false, false]) (posts := [.val (IsVA t), .val (Lit (.int .u64 x)), .val (IsNum (ofV 64 x)), .val (Tup [Lit (.int .i64 0), IsB false]), .val (Tup [Lit (.int .i64 0), IsB false]), .val (Lit (.int .i64 0)), .val (IsB false), .val (Lit (.int .i64 0)), .val (IsB false)])
        (out := [(10, .val (Lit (.int .i64 0))), (11, .val (IsB false)), (7, .val (Lit (.int .i64 0))), (8, .val (Lit (.int .u64 0))), (9, .val (IsB false)), (5, .val (Lit (.int .u64 0))), (6, .val (IsB false)), (2, .box 37 8 (IsVA t)), (4, .val (IsB false)), (1, .val (Lit (.int .u64 x))), (93, .val (EnvV))]) (nb := []) H23 (by kernel_rfl) 9 0 #[true, true, true, true, true, true, true, true, true] (by kernel_rfl) (by kernel_rfl) rfl rfl ?_ ?_
      · refine .cons (.plain rfl (ok_load tyV (.tmp 0 rfl))) ?_
        refine .cons (.plain rfl (ok_move (.tmp 0 rfl))) ?_
        refine .cons (.plain rfl (ok_callE (con_of64 x hx) 1 rfl (.cons (.tmp 0 rfl) (.nil)))) ?_
        refine .cons (.plain rfl (ok_callE (con_ncmpNL t okt.b hno (ofV 64 x) (ok_of w64 x (hx64v hx))) 2 rfl (.cons (.tmp 0 rfl) (.cons (.tmp 1 rfl) (.nil))))) ?_
        refine .cons (.plain rfl (ok_move (.tmp 0 rfl))) ?_
        refine .cons (.plain rfl (ok_extract 0 (.tmp 0 rfl) rfl)) ?_
        refine .cons (.plain rfl (ok_extract 1 (.tmp 0 rfl) rfl)) ?_
        refine .cons (.plain rfl (ok_assign (.tmp 0 rfl))) ?_
        refine .cons (.plain rfl (ok_assign (.tmp 0 rfl))) ?_
        exact .nil
      clear H23 a23 w23 B23
      intro a24 w24 B24 H24
      refine any_done (by kernel_rfl) ?_
      refine then_normal ?_
      refine wp_seq ?_
      refine flow_drawT (dsts := [some 50, some 51, some 52, some 53, some 49, some 54, some 55, some 12, some 13]) (refs := [[.pre 9], [.res 0, .pre 10], [.pre 7], [.res 1, .res 2, .pre 10], [.res 3], [.res 4], [.res 4], [.res 5], [.res 6]]) (outs := [.res 7, .res 8, .pre 0, .pre 1, .pre 2, .pre 3, .pre 4, .pre 5, .pre 6, .pre 8, .pre 10]) (als := [false, false, false, false, false, false, false, false, false]) (posts := [.val (Lit (.int .u64 x)), .val (IsNum (ofV 64 x)), .val (IsVA t), .val (Tup [Lit (.int .i64 0), IsB false]), .val (Tup [Lit (.int .i64 0), IsB false]), .val (Lit (.int .i64 0)), .val (IsB false), .val (Lit (.int .i64 0)), .val (IsB false)])
        (out := [(12, .val (Lit (.int .i64 0))), (13, .val (IsB false)), (10, .val (Lit (.int .i64 0))), (11, .val (IsB false)), (7, .val (Lit (.int .i64 0))), (8, .val (Lit (.int .u64 0))), (9, .val (IsB false)), (5, .val (Lit (.int .u64 0))), (6, .val (IsB false)), (4, .val (IsB false)), (93, .val (EnvV))]) (nb := []) H24 (by kernel_rfl) 9 0 #[true, true, true, true, true, true, true, true, true] (by kernel_rfl) (by kernel_rfl) rfl rfl ?_ ?_
      · refine .cons (.plain rfl (ok_move (.tmp 0 rfl))) ?_
        refine .cons (.plain rfl (ok_callE (con_of64 x hx) 1 rfl (.cons (.tmp 0 rfl) (.nil)))) ?_
        refine .cons (.plain rfl (ok_load tyV (.tmp 0 rfl))) ?_
        refine .cons (.plain rfl (ok_callE (con_ncmpNR t okt.b hno (ofV 64 x) (ok_of w64 x (hx64v hx)) (whatV_some _)) 2 rfl (.cons (.tmp 0 rfl) (.cons (.tmp 1 rfl) (.nil))))) ?_
        refine .cons (.plain rfl (ok_move (.tmp 0 rfl))) ?_
        refine .cons (.plain rfl (ok_extract 0 (.tmp 0 rfl) rfl)) ?_
        refine .cons (.plain rfl (ok_extract 1 (.tmp 0 rfl) rfl)) ?_
        refine .cons (.plain rfl (ok_assign (.tmp 0 rfl))) ?_
        refine .cons (.plain rfl (ok_assign (.tmp 0 rfl))) ?_
        exact .nil
      clear H24 a24 w24 B24
      intro a25 w25 B25 H25
      refine any_done (by kernel_rfl) ?_
      refine then_normal ?_
      refine wp_seq ?_
      refine flow_region (dsts := [some 56, some 57, some 58, some 59, some 60, some 61, some 62, some 63, some 64, some 65, some 66, some 67, some 68, some 69, some 70, some 71, some 72, some 73, some 74, some 75, some 76, some 77, some 78, some 79, some 80, some 81, some 82, some 83, some 84, some 85, some 86, some 87, some 88, some 89, some 90, some 91, some 92, some 4]) (refs := [[.pre 7], [.res 0], [.res 1], [.res 2, .pre 8], [.res 2, .res 3], [.res 2, .res 4], [.res 5], [.res 6, .pre 4], [.res 6, .res 7], [.res 6, .res 8], [.res 9], [.res 10, .pre 5], [.res 10, .res 11], [.res 10, .res 12], [.res 13], [.res 14, .pre 6], [.res 14, .res 15], [.res 14, .res 16], [.res 17], [.res 18, .pre 2], [.res 18, .res 19], [.res 18, .res 20], [.res 21], [.res 22, .pre 3], [.res 22, .res 23], [.res 22, .res 24], [.res 25], [.res 26, .pre 0], [.res 26, .res 27], [.res 26, .res 28], [.res 29], [.res 30, .pre 1], [.res 30, .res 31], [.res 30, .res 32], [.res 33], [.res 34, .pre 10], [.res 34, .res 35], [.res 36]]) (outs := [.res 37, .pre 10]) (als := [false, false, false, false, false, false, false, false, false, false, false, false, false, false, false, false, false, false, false, false, false, false, false, false, false, false, false, false, false, false, false, false, false, false, false, false, false, false]) (posts := [.val (Lit (.int .u64 0)), .val (IsB true), .val (IsB true), .val (IsB false), .val (IsB true), .val (IsB true), .val (IsB true), .val (Lit (.int .i64 0)), .val (IsB true), .val (IsB true), .val (IsB true), .val (Lit (.int .u64 0)), .val (IsB true), .val (IsB true), .val (IsB true), .val (IsB false), .val (IsB true), .val (IsB true), .val (IsB true), .val (Lit (.int .i64 0)), .val (IsB true), .val (IsB true), .val (IsB true), .val (IsB false), .val (IsB true), .val (IsB true), .val (IsB true), .val (Lit (.int .i64 0)), .val (IsB true), .val (IsB true), .val (IsB true), .val (IsB false), .val (IsB true), .val (IsB true), .val (IsB true), .val (IsB true), .val (IsB true), .val (IsB true)])
        (out := [(4, .val (IsB true)), (93, .val (EnvV))]) (nb := []) H25 38 [] rfl (by kernel_rfl) rfl rfl ?_ ?_
      · refine .cons (.plain rfl (ok_move (.tmp 0 rfl))) ?_
        refine .cons (.plain rfl (ok_cmp (b := true) (.tmp 0 rfl) (.lit) (by decide))) ?_
        refine .cons (.plain rfl (ok_move (.tmp 0 rfl))) ?_
        refine .cons (.wanted 2 true rfl rfl rfl 0 rfl (ok_move (.tmp 1 rfl))) ?_
        refine .cons (.wanted 2 true rfl rfl rfl 0 rfl (ok_not (b := false) (.tmp 1 rfl))) ?_
        refine .cons (.plain rfl (ok_pickT (.tmp 0 rfl) (.tmp 1 rfl))) ?_
        refine .cons (.plain rfl (ok_move (.tmp 0 rfl))) ?_
        refine .cons (.wanted 6 true rfl rfl rfl 0 rfl (ok_move (.tmp 1 rfl))) ?_
        refine .cons (.wanted 6 true rfl rfl rfl 0 rfl (ok_cmp (b := true) (.tmp 1 rfl) (.lit) (by decide))) ?_
        refine .cons (.plain rfl (ok_pickT (.tmp 0 rfl) (.tmp 1 rfl))) ?_
        refine .cons (.plain rfl (ok_move (.tmp 0 rfl))) ?_
        refine .cons (.wanted 10 true rfl rfl rfl 0 rfl (ok_move (.tmp 1 rfl))) ?_
        refine .cons (.wanted 10 true rfl rfl rfl 0 rfl (ok_cmp (b := true) (.tmp 1 rfl) (.lit) (by decide))) ?_
        refine .cons (.plain rfl (ok_pickT (.tmp 0 rfl) (.tmp 1 rfl))) ?_
        refine .cons (.plain rfl (ok_move (.tmp 0 rfl))) ?_
        refine .cons (.wanted 14 true rfl rfl rfl 0 rfl (ok_move (.tmp 1 rfl))) ?_
        refine .cons (.wanted 14 true rfl rfl rfl 0 rfl (ok_not (b := false) (.tmp 1 rfl))) ?_
        refine .cons (.plain rfl (ok_pickT (.tmp 0 rfl) (.tmp 1 rfl))) ?_
        refine .cons (.plain rfl (ok_move (.tmp 0 rfl))) ?_
        refine .cons (.wanted 18 true rfl rfl rfl 0 rfl (ok_move (.tmp 1 rfl))) ?_
        refine .cons (.wanted 18 true rfl rfl rfl 0 rfl (ok_cmp (b := true) (.tmp 1 rfl) (.lit) (by decide))) ?_
        refine .cons (.plain rfl (ok_pickT (.tmp 0 rfl) (.tmp 1 rfl))) ?_
        refine .cons (.plain rfl (ok_move (.tmp 0 rfl))) ?_
        refine .cons (.wanted 22 true rfl rfl rfl 0 rfl (ok_move (.tmp 1 rfl))) ?_
        refine .cons (.wanted 22 true rfl rfl rfl 0 rfl (ok_not (b := false) (.tmp 1 rfl))) ?_
        refine .cons (.plain rfl (ok_pickT (.tmp 0 rfl) (.tmp 1 rfl))) ?_
        refine .cons (.plain rfl (ok_move (.tmp 0 rfl))) ?_
        refine .cons (.wanted 26 true rfl rfl rfl 0 rfl (ok_move (.tmp 1 rfl))) ?_
        refine .cons (.wanted 26 true rfl rfl rfl 0 rfl (ok_cmp (b := true) (.tmp 1 rfl) (.lit) (by decide))) ?_
        refine .cons (.plain rfl (ok_pickT (.tmp 0 rfl) (.tmp 1 rfl))) ?_
        refine .cons (.plain rfl (ok_move (.tmp 0 rfl))) ?_
        refine .cons (.wanted 30 true rfl rfl rfl 0 rfl (ok_move (.tmp 1 rfl))) ?_
        refine .cons (.wanted 30 true rfl rfl rfl 0 rfl (ok_not (b := false) (.tmp 1 rfl))) ?_
        refine .cons (.plain rfl (ok_pickT (.tmp 0 rfl) (.tmp 1 rfl))) ?_
        refine .cons (.plain rfl (ok_move (.tmp 0 rfl))) ?_
        refine .cons (.wanted 34 true rfl rfl rfl 0 rfl (ok_callE (con_lives15) 1 rfl (.nil))) ?_
        refine .cons (.plain rfl (ok_pickT (.tmp 0 rfl) (.tmp 1 rfl))) ?_
        refine .cons (.plain rfl (ok_assign (.tmp 0 rfl))) ?_
        exact .nil
      clear H25 a25 w25 B25
      intro a26 w26 B26 H26
      refine ops_done ?_
      refine then_normal ?_
      refine wp_ret ?_
      exact f_ret H26 rfl 0 rfl (fun _ _ _ h => h)
theorem walk_NumberNone (w : World) (hS : Shapes w) (hT : Tab w) (hA : ErrAP w (fun _ => False)) (t : VT) (vt : Value) (ft : RdV w.heap.size w (fun _ => False) t vt) (okt : VOk (VT.d t)) (x : Int) (hx : 0 ≤ x ∧ x < 18446744073709551616) :
    Calls Tryz.prog 7 #[vt, .int .u64 x] w (fun e w' => e = .returned (.bool true) ∧ Below w.heap.size w w') := by
  refine ((con_NumberNone t okt x hx).calls [vt, .int .u64 x] w (fun _ => False) (fun _ h => h.elim) ⟨hS, hT, fun h => h⟩ ⟨⟨ft, hA⟩, rfl, trivial⟩).mono ?_
  rintro e w' ⟨v, rfl, h, hb⟩
  obtain rfl := h
  exact ⟨rfl, hb⟩
end Go.Proofs.YtoimhjcpeifegaaGreatDoor
