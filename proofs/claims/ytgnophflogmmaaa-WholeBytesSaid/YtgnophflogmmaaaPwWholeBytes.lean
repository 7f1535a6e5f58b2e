/- The law WholeBytes: its walk. -/
import Derived.Test.YtgnophflogmmaaaPk23
import Derived.Test.YtgnophflogmmaaaPk41
set_option linter.unusedVariables false
set_option linter.unusedSimpArgs false
/- The law WholeBytes: its walk by what the slots hold. (Printed by flow03.py.) -/
namespace Go.Proofs.Ytgnophflogmmaaa
open Go Go.RowKit


set_option maxRecDepth 20000 in
set_option maxHeartbeats 4000000 in
theorem con_WholeBytes (ngx : Bool) (nx : Nat) (xx : List Int) (yx : nx * 4 ≤ 140737488351232) (p : Int) (hp : 0 ≤ p ∧ p < 256) (s : ByteArray) (hs : s.size ≤ 140737488351232) (c : Int) (hc : 0 ≤ c ∧ c < 256) : Con Try.prog 11 [IsBytes ngx nx xx p s c] (IsB true) := by
  refine f_enter (N := 130) Try.ntmps11 (fun _ _ => by go_simp) Try.func11 rfl (by simp) ?_
  intro a0 w0 B0 H0
  replace H0 : St 130 w0 B0 a0 w0 B0 [(0, .val (IsBytes ngx nx xx p s c))] [] := H0
  obtain ⟨X, hX⟩ : ∃ X, sI ngx (val 4294967296 xx) = X := ⟨_, rfl⟩
  have fX := PBytes.fits hX (H0.fc.get 0 rfl)
  refine wp_seq ?_
  refine flow_region (dsts := [some 1, some 2]) (refs := [[.pre 0], []]) (outs := [.res 0, .res 1]) (als := [true, false]) (posts := [.box 54 5 (IsBytes ngx nx xx p s c), .val (IsB false)])
    (out := [(1, .box 54 5 (IsBytes ngx nx xx p s c)), (2, .val (IsB false))]) (nb := [1]) H0 2 [] rfl (by kernel_rfl) rfl rfl ?_ ?_
  · refine .cons (.plain rfl (ok_box (.tmp 0 rfl) two_Bytes)) ?_
    refine .cons (.plain rfl (ok_assign (.lit))) ?_
    exact .nil
  clear H0
  intro a1 w1 B1 H1
  simp only [List.cons_append, List.nil_append] at H1
  refine ops_done ?_
  refine then_normal ?_
  refine wp_seq ?_
  refine flow_stores (dsts := [some 17, some 18, some 19, some 20, some 21, some 22, some 23, some 24, some 3, none, some 4, some 5, some 6]) (refs := [[.pre 0], [.res 0], [.pre 0], [.res 2], [.pre 0], [.res 4], [.pre 0], [.res 6], [], [.res 8, .res 1], [.res 3], [.res 5], [.res 7]]) (outs := [.res 8, .res 10, .res 11, .res 12, .pre 1]) (als := [false, false, false, false, false, false, false, false, true, false, false, false, false]) (posts := [.ptr 54 5 (IsBytes ngx nx xx p s c) 0, .val (IsArg ngx nx xx), .ptr 54 5 (IsBytes ngx nx xx p s c) 2, .val (Lit (.int .u8 p)), .ptr 54 5 (IsBytes ngx nx xx p s c) 3, .val (Lit (.string s)), .ptr 54 5 (IsBytes ngx nx xx p s c) 4, .val (Lit (.int .u8 c)), .box 25 2 (Zero2), .val (VP.top), .val (Lit (.int .u8 p)), .val (Lit (.string s)), .val (Lit (.int .u8 c))]) (posts2 := [none, none, none, none, none, none, none, none, some (9, .box 25 2 (IsArg ngx nx xx)), none, none, none, none])
    (out := [(3, .box 25 2 (IsArg ngx nx xx)), (4, .val (Lit (.int .u8 p))), (5, .val (Lit (.string s))), (6, .val (Lit (.int .u8 c))), (2, .val (IsB false))]) (nb := [3]) H1 (by kernel_rfl) (by kernel_rfl) (by kernel_rfl) rfl rfl ?_ ?_
  · refine .norm rfl (.plain rfl (ok_addrB_0 (.tmp 0 rfl))) ?_
    refine .norm rfl (.plain rfl (ok_loadB_0 (.tmp 0 rfl))) ?_
    refine .norm rfl (.plain rfl (ok_addrB_1 (.tmp 0 rfl))) ?_
    refine .norm rfl (.plain rfl (ok_loadB_1 (.tmp 0 rfl))) ?_
    refine .norm rfl (.plain rfl (ok_addrB_2 (.tmp 0 rfl))) ?_
    refine .norm rfl (.plain rfl (ok_loadB_2 (.tmp 0 rfl))) ?_
    refine .norm rfl (.plain rfl (ok_addrB_3 (.tmp 0 rfl))) ?_
    refine .norm rfl (.plain rfl (ok_loadB_3 (.tmp 0 rfl))) ?_
    refine .norm rfl (.plain rfl (ok_alloc (D := Zero2) zeroI rfl (fun _ _ => rfl))) ?_
    refine .stor 8 rfl rfl rfl rfl (.tmp 1 rfl) tyI shape_Z shape_Arg rfl ?_
    refine .norm rfl (.plain rfl (ok_assign (.tmp 0 rfl))) ?_
    refine .norm rfl (.plain rfl (ok_assign (.tmp 0 rfl))) ?_
    refine .norm rfl (.plain rfl (ok_assign (.tmp 0 rfl))) ?_
    exact .nil
  clear H1 a1 w1 B1
  intro a2 w2 B2 H2
  simp only [List.cons_append, List.nil_append] at H2
  refine then_normal ?_
  refine wp_seq ?_
  refine wp_seq ?_
  refine flow_region (dsts := [some 25, some 26, some 27]) (refs := [[.pre 0], [.res 0], [.res 1]]) (outs := [.res 2, .pre 0, .pre 1, .pre 2, .pre 3, .pre 4]) (als := [false, false, false]) (posts := [.val (IsArg ngx nx xx), .val (IsInts [nx]), .val (IsIf True (∀ j : Nat, [nx][j]?.getD 0 ≤ 1048576))])
    (out := [(27, .val (IsIf True (∀ j : Nat, [nx][j]?.getD 0 ≤ 1048576))), (3, .box 25 2 (IsArg ngx nx xx)), (4, .val (Lit (.int .u8 p))), (5, .val (Lit (.string s))), (6, .val (Lit (.int .u8 c))), (2, .val (IsB false))]) (nb := []) H2 3 [] rfl (by kernel_rfl) rfl rfl ?_ ?_
  · refine .cons (.plain rfl (ok_load tyI (.tmp 0 rfl))) ?_
    refine .cons (.plain rfl (ok_ints1 (.tmp 0 rfl))) ?_
    refine .cons (.plain rfl (ok_call (con_beyond [nx] (by simp) (fun j => by rcases j with _ | _ <;> simp <;> omega)) (.cons (.tmp 0 rfl) (.nil)))) ?_
    exact .nil
  clear H2 a2 w2 B2
  intro a3 w3 B3 H3
  refine ops_done ?_
  refine then_normal ?_
  refine f_condI H3 (.tmp 0 rfl) ?_ ?_
  · intro hc4
    refine wp_seq ?_
    refine flow_region (dsts := [some 2]) (refs := [[]]) (outs := [.res 0, .pre 1, .pre 2, .pre 3, .pre 4]) (als := [false]) (posts := [.val (IsB true)])
      (out := [(2, .val (IsB true)), (3, .box 25 2 (IsArg ngx nx xx)), (4, .val (Lit (.int .u8 p))), (5, .val (Lit (.string s))), (6, .val (Lit (.int .u8 c)))]) (nb := []) H3 1 [] rfl (by kernel_rfl) rfl rfl ?_ ?_
    · refine .cons (.plain rfl (ok_assign (.lit))) ?_
      exact .nil
    clear H3 a3 w3 B3
    intro a5 w5 B5 H5
    refine ops_done ?_
    refine then_normal ?_
    refine wp_ret ?_
    refine then_ret ?_
    exact f_ret H5 rfl 0 rfl (fun _ _ _ h => h)
  · intro hc4
    have lx : nx ≤ 1048576 := hc4 0
    clear hc4
    refine wp_skip ?_
    refine then_normal ?_
    refine wp_seq ?_
    refine flow_region (dsts := [some 28, some 29, some 30, some 7]) (refs := [[.pre 2], [.res 0], [.res 1], [.res 2]]) (outs := [.res 3, .pre 1, .pre 3, .pre 4, .pre 5]) (als := [false, false, false, false]) (posts := [.val (Lit (.int .u8 p)), .val (Lit (.int .i64 p)), .val (Lit (.int .i64 (1 + p))), .val (Lit (.int .i64 (1 + p)))])
      (out := [(7, .val (Lit (.int .i64 (1 + p)))), (3, .box 25 2 (IsArg ngx nx xx)), (5, .val (Lit (.string s))), (6, .val (Lit (.int .u8 c))), (2, .val (IsB false))]) (nb := []) H3 4 [] rfl (by kernel_rfl) rfl rfl ?_ ?_
    · refine .cons (.plain rfl (ok_move (.tmp 0 rfl))) ?_
      refine .cons (.plain rfl (ok_conv Try.underlying5 Try.underlying3 (r := p) (.tmp 0 rfl) (w_i64 (by omega)))) ?_
      refine .cons (.plain rfl (ok_add (r := (1 + p)) (.lit) (.tmp 0 rfl) (w_i64 (by omega)))) ?_
      refine .cons (.plain rfl (ok_assign (.tmp 0 rfl))) ?_
      exact .nil
    clear H3 a3 w3 B3
    intro a6 w6 B6 H6
    refine ops_done ?_
    refine then_normal ?_
    refine wp_seq ?_
    refine flow_region (dsts := [some 32, some 33, some 34, some 31, some 35, some 36, some 8, some 9]) (refs := [[.pre 1], [.pre 0], [.res 0, .res 1], [.res 2], [.res 3], [.res 3], [.res 4], [.res 5]]) (outs := [.res 6, .res 7, .pre 0, .pre 1, .pre 2, .pre 3, .pre 4]) (als := [false, false, false, false, false, false, false, false]) (posts := [.val (IsArg ngx nx xx), .val (Lit (.int .i64 (1 + p))), .val (Tup [Lit (.string (strB (twosL X (1 + p)))), IsB (twosOk X (1 + p))]), .val (Tup [Lit (.string (strB (twosL X (1 + p)))), IsB (twosOk X (1 + p))]), .val (Lit (.string (strB (twosL X (1 + p))))), .val (IsB (twosOk X (1 + p))), .val (Lit (.string (strB (twosL X (1 + p))))), .val (IsB (twosOk X (1 + p)))])
      (out := [(8, .val (Lit (.string (strB (twosL X (1 + p)))))), (9, .val (IsB (twosOk X (1 + p)))), (7, .val (Lit (.int .i64 (1 + p)))), (3, .box 25 2 (IsArg ngx nx xx)), (5, .val (Lit (.string s))), (6, .val (Lit (.int .u8 c))), (2, .val (IsB false))]) (nb := []) H6 8 [] rfl (by kernel_rfl) rfl rfl ?_ ?_
    · refine .cons (.plain rfl (ok_load tyI (.tmp 0 rfl))) ?_
      refine .cons (.plain rfl (ok_move (.tmp 0 rfl))) ?_
      refine .cons (.plain rfl (ok_call (con_twos X (1 + p)) (.cons (.weak (.tmp 0 rfl) (weakAN (by omega) hX)) (.cons (.tmp 1 rfl) (.nil))))) ?_
      refine .cons (.plain rfl (ok_move (.tmp 0 rfl))) ?_
      refine .cons (.plain rfl (ok_extract 0 (.tmp 0 rfl) rfl)) ?_
      refine .cons (.plain rfl (ok_extract 1 (.tmp 0 rfl) rfl)) ?_
      refine .cons (.plain rfl (ok_assign (.tmp 0 rfl))) ?_
      refine .cons (.plain rfl (ok_assign (.tmp 0 rfl))) ?_
      exact .nil
    clear H6 a6 w6 B6
    intro a7 w7 B7 H7
    refine ops_done ?_
    refine then_normal ?_
    refine wp_seq ?_
    refine flow_region (dsts := [some 38, some 39, some 40, some 41, some 37, some 42, some 43, some 10, some 11]) (refs := [[.pre 3], [.pre 2], [.res 1], [.res 0, .res 2], [.res 3], [.res 4], [.res 4], [.res 5], [.res 6]]) (outs := [.res 7, .res 8, .pre 0, .pre 1, .pre 2, .pre 3, .pre 4, .pre 5, .pre 6]) (als := [false, false, false, false, false, false, false, false, false]) (posts := [.val (IsArg ngx nx xx), .val (Lit (.int .i64 (1 + p))), .val (Lit (.int .i64 ((1 + p) + 1))), .val (Tup [Lit (.string (strB (twosL X ((1 + p) + 1)))), IsB (twosOk X ((1 + p) + 1))]), .val (Tup [Lit (.string (strB (twosL X ((1 + p) + 1)))), IsB (twosOk X ((1 + p) + 1))]), .val (Lit (.string (strB (twosL X ((1 + p) + 1))))), .val (IsB (twosOk X ((1 + p) + 1))), .val (Lit (.string (strB (twosL X ((1 + p) + 1))))), .val (IsB (twosOk X ((1 + p) + 1)))])
      (out := [(10, .val (Lit (.string (strB (twosL X ((1 + p) + 1)))))), (11, .val (IsB (twosOk X ((1 + p) + 1)))), (8, .val (Lit (.string (strB (twosL X (1 + p)))))), (9, .val (IsB (twosOk X (1 + p)))), (7, .val (Lit (.int .i64 (1 + p)))), (3, .box 25 2 (IsArg ngx nx xx)), (5, .val (Lit (.string s))), (6, .val (Lit (.int .u8 c))), (2, .val (IsB false))]) (nb := []) H7 9 [] rfl (by kernel_rfl) rfl rfl ?_ ?_
    · refine .cons (.plain rfl (ok_load tyI (.tmp 0 rfl))) ?_
      refine .cons (.plain rfl (ok_move (.tmp 0 rfl))) ?_
      refine .cons (.plain rfl (ok_add (r := ((1 + p) + 1)) (.tmp 0 rfl) (.lit) (w_i64 (by omega)))) ?_
      refine .cons (.plain rfl (ok_call (con_twos X ((1 + p) + 1)) (.cons (.weak (.tmp 0 rfl) (weakAN (by omega) hX)) (.cons (.tmp 1 rfl) (.nil))))) ?_
      refine .cons (.plain rfl (ok_move (.tmp 0 rfl))) ?_
      refine .cons (.plain rfl (ok_extract 0 (.tmp 0 rfl) rfl)) ?_
      refine .cons (.plain rfl (ok_extract 1 (.tmp 0 rfl) rfl)) ?_
      refine .cons (.plain rfl (ok_assign (.tmp 0 rfl))) ?_
      refine .cons (.plain rfl (ok_assign (.tmp 0 rfl))) ?_
      exact .nil
    clear H7 a7 w7 B7
    intro a8 w8 B8 H8
    refine ops_done ?_
    refine then_normal ?_
    refine wp_seq ?_
    refine wp_seq ?_
    refine flow_region (dsts := [some 44]) (refs := [[.pre 3]]) (outs := [.res 0, .pre 0, .pre 1, .pre 2, .pre 4, .pre 5, .pre 6, .pre 7, .pre 8]) (als := [false]) (posts := [.val (IsB (twosOk X (1 + p)))])
      (out := [(44, .val (IsB (twosOk X (1 + p)))), (10, .val (Lit (.string (strB (twosL X ((1 + p) + 1)))))), (11, .val (IsB (twosOk X ((1 + p) + 1)))), (8, .val (Lit (.string (strB (twosL X (1 + p)))))), (7, .val (Lit (.int .i64 (1 + p)))), (3, .box 25 2 (IsArg ngx nx xx)), (5, .val (Lit (.string s))), (6, .val (Lit (.int .u8 c))), (2, .val (IsB false))]) (nb := []) H8 1 [] rfl (by kernel_rfl) rfl rfl ?_ ?_
    · refine .cons (.plain rfl (ok_move (.tmp 0 rfl))) ?_
      exact .nil
    clear H8 a8 w8 B8
    intro a9 w9 B9 H9
    refine ops_done ?_
    refine then_normal ?_
    refine f_cond H9 (.tmp 0 rfl) ?_ ?_
    · intro hc10
      have q1 := hc10
      have q2 := tb_more q1 (by omega)
      have q3 := tb_pad q1 (by omega)
      have q4 := tb_back q1
      have q5 := tb_size q1
      have eb11 : (twosOk X ((1 + p) + 1)) = true := q2
      rw [eb11] at H9
      refine wp_seq ?_
      refine flow_region (dsts := [some 12]) (refs := [[]]) (outs := [.res 0, .pre 1, .pre 2, .pre 3, .pre 4, .pre 5, .pre 6, .pre 7, .pre 8]) (als := [false]) (posts := [.val (Lit (.string (strB [0])))])
        (out := [(12, .val (Lit (.string (strB [0])))), (10, .val (Lit (.string (strB (twosL X ((1 + p) + 1)))))), (11, .val (IsB true)), (8, .val (Lit (.string (strB (twosL X (1 + p)))))), (7, .val (Lit (.int .i64 (1 + p)))), (3, .box 25 2 (IsArg ngx nx xx)), (5, .val (Lit (.string s))), (6, .val (Lit (.int .u8 c))), (2, .val (IsB false))]) (nb := []) H9 1 [] rfl (by kernel_rfl) rfl rfl ?_ ?_
      · refine .cons (.plain rfl (ok_assign (.const (fun _ _ => by rfl)))) ?_
        exact .nil
      clear H9 a9 w9 B9
      intro a12 w12 B12 H12
      refine ops_done ?_
      refine then_normal ?_
      refine wp_seq ?_
      refine wp_seq ?_
      refine flow_drawT (dsts := [some 45, some 46, some 47, some 48]) (refs := [[.pre 5], [], [.res 0, .res 1], [.res 2]]) (outs := [.res 3, .pre 0, .pre 1, .pre 2, .pre 3, .pre 4, .pre 5, .pre 6, .pre 7, .pre 8]) (als := [false, false, false, false]) (posts := [.val (IsArg ngx nx xx), .val (IsI 0), .val (Lit (.int .i64 (cmpI X 0))), .val (IsB (decide (cmpI X 0 < 0)))])
        (out := [(48, .val (IsB (decide (cmpI X 0 < 0)))), (12, .val (Lit (.string (strB [0])))), (10, .val (Lit (.string (strB (twosL X ((1 + p) + 1)))))), (11, .val (IsB true)), (8, .val (Lit (.string (strB (twosL X (1 + p)))))), (7, .val (Lit (.int .i64 (1 + p)))), (3, .box 25 2 (IsArg ngx nx xx)), (5, .val (Lit (.string s))), (6, .val (Lit (.int .u8 c))), (2, .val (IsB false))]) (nb := []) H12 (by kernel_rfl) 4 0 #[true, true, true, true] (by kernel_rfl) (by kernel_rfl) rfl rfl ?_ ?_
      · refine .cons (.plain rfl (ok_load tyI (.tmp 0 rfl))) ?_
        refine .cons (.plain rfl (ok_call (con_from 0 (by omega)) (.cons (.lit) (.nil)))) ?_
        refine .cons (.plain rfl (ok_call (con_cmp X 0) (.cons (.weak (.tmp 0 rfl) (weakAN (by omega) hX)) (.cons (.weak (.tmp 1 rfl) weakIN) (.nil))))) ?_
        refine .cons (.plain rfl (ok_cmp (.tmp 0 rfl) (.lit) rfl)) ?_
        exact .nil
      clear H12 a12 w12 B12
      intro a13 w13 B13 H13
      refine any_done (by kernel_rfl) ?_
      refine then_normal ?_
      refine f_cond H13 (.tmp 0 rfl) ?_ ?_
      · intro hc14
        replace hc14 := of_decide_eq_true hc14
        have hneg : X < 0 := by have := tw_cmp X 0; omega
        rw [if_pos hneg] at q3
        refine flow_region (dsts := [some 12]) (refs := [[]]) (outs := [.res 0, .pre 2, .pre 3, .pre 4, .pre 5, .pre 6, .pre 7, .pre 8, .pre 9]) (als := [false]) (posts := [.val (Lit (.string (strB [255])))])
          (out := [(12, .val (Lit (.string (strB [255])))), (10, .val (Lit (.string (strB (twosL X ((1 + p) + 1)))))), (11, .val (IsB true)), (8, .val (Lit (.string (strB (twosL X (1 + p)))))), (7, .val (Lit (.int .i64 (1 + p)))), (3, .box 25 2 (IsArg ngx nx xx)), (5, .val (Lit (.string s))), (6, .val (Lit (.int .u8 c))), (2, .val (IsB false))]) (nb := []) H13 1 [] rfl (by kernel_rfl) rfl rfl ?_ ?_
        · refine .cons (.plain rfl (ok_assign (.const (fun _ _ => by rfl)))) ?_
          exact .nil
        clear H13 a13 w13 B13
        intro a15 w15 B15 H15
        refine ops_done ?_
        refine then_normal ?_
        refine wp_seq ?_
        refine flow_drawT (dsts := [some 49, some 50, some 51, some 52, some 53, some 54, some 55, some 56, some 57, some 58, some 59, some 60, some 61, some 62, some 63, some 64, some 65, some 66, some 67, some 68, some 69, some 70]) (refs := [[.pre 3], [.res 0], [.pre 4], [.res 1, .res 2], [.res 3], [.res 4, .pre 3], [.res 4, .res 5], [.res 4, .pre 5], [.res 4, .res 6, .res 7], [.res 4, .res 8], [.res 4, .res 9], [.res 10], [.res 11, .pre 2], [.res 11, .res 12], [.res 11, .res 13], [.res 14], [.res 15, .pre 1], [.res 15, .pre 0], [.res 15, .pre 3], [.res 15, .res 17, .res 18], [.res 15, .res 16, .res 19], [.res 15, .res 20]]) (outs := [.res 21, .pre 3, .pre 6, .pre 7, .pre 8]) (als := [false, false, false, false, false, false, false, false, false, false, false, false, false, false, false, false, false, false, false, false, false, false]) (posts := [.val (Lit (.string (strB (twosL X (1 + p))))), .val (Lit (.int .i64 ((strB (twosL X (1 + p))).size : Int))), .val (Lit (.int .i64 (1 + p))), .val (IsB false), .val (IsB false), .val (Lit (.string (strB (twosL X (1 + p))))), .val (IsI (twosNum (bytesI (strB (twosL X (1 + p)))))), .val (IsArg ngx nx xx), .val (Lit (.int .i64 (cmpI (twosNum (bytesI (strB (twosL X (1 + p))))) X))), .val (IsB false), .val (IsB false), .val (IsB false), .val (IsB true), .val (IsB false), .val (IsB false), .val (IsB false), .val (Lit (.string (strB (twosL X ((1 + p) + 1))))), .val (Lit (.string (strB [255]))), .val (Lit (.string (strB (twosL X (1 + p))))), .val (Lit (.string (strB [255] ++ strB (twosL X (1 + p))))), .val (IsB false), .val (IsB false)])
          (out := [(70, .val (IsB false)), (8, .val (Lit (.string (strB (twosL X (1 + p)))))), (5, .val (Lit (.string s))), (6, .val (Lit (.int .u8 c))), (2, .val (IsB false))]) (nb := []) H15 (by kernel_rfl) 22 0 #[true, true, true, true, true, true, true, true, true, true, true, true, true, true, true, true, true, true, true, true, true, true] (by kernel_rfl) (by kernel_rfl) rfl rfl ?_ ?_
        · refine .cons (.plain rfl (ok_move (.tmp 0 rfl))) ?_
          refine .cons (.plain rfl (ok_lenS Try.underlying9 (.tmp 0 rfl))) ?_
          refine .cons (.plain rfl (ok_move (.tmp 0 rfl))) ?_
          refine .cons (.plain rfl (ok_cmp (b := false) (.tmp 0 rfl) (.tmp 1 rfl) ((decide_eq_false (fun h => h q5)).symm))) ?_
          refine .cons (.plain rfl (ok_move (.tmp 0 rfl))) ?_
          refine .cons (.wanted 4 false rfl rfl rfl 0 rfl (ok_move (.tmp 1 rfl))) ?_
          refine .cons (.wanted 4 false rfl rfl rfl 0 rfl (ok_call (con_fromtwos (strB (twosL X (1 + p))) (by have := tb_size q1; omega)) (.cons (.tmp 1 rfl) (.nil)))) ?_
          refine .cons (.wanted 4 false rfl rfl rfl 0 rfl (ok_load tyI (.tmp 1 rfl))) ?_
          refine .cons (.wanted 4 false rfl rfl rfl 0 rfl (ok_call (con_cmp (twosNum (bytesI (strB (twosL X (1 + p))))) X) (.cons (.weak (.tmp 1 rfl) weakIN) (.cons (.weak (.tmp 2 rfl) (weakAN (by omega) hX)) (.nil))))) ?_
          refine .cons (.wanted 4 false rfl rfl rfl 0 rfl (ok_cmp (b := false) (.tmp 1 rfl) (.lit) ((decide_eq_false (fun h => h (cmpI_eq q4))).symm))) ?_
          refine .cons (.plain rfl (ok_pickF (.tmp 0 rfl) (.tmp 1 rfl))) ?_
          refine .cons (.plain rfl (ok_move (.tmp 0 rfl))) ?_
          refine .cons (.wanted 11 false rfl rfl rfl 0 rfl (ok_move (.tmp 1 rfl))) ?_
          refine .cons (.wanted 11 false rfl rfl rfl 0 rfl (ok_not (b := true) (.tmp 1 rfl))) ?_
          refine .cons (.plain rfl (ok_pickF (.tmp 0 rfl) (.tmp 1 rfl))) ?_
          refine .cons (.plain rfl (ok_move (.tmp 0 rfl))) ?_
          refine .cons (.wanted 15 false rfl rfl rfl 0 rfl (ok_move (.tmp 1 rfl))) ?_
          refine .cons (.wanted 15 false rfl rfl rfl 0 rfl (ok_move (.tmp 1 rfl))) ?_
          refine .cons (.wanted 15 false rfl rfl rfl 0 rfl (ok_move (.tmp 1 rfl))) ?_
          refine .cons (.wanted 15 false rfl rfl rfl 0 rfl (ok_catS (v := strB [255] ++ strB (twosL X (1 + p))) (.tmp 1 rfl) (.tmp 2 rfl) (by rw [strB_size (_ :: _)]; simp; omega) (rfl))) ?_
          refine .cons (.wanted 15 false rfl rfl rfl 0 rfl (ok_neS (b := false) (.tmp 1 rfl) (.tmp 2 rfl) ((decide_eq_false (fun h => h q3)).symm))) ?_
          refine .cons (.plain rfl (ok_pickF (.tmp 0 rfl) (.tmp 1 rfl))) ?_
          exact .nil
        clear H15 a15 w15 B15
        intro a16 w16 B16 H16
        refine any_done (by kernel_rfl) ?_
        refine then_normal ?_
        refine f_condF H16 (.tmp 0 rfl) ?_
        refine wp_skip ?_
        refine then_normal ?_
        refine wp_seq ?_
        refine wp_seq ?_
        refine flow_region (dsts := [some 73, some 74, some 75, some 76, some 77, some 78, some 79, some 80]) (refs := [[.pre 2], [.res 0], [.res 1], [.res 2], [.res 3, .pre 2], [.res 3, .res 4], [.res 3, .res 5], [.res 3, .res 6]]) (outs := [.res 7, .pre 2, .pre 3, .pre 4]) (als := [false, false, false, false, false, false, false, false]) (posts := [.val (Lit (.string s)), .val (Lit (.int .i64 ((s).size : Int))), .val (IsB (decide (((s).size : Int) = 0))), .val (IsB (decide (((s).size : Int) = 0))), .val (Grd ((decide (((s).size : Int) = 0)) == false) (Lit (.string s))), .val (Grd ((decide (((s).size : Int) = 0)) == false) (Lit (.int .i64 ((s).size : Int)))), .val (Grd ((decide (((s).size : Int) = 0)) == false) (IsB (decide (4000 < ((s).size : Int))))), .val (IsB ((decide (((s).size : Int) = 0)) || (decide (4000 < ((s).size : Int)))))])
          (out := [(80, .val (IsB ((decide (((s).size : Int) = 0)) || (decide (4000 < ((s).size : Int)))))), (5, .val (Lit (.string s))), (6, .val (Lit (.int .u8 c))), (2, .val (IsB false))]) (nb := []) H16 8 [] rfl (by kernel_rfl) rfl rfl ?_ ?_
        · refine .cons (.plain rfl (ok_move (.tmp 0 rfl))) ?_
          refine .cons (.plain rfl (ok_lenS Try.underlying9 (.tmp 0 rfl))) ?_
          refine .cons (.plain rfl (ok_cmp (.tmp 0 rfl) (.lit) rfl)) ?_
          refine .cons (.plain rfl (ok_move (.tmp 0 rfl))) ?_
          refine .cons (.sym 3 false (decide (((s).size : Int) = 0)) ((decide (((s).size : Int) = 0)) == false) rfl rfl rfl 0 (need' := [(76, .val (IsB (decide (((s).size : Int) = 0)))), (5, .val (Lit (.string s)))]) rfl rfl (fun a w B e h => ⟨h.1, h.2.1, trivial⟩) (fun e => ok_move (.tmp 1 rfl))) ?_
          refine .cons (.sym 3 false (decide (((s).size : Int) = 0)) ((decide (((s).size : Int) = 0)) == false) rfl rfl rfl 0 (need' := [(76, .val (IsB (decide (((s).size : Int) = 0)))), (77, .val (Lit (.string s)))]) rfl rfl (fun a w B e h => ⟨h.1, h.2.1.1 (e), trivial⟩) (fun e => ok_lenS Try.underlying9 (.tmp 1 rfl))) ?_
          refine .cons (.sym 3 false (decide (((s).size : Int) = 0)) ((decide (((s).size : Int) = 0)) == false) rfl rfl rfl 0 (need' := [(76, .val (IsB (decide (((s).size : Int) = 0)))), (78, .val (Lit (.int .i64 ((s).size : Int))))]) rfl rfl (fun a w B e h => ⟨h.1, h.2.1.1 (e), trivial⟩) (fun e => ok_cmp (.tmp 1 rfl) (.lit) rfl)) ?_
          refine .cons (.plain rfl (ok_pickS (decide (((s).size : Int) = 0)) (.tmp 0 rfl) (fun e => Opd.eqB (.lit) (by rw [e]; rfl)) (fun e => Opd.eqB (Opd.grd (.tmp 1 rfl) (by first | (rw [e]; rfl) | (simp only [e]; rfl) | (simp [*] at *; done))) (by rw [e]; rfl)))) ?_
          exact .nil
        clear H16 a16 w16 B16
        intro a17 w17 B17 H17
        refine ops_done ?_
        refine then_normal ?_
        refine f_cond H17 (.tmp 0 rfl) ?_ ?_
        · intro hc18
          refine wp_seq ?_
          refine flow_region (dsts := [some 81, some 2]) (refs := [[], [.res 0]]) (outs := [.res 1, .pre 1, .pre 2]) (als := [false, false]) (posts := [.val (IsB true), .val (IsB true)])
            (out := [(2, .val (IsB true)), (5, .val (Lit (.string s))), (6, .val (Lit (.int .u8 c)))]) (nb := []) H17 2 [] rfl (by kernel_rfl) rfl rfl ?_ ?_
          · refine .cons (.plain rfl (ok_call (con_lives3) (.nil))) ?_
            refine .cons (.plain rfl (ok_assign (.tmp 0 rfl))) ?_
            exact .nil
          clear H17 a17 w17 B17
          intro a19 w19 B19 H19
          refine ops_done ?_
          refine then_normal ?_
          refine wp_ret ?_
          refine then_ret ?_
          exact f_ret H19 rfl 0 rfl (fun _ _ _ h => h)
        · intro hc18
          rw [Bool.or_eq_false_iff, decide_eq_false_iff_not, decide_eq_false_iff_not] at hc18
          obtain ⟨u1, u2, u3, u4⟩ := tb_text s (by omega) (by omega)
          have u5 := tb_snoc s c (by omega) hc
          have u6 : FitK 4000 (twosNum (bytesI s)) := u4.mono (by omega)
          refine wp_skip ?_
          refine then_normal ?_
          refine wp_seq ?_
          refine flow_region (dsts := [some 82, some 83, some 13]) (refs := [[.pre 1], [.res 0], []]) (outs := [.res 1, .res 2, .pre 1, .pre 2, .pre 3]) (als := [false, false, true]) (posts := [.val (Lit (.string s)), .val (IsI (twosNum (bytesI s))), .box 25 2 (Zero2)])
            (out := [(83, .val (IsI (twosNum (bytesI s)))), (13, .box 25 2 (Zero2)), (5, .val (Lit (.string s))), (6, .val (Lit (.int .u8 c))), (2, .val (IsB false))]) (nb := [13]) H17 3 [3] rfl (by kernel_rfl) rfl rfl ?_ ?_
          · refine .cons (.plain rfl (ok_move (.tmp 0 rfl))) ?_
            refine .cons (.plain rfl (ok_call (con_fromtwos s (by omega)) (.cons (.tmp 0 rfl) (.nil)))) ?_
            refine .cons (.plain rfl (ok_alloc (D := Zero2) zeroI rfl (fun _ _ => rfl))) ?_
            exact .nil
          clear H17 a17 w17 B17
          intro a20 w20 B20 H20
          simp only [List.cons_append, List.nil_append] at H20
          refine ops_one ?_
          refine store_op (l' := [(83, .val (IsI (twosNum (bytesI s)))), (13, .box 25 2 (IsI (twosNum (bytesI s)))), (5, .val (Lit (.string s))), (6, .val (Lit (.int .u8 c))), (2, .val (IsB false))]) 1 H20 rfl tyI rfl (.tmp 0 rfl) shape_Z shape_I rfl rfl ?_
          clear H20 w20
          intro w21 H21
          refine ops_done ?_
          refine then_normal ?_
          refine wp_seq ?_
          refine flow_region (dsts := [some 85, some 86, some 87, some 88, some 84, some 89, some 90, some 14, some 15]) (refs := [[.pre 1], [.pre 2], [.res 1], [.res 0, .res 2], [.res 3], [.res 4], [.res 4], [.res 5], [.res 6]]) (outs := [.res 7, .res 8, .pre 1, .pre 2, .pre 3, .pre 4]) (als := [false, false, false, false, false, false, false, false, false]) (posts := [.val (IsI (twosNum (bytesI s))), .val (Lit (.string s)), .val (Lit (.int .i64 ((s).size : Int))), .val (Tup [Lit (.string s), IsB true]), .val (Tup [Lit (.string s), IsB true]), .val (Lit (.string s)), .val (IsB true), .val (Lit (.string s)), .val (IsB true)])
            (out := [(14, .val (Lit (.string s))), (15, .val (IsB true)), (13, .box 25 2 (IsI (twosNum (bytesI s)))), (5, .val (Lit (.string s))), (6, .val (Lit (.int .u8 c))), (2, .val (IsB false))]) (nb := []) H21 9 [] rfl (by kernel_rfl) rfl rfl ?_ ?_
          · refine .cons (.plain rfl (ok_load tyI (.tmp 0 rfl))) ?_
            refine .cons (.plain rfl (ok_move (.tmp 0 rfl))) ?_
            refine .cons (.plain rfl (ok_lenS Try.underlying9 (.tmp 0 rfl))) ?_
            refine .cons (.plain rfl (ok_call ((con_twos (twosNum (bytesI s)) ((s).size : Int)).weak (fun v w B h => by rw [u1, u2] at h; exact h)) (.cons (.weak (.tmp 0 rfl) weakIN) (.cons (.tmp 1 rfl) (.nil))))) ?_
            refine .cons (.plain rfl (ok_move (.tmp 0 rfl))) ?_
            refine .cons (.plain rfl (ok_extract 0 (.tmp 0 rfl) rfl)) ?_
            refine .cons (.plain rfl (ok_extract 1 (.tmp 0 rfl) rfl)) ?_
            refine .cons (.plain rfl (ok_assign (.tmp 0 rfl))) ?_
            refine .cons (.plain rfl (ok_assign (.tmp 0 rfl))) ?_
            exact .nil
          clear H21 a20 w21 B20
          intro a22 w22 B22 H22
          refine ops_done ?_
          refine then_normal ?_
          refine wp_seq ?_
          refine flow_drawT (dsts := [some 91, some 92, some 93, some 94, some 95, some 96, some 97, some 16]) (refs := [[.pre 2], [], [.res 0, .res 1], [.pre 4], [.res 3], [.res 4], [.res 2, .res 5], []]) (outs := [.res 6, .res 7, .pre 0, .pre 1, .pre 2, .pre 3, .pre 4, .pre 5]) (als := [false, false, false, false, false, false, false, true]) (posts := [.val (IsI (twosNum (bytesI s))), .val (IsI 256), .val (IsI ((twosNum (bytesI s)) * 256)), .val (Lit (.int .u8 c)), .val (Lit (.int .i64 c)), .val (IsI c), .val (IsI (((twosNum (bytesI s)) * 256) + c)), .box 25 2 (Zero2)])
            (out := [(97, .val (IsI (((twosNum (bytesI s)) * 256) + c))), (16, .box 25 2 (Zero2)), (14, .val (Lit (.string s))), (15, .val (IsB true)), (13, .box 25 2 (IsI (twosNum (bytesI s)))), (5, .val (Lit (.string s))), (6, .val (Lit (.int .u8 c))), (2, .val (IsB false))]) (nb := [16]) H22 (by kernel_rfl) 8 1 #[true, true, true, true, true, true, true, true, false] (by kernel_rfl) (by kernel_rfl) rfl rfl ?_ ?_
          · refine .cons (.plain rfl (ok_load tyI (.tmp 0 rfl))) ?_
            refine .cons (.plain rfl (ok_call (con_from 256 (by omega)) (.cons (.lit) (.nil)))) ?_
            refine .cons (.plain rfl (ok_call (con_mul (twosNum (bytesI s)) 256 (((u6.mul (FitK.small (N := 256) (by decide)))).fits (by omega))) (.cons (.weak (.tmp 0 rfl) weakIN) (.cons (.weak (.tmp 1 rfl) weakIN) (.nil))))) ?_
            refine .cons (.plain rfl (ok_move (.tmp 0 rfl))) ?_
            refine .cons (.plain rfl (ok_conv Try.underlying5 Try.underlying2 (r := c) (.tmp 0 rfl) (w_i64 (by omega)))) ?_
            refine .cons (.plain rfl (ok_call (con_from c (by omega)) (.cons (.tmp 0 rfl) (.nil)))) ?_
            refine .cons (.plain rfl (ok_call (con_add ((twosNum (bytesI s)) * 256) c ((((u6.mul (FitK.small (N := 256) (by decide))).add (FitK.small (N := c) (by omega)))).fits (by omega))) (.cons (.weak (.tmp 0 rfl) weakIN) (.cons (.weak (.tmp 1 rfl) weakIN) (.nil))))) ?_
            refine .cons (.plain rfl (ok_alloc (D := Zero2) zeroI rfl (fun _ _ => rfl))) ?_
            exact .nil
          clear H22 a22 w22 B22
          intro a23 w23 B23 H23
          simp only [List.cons_append, List.nil_append] at H23
          refine any_oneT (l' := #[true, true, true, true, true, true, true, true, true]) 8 (by kernel_rfl) ?_
          refine store_op (l' := [(97, .val (IsI (((twosNum (bytesI s)) * 256) + c))), (16, .box 25 2 (IsI (((twosNum (bytesI s)) * 256) + c))), (14, .val (Lit (.string s))), (15, .val (IsB true)), (13, .box 25 2 (IsI (twosNum (bytesI s)))), (5, .val (Lit (.string s))), (6, .val (Lit (.int .u8 c))), (2, .val (IsB false))]) 1 H23 rfl tyI rfl (.tmp 0 rfl) shape_Z shape_I rfl rfl ?_
          clear H23 w23
          intro w24 H24
          refine any_done (by kernel_rfl) ?_
          refine then_normal ?_
          refine wp_seq ?_
          refine flow_drawT (dsts := [some 98, some 99, some 100, some 101, some 102, some 103, some 104, some 105, some 106, some 107, some 108, some 109, some 110, some 111, some 112, some 113, some 114, some 115, some 116, some 117, some 118, some 119, some 120, some 121, some 122, some 123, some 124, some 125, some 126, some 127, some 128, some 129, some 2]) (refs := [[.pre 3], [.res 0], [.res 1, .pre 2], [.res 1, .pre 5], [.res 1, .res 2, .res 3], [.res 1, .res 4], [.res 5], [.res 6, .pre 4], [.res 6, .res 7], [.res 6, .res 8], [.res 9], [.res 10, .pre 5], [.res 10, .pre 6], [.res 10, .res 12], [.res 10, .res 13], [.res 10, .res 11, .res 14], [.res 10, .res 15], [.res 10, .pre 1], [.res 10, .res 16, .res 17], [.res 10, .res 18], [.res 10, .res 19], [.res 20], [.res 21, .pre 4], [.res 21, .res 22], [.res 21, .pre 5], [.res 21, .res 24], [.res 21, .res 25], [.res 21, .res 23, .res 26], [.res 21, .res 27], [.res 28], [.res 29], [.res 29, .res 30], [.res 31]]) (outs := [.res 32]) (als := [false, false, false, false, false, false, false, false, false, false, false, false, false, false, false, false, false, false, false, false, false, false, false, false, false, false, false, false, false, false, false, false, false]) (posts := [.val (IsB true), .val (IsB true), .val (Lit (.string s)), .val (Lit (.string s)), .val (IsB true), .val (IsB true), .val (IsB true), .val (IsI (twosNum (bytesI s))), .val (IsB true), .val (IsB true), .val (IsB true), .val (Lit (.string s)), .val (Lit (.int .u8 c)), .val (IsBy [c]), .val (Lit (.string (strB [c]))), .val (Lit (.string (s ++ strB [c]))), .val (IsI (twosNum (bytesI (s ++ strB [c])))), .val (IsI (((twosNum (bytesI s)) * 256) + c)), .val (Lit (.int .i64 (cmpI (twosNum (bytesI (s ++ strB [c]))) (((twosNum (bytesI s)) * 256) + c)))), .val (IsB true), .val (IsB true), .val (IsB true), .ptr 25 2 (IsI (twosNum (bytesI s))) 0, .val (IsB (decide (twosNum (bytesI s) < 0))), .val (Lit (.string s)), .val (Lit (.int .u8 ((bytesI s)[0]?.getD 0 : Int))), .val (IsB (decide (128 ≤ ((bytesI s)[0]?.getD 0 : Int)))), .val (IsB true), .val (IsB true), .val (IsB true), .val (IsB true), .val (IsB true), .val (IsB true)])
            (out := [(2, .val (IsB true))]) (nb := []) H24 (by kernel_rfl) 33 0 #[true, true, true, true, true, true, true, true, true, true, true, true, true, true, true, true, true, true, true, true, true, true, true, true, true, true, true, true, true, true, true, true, true] (by kernel_rfl) (by kernel_rfl) rfl rfl ?_ ?_
          · refine .cons (.plain rfl (ok_move (.tmp 0 rfl))) ?_
            refine .cons (.plain rfl (ok_move (.tmp 0 rfl))) ?_
            refine .cons (.wanted 1 true rfl rfl rfl 0 rfl (ok_move (.tmp 1 rfl))) ?_
            refine .cons (.wanted 1 true rfl rfl rfl 0 rfl (ok_move (.tmp 1 rfl))) ?_
            refine .cons (.wanted 1 true rfl rfl rfl 0 rfl (ok_eqS (b := true) (.tmp 1 rfl) (.tmp 2 rfl) ((decide_eq_true (rfl)).symm))) ?_
            refine .cons (.plain rfl (ok_pickT (.tmp 0 rfl) (.tmp 1 rfl))) ?_
            refine .cons (.plain rfl (ok_move (.tmp 0 rfl))) ?_
            refine .cons (.wanted 6 true rfl rfl rfl 0 rfl (ok_load tyI (.tmp 1 rfl))) ?_
            refine .cons (.wanted 6 true rfl rfl rfl 0 rfl (ok_call (con_normal (twosNum (bytesI s))) (.cons (.tmp 1 rfl) (.nil)))) ?_
            refine .cons (.plain rfl (ok_pickT (.tmp 0 rfl) (.tmp 1 rfl))) ?_
            refine .cons (.plain rfl (ok_move (.tmp 0 rfl))) ?_
            refine .cons (.wanted 10 true rfl rfl rfl 0 rfl (ok_move (.tmp 1 rfl))) ?_
            refine .cons (.wanted 10 true rfl rfl rfl 0 rfl (ok_move (.tmp 1 rfl))) ?_
            refine .cons (.wanted 10 true rfl rfl rfl 0 rfl (ok_by1 (by omega) (.tmp 1 rfl))) ?_
            refine .cons (.wanted 10 true rfl rfl rfl 0 rfl (ok_convBS (.tmp 1 rfl))) ?_
            refine .cons (.wanted 10 true rfl rfl rfl 0 rfl (ok_catS (v := s ++ strB [c]) (.tmp 1 rfl) (.tmp 2 rfl) (by rw [strB_size]; simp; omega) (rfl))) ?_
            refine .cons (.wanted 10 true rfl rfl rfl 0 rfl (ok_call (con_fromtwos (s ++ strB [c]) (by rw [ByteArray.size_append, strB_size]; simp; omega)) (.cons (.tmp 1 rfl) (.nil)))) ?_
            refine .cons (.wanted 10 true rfl rfl rfl 0 rfl (ok_load tyI (.tmp 1 rfl))) ?_
            refine .cons (.wanted 10 true rfl rfl rfl 0 rfl (ok_call (con_cmp (twosNum (bytesI (s ++ strB [c]))) (((twosNum (bytesI s)) * 256) + c)) (.cons (.weak (.tmp 1 rfl) weakIN) (.cons (.weak (.tmp 2 rfl) weakIN) (.nil))))) ?_
            refine .cons (.wanted 10 true rfl rfl rfl 0 rfl (ok_cmp (b := true) (.tmp 1 rfl) (.lit) ((decide_eq_true (cmpI_eq u5)).symm))) ?_
            refine .cons (.plain rfl (ok_pickT (.tmp 0 rfl) (.tmp 1 rfl))) ?_
            refine .cons (.plain rfl (ok_move (.tmp 0 rfl))) ?_
            refine .cons (.wanted 21 true rfl rfl rfl 0 rfl (ok_addrI0 (.tmp 1 rfl))) ?_
            refine .cons (.wanted 21 true rfl rfl rfl 0 rfl (ok_loadNegI (.tmp 1 rfl))) ?_
            refine .cons (.wanted 21 true rfl rfl rfl 0 rfl (ok_move (.tmp 1 rfl))) ?_
            refine .cons (.wanted 21 true rfl rfl rfl 0 rfl (ok_indexS (n := 0) (c := ((bytesI s)[0]?.getD 0 : Int)) Try.underlying9 (.tmp 1 rfl) (.lit) (rfl) (bytes_at s 0 (by omega)))) ?_
            refine .cons (.wanted 21 true rfl rfl rfl 0 rfl (ok_cmp (.tmp 1 rfl) (.lit) rfl)) ?_
            refine .cons (.wanted 21 true rfl rfl rfl 0 rfl (OpOk.eqB (b := (decide (twosNum (bytesI s) < 0)) == (decide (128 ≤ ((bytesI s)[0]?.getD 0 : Int)))) (ok_eqB Try.underlying4 (.tmp 1 rfl) (.tmp 2 rfl)) (u3))) ?_
            refine .cons (.plain rfl (ok_pickT (.tmp 0 rfl) (.tmp 1 rfl))) ?_
            refine .cons (.plain rfl (ok_move (.tmp 0 rfl))) ?_
            refine .cons (.wanted 29 true rfl rfl rfl 0 rfl (ok_call (con_lives3) (.nil))) ?_
            refine .cons (.plain rfl (ok_pickT (.tmp 0 rfl) (.tmp 1 rfl))) ?_
            refine .cons (.plain rfl (ok_assign (.tmp 0 rfl))) ?_
            exact .nil
          clear H24 a23 w24 B23
          intro a25 w25 B25 H25
          refine any_done (by kernel_rfl) ?_
          refine then_normal ?_
          refine wp_ret ?_
          exact f_ret H25 rfl 0 rfl (fun _ _ _ h => h)
      · intro hc14
        replace hc14 := of_decide_eq_false hc14
        have hneg : ¬ X < 0 := by have := tw_cmp X 0; omega
        rw [if_neg hneg] at q3
        refine wp_skip ?_
        refine then_normal ?_
        refine wp_seq ?_
        refine flow_drawT (dsts := [some 49, some 50, some 51, some 52, some 53, some 54, some 55, some 56, some 57, some 58, some 59, some 60, some 61, some 62, some 63, some 64, some 65, some 66, some 67, some 68, some 69, some 70]) (refs := [[.pre 4], [.res 0], [.pre 5], [.res 1, .res 2], [.res 3], [.res 4, .pre 4], [.res 4, .res 5], [.res 4, .pre 6], [.res 4, .res 6, .res 7], [.res 4, .res 8], [.res 4, .res 9], [.res 10], [.res 11, .pre 3], [.res 11, .res 12], [.res 11, .res 13], [.res 14], [.res 15, .pre 2], [.res 15, .pre 1], [.res 15, .pre 4], [.res 15, .res 17, .res 18], [.res 15, .res 16, .res 19], [.res 15, .res 20]]) (outs := [.res 21, .pre 4, .pre 7, .pre 8, .pre 9]) (als := [false, false, false, false, false, false, false, false, false, false, false, false, false, false, false, false, false, false, false, false, false, false]) (posts := [.val (Lit (.string (strB (twosL X (1 + p))))), .val (Lit (.int .i64 ((strB (twosL X (1 + p))).size : Int))), .val (Lit (.int .i64 (1 + p))), .val (IsB false), .val (IsB false), .val (Lit (.string (strB (twosL X (1 + p))))), .val (IsI (twosNum (bytesI (strB (twosL X (1 + p)))))), .val (IsArg ngx nx xx), .val (Lit (.int .i64 (cmpI (twosNum (bytesI (strB (twosL X (1 + p))))) X))), .val (IsB false), .val (IsB false), .val (IsB false), .val (IsB true), .val (IsB false), .val (IsB false), .val (IsB false), .val (Lit (.string (strB (twosL X ((1 + p) + 1))))), .val (Lit (.string (strB [0]))), .val (Lit (.string (strB (twosL X (1 + p))))), .val (Lit (.string (strB [0] ++ strB (twosL X (1 + p))))), .val (IsB false), .val (IsB false)])
          (out := [(70, .val (IsB false)), (8, .val (Lit (.string (strB (twosL X (1 + p)))))), (5, .val (Lit (.string s))), (6, .val (Lit (.int .u8 c))), (2, .val (IsB false))]) (nb := []) H13 (by kernel_rfl) 22 0 #[true, true, true, true, true, true, true, true, true, true, true, true, true, true, true, true, true, true, true, true, true, true] (by kernel_rfl) (by kernel_rfl) rfl rfl ?_ ?_
        · refine .cons (.plain rfl (ok_move (.tmp 0 rfl))) ?_
          refine .cons (.plain rfl (ok_lenS Try.underlying9 (.tmp 0 rfl))) ?_
          refine .cons (.plain rfl (ok_move (.tmp 0 rfl))) ?_
          refine .cons (.plain rfl (ok_cmp (b := false) (.tmp 0 rfl) (.tmp 1 rfl) ((decide_eq_false (fun h => h q5)).symm))) ?_
          refine .cons (.plain rfl (ok_move (.tmp 0 rfl))) ?_
          refine .cons (.wanted 4 false rfl rfl rfl 0 rfl (ok_move (.tmp 1 rfl))) ?_
          refine .cons (.wanted 4 false rfl rfl rfl 0 rfl (ok_call (con_fromtwos (strB (twosL X (1 + p))) (by have := tb_size q1; omega)) (.cons (.tmp 1 rfl) (.nil)))) ?_
          refine .cons (.wanted 4 false rfl rfl rfl 0 rfl (ok_load tyI (.tmp 1 rfl))) ?_
          refine .cons (.wanted 4 false rfl rfl rfl 0 rfl (ok_call (con_cmp (twosNum (bytesI (strB (twosL X (1 + p))))) X) (.cons (.weak (.tmp 1 rfl) weakIN) (.cons (.weak (.tmp 2 rfl) (weakAN (by omega) hX)) (.nil))))) ?_
          refine .cons (.wanted 4 false rfl rfl rfl 0 rfl (ok_cmp (b := false) (.tmp 1 rfl) (.lit) ((decide_eq_false (fun h => h (cmpI_eq q4))).symm))) ?_
          refine .cons (.plain rfl (ok_pickF (.tmp 0 rfl) (.tmp 1 rfl))) ?_
          refine .cons (.plain rfl (ok_move (.tmp 0 rfl))) ?_
          refine .cons (.wanted 11 false rfl rfl rfl 0 rfl (ok_move (.tmp 1 rfl))) ?_
          refine .cons (.wanted 11 false rfl rfl rfl 0 rfl (ok_not (b := true) (.tmp 1 rfl))) ?_
          refine .cons (.plain rfl (ok_pickF (.tmp 0 rfl) (.tmp 1 rfl))) ?_
          refine .cons (.plain rfl (ok_move (.tmp 0 rfl))) ?_
          refine .cons (.wanted 15 false rfl rfl rfl 0 rfl (ok_move (.tmp 1 rfl))) ?_
          refine .cons (.wanted 15 false rfl rfl rfl 0 rfl (ok_move (.tmp 1 rfl))) ?_
          refine .cons (.wanted 15 false rfl rfl rfl 0 rfl (ok_move (.tmp 1 rfl))) ?_
          refine .cons (.wanted 15 false rfl rfl rfl 0 rfl (ok_catS (v := strB [0] ++ strB (twosL X (1 + p))) (.tmp 1 rfl) (.tmp 2 rfl) (by rw [strB_size (_ :: _)]; simp; omega) (rfl))) ?_
          refine .cons (.wanted 15 false rfl rfl rfl 0 rfl (ok_neS (b := false) (.tmp 1 rfl) (.tmp 2 rfl) ((decide_eq_false (fun h => h q3)).symm))) ?_
          refine .cons (.plain rfl (ok_pickF (.tmp 0 rfl) (.tmp 1 rfl))) ?_
          exact .nil
        clear H13 a13 w13 B13
        intro a26 w26 B26 H26
        refine any_done (by kernel_rfl) ?_
        refine then_normal ?_
        refine f_condF H26 (.tmp 0 rfl) ?_
        refine wp_skip ?_
        refine then_normal ?_
        refine wp_seq ?_
        refine wp_seq ?_
        refine flow_region (dsts := [some 73, some 74, some 75, some 76, some 77, some 78, some 79, some 80]) (refs := [[.pre 2], [.res 0], [.res 1], [.res 2], [.res 3, .pre 2], [.res 3, .res 4], [.res 3, .res 5], [.res 3, .res 6]]) (outs := [.res 7, .pre 2, .pre 3, .pre 4]) (als := [false, false, false, false, false, false, false, false]) (posts := [.val (Lit (.string s)), .val (Lit (.int .i64 ((s).size : Int))), .val (IsB (decide (((s).size : Int) = 0))), .val (IsB (decide (((s).size : Int) = 0))), .val (Grd ((decide (((s).size : Int) = 0)) == false) (Lit (.string s))), .val (Grd ((decide (((s).size : Int) = 0)) == false) (Lit (.int .i64 ((s).size : Int)))), .val (Grd ((decide (((s).size : Int) = 0)) == false) (IsB (decide (4000 < ((s).size : Int))))), .val (IsB ((decide (((s).size : Int) = 0)) || (decide (4000 < ((s).size : Int)))))])
          (out := [(80, .val (IsB ((decide (((s).size : Int) = 0)) || (decide (4000 < ((s).size : Int)))))), (5, .val (Lit (.string s))), (6, .val (Lit (.int .u8 c))), (2, .val (IsB false))]) (nb := []) H26 8 [] rfl (by kernel_rfl) rfl rfl ?_ ?_
        · refine .cons (.plain rfl (ok_move (.tmp 0 rfl))) ?_
          refine .cons (.plain rfl (ok_lenS Try.underlying9 (.tmp 0 rfl))) ?_
          refine .cons (.plain rfl (ok_cmp (.tmp 0 rfl) (.lit) rfl)) ?_
          refine .cons (.plain rfl (ok_move (.tmp 0 rfl))) ?_
          refine .cons (.sym 3 false (decide (((s).size : Int) = 0)) ((decide (((s).size : Int) = 0)) == false) rfl rfl rfl 0 (need' := [(76, .val (IsB (decide (((s).size : Int) = 0)))), (5, .val (Lit (.string s)))]) rfl rfl (fun a w B e h => ⟨h.1, h.2.1, trivial⟩) (fun e => ok_move (.tmp 1 rfl))) ?_
          refine .cons (.sym 3 false (decide (((s).size : Int) = 0)) ((decide (((s).size : Int) = 0)) == false) rfl rfl rfl 0 (need' := [(76, .val (IsB (decide (((s).size : Int) = 0)))), (77, .val (Lit (.string s)))]) rfl rfl (fun a w B e h => ⟨h.1, h.2.1.1 (e), trivial⟩) (fun e => ok_lenS Try.underlying9 (.tmp 1 rfl))) ?_
          refine .cons (.sym 3 false (decide (((s).size : Int) = 0)) ((decide (((s).size : Int) = 0)) == false) rfl rfl rfl 0 (need' := [(76, .val (IsB (decide (((s).size : Int) = 0)))), (78, .val (Lit (.int .i64 ((s).size : Int))))]) rfl rfl (fun a w B e h => ⟨h.1, h.2.1.1 (e), trivial⟩) (fun e => ok_cmp (.tmp 1 rfl) (.lit) rfl)) ?_
          refine .cons (.plain rfl (ok_pickS (decide (((s).size : Int) = 0)) (.tmp 0 rfl) (fun e => Opd.eqB (.lit) (by rw [e]; rfl)) (fun e => Opd.eqB (Opd.grd (.tmp 1 rfl) (by first | (rw [e]; rfl) | (simp only [e]; rfl) | (simp [*] at *; done))) (by rw [e]; rfl)))) ?_
          exact .nil
        clear H26 a26 w26 B26
        intro a27 w27 B27 H27
        refine ops_done ?_
        refine then_normal ?_
        refine f_cond H27 (.tmp 0 rfl) ?_ ?_
        · intro hc28
          refine wp_seq ?_
          refine flow_region (dsts := [some 81, some 2]) (refs := [[], [.res 0]]) (outs := [.res 1, .pre 1, .pre 2]) (als := [false, false]) (posts := [.val (IsB true), .val (IsB true)])
            (out := [(2, .val (IsB true)), (5, .val (Lit (.string s))), (6, .val (Lit (.int .u8 c)))]) (nb := []) H27 2 [] rfl (by kernel_rfl) rfl rfl ?_ ?_
          · refine .cons (.plain rfl (ok_call (con_lives3) (.nil))) ?_
            refine .cons (.plain rfl (ok_assign (.tmp 0 rfl))) ?_
            exact .nil
          clear H27 a27 w27 B27
          intro a29 w29 B29 H29
          refine ops_done ?_
          refine then_normal ?_
          refine wp_ret ?_
          refine then_ret ?_
          exact f_ret H29 rfl 0 rfl (fun _ _ _ h => h)
        · intro hc28
          rw [Bool.or_eq_false_iff, decide_eq_false_iff_not, decide_eq_false_iff_not] at hc28
          obtain ⟨u1, u2, u3, u4⟩ := tb_text s (by omega) (by omega)
          have u5 := tb_snoc s c (by omega) hc
          have u6 : FitK 4000 (twosNum (bytesI s)) := u4.mono (by omega)
          refine wp_skip ?_
          refine then_normal ?_
          refine wp_seq ?_
          refine flow_region (dsts := [some 82, some 83, some 13]) (refs := [[.pre 1], [.res 0], []]) (outs := [.res 1, .res 2, .pre 1, .pre 2, .pre 3]) (als := [false, false, true]) (posts := [.val (Lit (.string s)), .val (IsI (twosNum (bytesI s))), .box 25 2 (Zero2)])
            (out := [(83, .val (IsI (twosNum (bytesI s)))), (13, .box 25 2 (Zero2)), (5, .val (Lit (.string s))), (6, .val (Lit (.int .u8 c))), (2, .val (IsB false))]) (nb := [13]) H27 3 [3] rfl (by kernel_rfl) rfl rfl ?_ ?_
          · refine .cons (.plain rfl (ok_move (.tmp 0 rfl))) ?_
            refine .cons (.plain rfl (ok_call (con_fromtwos s (by omega)) (.cons (.tmp 0 rfl) (.nil)))) ?_
            refine .cons (.plain rfl (ok_alloc (D := Zero2) zeroI rfl (fun _ _ => rfl))) ?_
            exact .nil
          clear H27 a27 w27 B27
          intro a30 w30 B30 H30
          simp only [List.cons_append, List.nil_append] at H30
          refine ops_one ?_
          refine store_op (l' := [(83, .val (IsI (twosNum (bytesI s)))), (13, .box 25 2 (IsI (twosNum (bytesI s)))), (5, .val (Lit (.string s))), (6, .val (Lit (.int .u8 c))), (2, .val (IsB false))]) 1 H30 rfl tyI rfl (.tmp 0 rfl) shape_Z shape_I rfl rfl ?_
          clear H30 w30
          intro w31 H31
          refine ops_done ?_
          refine then_normal ?_
          refine wp_seq ?_
          refine flow_region (dsts := [some 85, some 86, some 87, some 88, some 84, some 89, some 90, some 14, some 15]) (refs := [[.pre 1], [.pre 2], [.res 1], [.res 0, .res 2], [.res 3], [.res 4], [.res 4], [.res 5], [.res 6]]) (outs := [.res 7, .res 8, .pre 1, .pre 2, .pre 3, .pre 4]) (als := [false, false, false, false, false, false, false, false, false]) (posts := [.val (IsI (twosNum (bytesI s))), .val (Lit (.string s)), .val (Lit (.int .i64 ((s).size : Int))), .val (Tup [Lit (.string s), IsB true]), .val (Tup [Lit (.string s), IsB true]), .val (Lit (.string s)), .val (IsB true), .val (Lit (.string s)), .val (IsB true)])
            (out := [(14, .val (Lit (.string s))), (15, .val (IsB true)), (13, .box 25 2 (IsI (twosNum (bytesI s)))), (5, .val (Lit (.string s))), (6, .val (Lit (.int .u8 c))), (2, .val (IsB false))]) (nb := []) H31 9 [] rfl (by kernel_rfl) rfl rfl ?_ ?_
          · refine .cons (.plain rfl (ok_load tyI (.tmp 0 rfl))) ?_
            refine .cons (.plain rfl (ok_move (.tmp 0 rfl))) ?_
            refine .cons (.plain rfl (ok_lenS Try.underlying9 (.tmp 0 rfl))) ?_
            refine .cons (.plain rfl (ok_call ((con_twos (twosNum (bytesI s)) ((s).size : Int)).weak (fun v w B h => by rw [u1, u2] at h; exact h)) (.cons (.weak (.tmp 0 rfl) weakIN) (.cons (.tmp 1 rfl) (.nil))))) ?_
            refine .cons (.plain rfl (ok_move (.tmp 0 rfl))) ?_
            refine .cons (.plain rfl (ok_extract 0 (.tmp 0 rfl) rfl)) ?_
            refine .cons (.plain rfl (ok_extract 1 (.tmp 0 rfl) rfl)) ?_
            refine .cons (.plain rfl (ok_assign (.tmp 0 rfl))) ?_
            refine .cons (.plain rfl (ok_assign (.tmp 0 rfl))) ?_
            exact .nil
          clear H31 a30 w31 B30
          intro a32 w32 B32 H32
          refine ops_done ?_
          refine then_normal ?_
          refine wp_seq ?_
          refine flow_drawT (dsts := [some 91, some 92, some 93, some 94, some 95, some 96, some 97, some 16]) (refs := [[.pre 2], [], [.res 0, .res 1], [.pre 4], [.res 3], [.res 4], [.res 2, .res 5], []]) (outs := [.res 6, .res 7, .pre 0, .pre 1, .pre 2, .pre 3, .pre 4, .pre 5]) (als := [false, false, false, false, false, false, false, true]) (posts := [.val (IsI (twosNum (bytesI s))), .val (IsI 256), .val (IsI ((twosNum (bytesI s)) * 256)), .val (Lit (.int .u8 c)), .val (Lit (.int .i64 c)), .val (IsI c), .val (IsI (((twosNum (bytesI s)) * 256) + c)), .box 25 2 (Zero2)])
            (out := [(97, .val (IsI (((twosNum (bytesI s)) * 256) + c))), (16, .box 25 2 (Zero2)), (14, .val (Lit (.string s))), (15, .val (IsB true)), (13, .box 25 2 (IsI (twosNum (bytesI s)))), (5, .val (Lit (.string s))), (6, .val (Lit (.int .u8 c))), (2, .val (IsB false))]) (nb := [16]) H32 (by kernel_rfl) 8 1 #[true, true, true, true, true, true, true, true, false] (by kernel_rfl) (by kernel_rfl) rfl rfl ?_ ?_
          · refine .cons (.plain rfl (ok_load tyI (.tmp 0 rfl))) ?_
            refine .cons (.plain rfl (ok_call (con_from 256 (by omega)) (.cons (.lit) (.nil)))) ?_
            refine .cons (.plain rfl (ok_call (con_mul (twosNum (bytesI s)) 256 (((u6.mul (FitK.small (N := 256) (by decide)))).fits (by omega))) (.cons (.weak (.tmp 0 rfl) weakIN) (.cons (.weak (.tmp 1 rfl) weakIN) (.nil))))) ?_
            refine .cons (.plain rfl (ok_move (.tmp 0 rfl))) ?_
            refine .cons (.plain rfl (ok_conv Try.underlying5 Try.underlying2 (r := c) (.tmp 0 rfl) (w_i64 (by omega)))) ?_
            refine .cons (.plain rfl (ok_call (con_from c (by omega)) (.cons (.tmp 0 rfl) (.nil)))) ?_
            refine .cons (.plain rfl (ok_call (con_add ((twosNum (bytesI s)) * 256) c ((((u6.mul (FitK.small (N := 256) (by decide))).add (FitK.small (N := c) (by omega)))).fits (by omega))) (.cons (.weak (.tmp 0 rfl) weakIN) (.cons (.weak (.tmp 1 rfl) weakIN) (.nil))))) ?_
            refine .cons (.plain rfl (ok_alloc (D := Zero2) zeroI rfl (fun _ _ => rfl))) ?_
            exact .nil
          clear H32 a32 w32 B32
          intro a33 w33 B33 H33
          simp only [List.cons_append, List.nil_append] at H33
          refine any_oneT (l' := #[true, true, true, true, true, true, true, true, true]) 8 (by kernel_rfl) ?_
          refine store_op (l' := [(97, .val (IsI (((twosNum (bytesI s)) * 256) + c))), (16, .box 25 2 (IsI (((twosNum (bytesI s)) * 256) + c))), (14, .val (Lit (.string s))), (15, .val (IsB true)), (13, .box 25 2 (IsI (twosNum (bytesI s)))), (5, .val (Lit (.string s))), (6, .val (Lit (.int .u8 c))), (2, .val (IsB false))]) 1 H33 rfl tyI rfl (.tmp 0 rfl) shape_Z shape_I rfl rfl ?_
          clear H33 w33
          intro w34 H34
          refine any_done (by kernel_rfl) ?_
          refine then_normal ?_
          refine wp_seq ?_
          refine flow_drawT (dsts := [some 98, some 99, some 100, some 101, some 102, some 103, some 104, some 105, some 106, some 107, some 108, some 109, some 110, some 111, some 112, some 113, some 114, some 115, some 116, some 117, some 118, some 119, some 120, some 121, some 122, some 123, some 124, some 125, some 126, some 127, some 128, some 129, some 2]) (refs := [[.pre 3], [.res 0], [.res 1, .pre 2], [.res 1, .pre 5], [.res 1, .res 2, .res 3], [.res 1, .res 4], [.res 5], [.res 6, .pre 4], [.res 6, .res 7], [.res 6, .res 8], [.res 9], [.res 10, .pre 5], [.res 10, .pre 6], [.res 10, .res 12], [.res 10, .res 13], [.res 10, .res 11, .res 14], [.res 10, .res 15], [.res 10, .pre 1], [.res 10, .res 16, .res 17], [.res 10, .res 18], [.res 10, .res 19], [.res 20], [.res 21, .pre 4], [.res 21, .res 22], [.res 21, .pre 5], [.res 21, .res 24], [.res 21, .res 25], [.res 21, .res 23, .res 26], [.res 21, .res 27], [.res 28], [.res 29], [.res 29, .res 30], [.res 31]]) (outs := [.res 32]) (als := [false, false, false, false, false, false, false, false, false, false, false, false, false, false, false, false, false, false, false, false, false, false, false, false, false, false, false, false, false, false, false, false, false]) (posts := [.val (IsB true), .val (IsB true), .val (Lit (.string s)), .val (Lit (.string s)), .val (IsB true), .val (IsB true), .val (IsB true), .val (IsI (twosNum (bytesI s))), .val (IsB true), .val (IsB true), .val (IsB true), .val (Lit (.string s)), .val (Lit (.int .u8 c)), .val (IsBy [c]), .val (Lit (.string (strB [c]))), .val (Lit (.string (s ++ strB [c]))), .val (IsI (twosNum (bytesI (s ++ strB [c])))), .val (IsI (((twosNum (bytesI s)) * 256) + c)), .val (Lit (.int .i64 (cmpI (twosNum (bytesI (s ++ strB [c]))) (((twosNum (bytesI s)) * 256) + c)))), .val (IsB true), .val (IsB true), .val (IsB true), .ptr 25 2 (IsI (twosNum (bytesI s))) 0, .val (IsB (decide (twosNum (bytesI s) < 0))), .val (Lit (.string s)), .val (Lit (.int .u8 ((bytesI s)[0]?.getD 0 : Int))), .val (IsB (decide (128 ≤ ((bytesI s)[0]?.getD 0 : Int)))), .val (IsB true), .val (IsB true), .val (IsB true), .val (IsB true), .val (IsB true), .val (IsB true)])
            (out := [(2, .val (IsB true))]) (nb := []) H34 (by kernel_rfl) 33 0 #[true, true, true, true, true, true, true, true, true, true, true, true, true, true, true, true, true, true, true, true, true, true, true, true, true, true, true, true, true, true, true, true, true] (by kernel_rfl) (by kernel_rfl) rfl rfl ?_ ?_
          · refine .cons (.plain rfl (ok_move (.tmp 0 rfl))) ?_
            refine .cons (.plain rfl (ok_move (.tmp 0 rfl))) ?_
            refine .cons (.wanted 1 true rfl rfl rfl 0 rfl (ok_move (.tmp 1 rfl))) ?_
            refine .cons (.wanted 1 true rfl rfl rfl 0 rfl (ok_move (.tmp 1 rfl))) ?_
            refine .cons (.wanted 1 true rfl rfl rfl 0 rfl (ok_eqS (b := true) (.tmp 1 rfl) (.tmp 2 rfl) ((decide_eq_true (rfl)).symm))) ?_
            refine .cons (.plain rfl (ok_pickT (.tmp 0 rfl) (.tmp 1 rfl))) ?_
            refine .cons (.plain rfl (ok_move (.tmp 0 rfl))) ?_
            refine .cons (.wanted 6 true rfl rfl rfl 0 rfl (ok_load tyI (.tmp 1 rfl))) ?_
            refine .cons (.wanted 6 true rfl rfl rfl 0 rfl (ok_call (con_normal (twosNum (bytesI s))) (.cons (.tmp 1 rfl) (.nil)))) ?_
            refine .cons (.plain rfl (ok_pickT (.tmp 0 rfl) (.tmp 1 rfl))) ?_
            refine .cons (.plain rfl (ok_move (.tmp 0 rfl))) ?_
            refine .cons (.wanted 10 true rfl rfl rfl 0 rfl (ok_move (.tmp 1 rfl))) ?_
            refine .cons (.wanted 10 true rfl rfl rfl 0 rfl (ok_move (.tmp 1 rfl))) ?_
            refine .cons (.wanted 10 true rfl rfl rfl 0 rfl (ok_by1 (by omega) (.tmp 1 rfl))) ?_
            refine .cons (.wanted 10 true rfl rfl rfl 0 rfl (ok_convBS (.tmp 1 rfl))) ?_
            refine .cons (.wanted 10 true rfl rfl rfl 0 rfl (ok_catS (v := s ++ strB [c]) (.tmp 1 rfl) (.tmp 2 rfl) (by rw [strB_size]; simp; omega) (rfl))) ?_
            refine .cons (.wanted 10 true rfl rfl rfl 0 rfl (ok_call (con_fromtwos (s ++ strB [c]) (by rw [ByteArray.size_append, strB_size]; simp; omega)) (.cons (.tmp 1 rfl) (.nil)))) ?_
            refine .cons (.wanted 10 true rfl rfl rfl 0 rfl (ok_load tyI (.tmp 1 rfl))) ?_
            refine .cons (.wanted 10 true rfl rfl rfl 0 rfl (ok_call (con_cmp (twosNum (bytesI (s ++ strB [c]))) (((twosNum (bytesI s)) * 256) + c)) (.cons (.weak (.tmp 1 rfl) weakIN) (.cons (.weak (.tmp 2 rfl) weakIN) (.nil))))) ?_
            refine .cons (.wanted 10 true rfl rfl rfl 0 rfl (ok_cmp (b := true) (.tmp 1 rfl) (.lit) ((decide_eq_true (cmpI_eq u5)).symm))) ?_
            refine .cons (.plain rfl (ok_pickT (.tmp 0 rfl) (.tmp 1 rfl))) ?_
            refine .cons (.plain rfl (ok_move (.tmp 0 rfl))) ?_
            refine .cons (.wanted 21 true rfl rfl rfl 0 rfl (ok_addrI0 (.tmp 1 rfl))) ?_
            refine .cons (.wanted 21 true rfl rfl rfl 0 rfl (ok_loadNegI (.tmp 1 rfl))) ?_
            refine .cons (.wanted 21 true rfl rfl rfl 0 rfl (ok_move (.tmp 1 rfl))) ?_
            refine .cons (.wanted 21 true rfl rfl rfl 0 rfl (ok_indexS (n := 0) (c := ((bytesI s)[0]?.getD 0 : Int)) Try.underlying9 (.tmp 1 rfl) (.lit) (rfl) (bytes_at s 0 (by omega)))) ?_
            refine .cons (.wanted 21 true rfl rfl rfl 0 rfl (ok_cmp (.tmp 1 rfl) (.lit) rfl)) ?_
            refine .cons (.wanted 21 true rfl rfl rfl 0 rfl (OpOk.eqB (b := (decide (twosNum (bytesI s) < 0)) == (decide (128 ≤ ((bytesI s)[0]?.getD 0 : Int)))) (ok_eqB Try.underlying4 (.tmp 1 rfl) (.tmp 2 rfl)) (u3))) ?_
            refine .cons (.plain rfl (ok_pickT (.tmp 0 rfl) (.tmp 1 rfl))) ?_
            refine .cons (.plain rfl (ok_move (.tmp 0 rfl))) ?_
            refine .cons (.wanted 29 true rfl rfl rfl 0 rfl (ok_call (con_lives3) (.nil))) ?_
            refine .cons (.plain rfl (ok_pickT (.tmp 0 rfl) (.tmp 1 rfl))) ?_
            refine .cons (.plain rfl (ok_assign (.tmp 0 rfl))) ?_
            exact .nil
          clear H34 a33 w34 B33
          intro a35 w35 B35 H35
          refine any_done (by kernel_rfl) ?_
          refine then_normal ?_
          refine wp_ret ?_
          exact f_ret H35 rfl 0 rfl (fun _ _ _ h => h)
    · intro hc10
      have q1 := tb_none hc10
      refine wp_seq ?_
      refine flow_region (dsts := [some 71, some 72]) (refs := [[.pre 3], [.res 0]]) (outs := [.res 1, .pre 6, .pre 7, .pre 8]) (als := [false, false]) (posts := [.val (Lit (.string (strB (twosL X (1 + p))))), .val (IsB false)])
        (out := [(72, .val (IsB false)), (5, .val (Lit (.string s))), (6, .val (Lit (.int .u8 c))), (2, .val (IsB false))]) (nb := []) H9 2 [] rfl (by kernel_rfl) rfl rfl ?_ ?_
      · refine .cons (.plain rfl (ok_move (.tmp 0 rfl))) ?_
        refine .cons (.plain rfl (ok_neS (b := false) (.tmp 0 rfl) (.const (fun _ _ => by rfl)) ((decide_eq_false (fun h => h q1)).symm))) ?_
        exact .nil
      clear H9 a9 w9 B9
      intro a36 w36 B36 H36
      refine ops_done ?_
      refine then_normal ?_
      refine f_condF H36 (.tmp 0 rfl) ?_
      refine wp_skip ?_
      refine then_normal ?_
      refine wp_seq ?_
      refine wp_seq ?_
      refine flow_region (dsts := [some 73, some 74, some 75, some 76, some 77, some 78, some 79, some 80]) (refs := [[.pre 1], [.res 0], [.res 1], [.res 2], [.res 3, .pre 1], [.res 3, .res 4], [.res 3, .res 5], [.res 3, .res 6]]) (outs := [.res 7, .pre 1, .pre 2, .pre 3]) (als := [false, false, false, false, false, false, false, false]) (posts := [.val (Lit (.string s)), .val (Lit (.int .i64 ((s).size : Int))), .val (IsB (decide (((s).size : Int) = 0))), .val (IsB (decide (((s).size : Int) = 0))), .val (Grd ((decide (((s).size : Int) = 0)) == false) (Lit (.string s))), .val (Grd ((decide (((s).size : Int) = 0)) == false) (Lit (.int .i64 ((s).size : Int)))), .val (Grd ((decide (((s).size : Int) = 0)) == false) (IsB (decide (4000 < ((s).size : Int))))), .val (IsB ((decide (((s).size : Int) = 0)) || (decide (4000 < ((s).size : Int)))))])
        (out := [(80, .val (IsB ((decide (((s).size : Int) = 0)) || (decide (4000 < ((s).size : Int)))))), (5, .val (Lit (.string s))), (6, .val (Lit (.int .u8 c))), (2, .val (IsB false))]) (nb := []) H36 8 [] rfl (by kernel_rfl) rfl rfl ?_ ?_
      · refine .cons (.plain rfl (ok_move (.tmp 0 rfl))) ?_
        refine .cons (.plain rfl (ok_lenS Try.underlying9 (.tmp 0 rfl))) ?_
        refine .cons (.plain rfl (ok_cmp (.tmp 0 rfl) (.lit) rfl)) ?_
        refine .cons (.plain rfl (ok_move (.tmp 0 rfl))) ?_
        refine .cons (.sym 3 false (decide (((s).size : Int) = 0)) ((decide (((s).size : Int) = 0)) == false) rfl rfl rfl 0 (need' := [(76, .val (IsB (decide (((s).size : Int) = 0)))), (5, .val (Lit (.string s)))]) rfl rfl (fun a w B e h => ⟨h.1, h.2.1, trivial⟩) (fun e => ok_move (.tmp 1 rfl))) ?_
        refine .cons (.sym 3 false (decide (((s).size : Int) = 0)) ((decide (((s).size : Int) = 0)) == false) rfl rfl rfl 0 (need' := [(76, .val (IsB (decide (((s).size : Int) = 0)))), (77, .val (Lit (.string s)))]) rfl rfl (fun a w B e h => ⟨h.1, h.2.1.1 (e), trivial⟩) (fun e => ok_lenS Try.underlying9 (.tmp 1 rfl))) ?_
        refine .cons (.sym 3 false (decide (((s).size : Int) = 0)) ((decide (((s).size : Int) = 0)) == false) rfl rfl rfl 0 (need' := [(76, .val (IsB (decide (((s).size : Int) = 0)))), (78, .val (Lit (.int .i64 ((s).size : Int))))]) rfl rfl (fun a w B e h => ⟨h.1, h.2.1.1 (e), trivial⟩) (fun e => ok_cmp (.tmp 1 rfl) (.lit) rfl)) ?_
        refine .cons (.plain rfl (ok_pickS (decide (((s).size : Int) = 0)) (.tmp 0 rfl) (fun e => Opd.eqB (.lit) (by rw [e]; rfl)) (fun e => Opd.eqB (Opd.grd (.tmp 1 rfl) (by first | (rw [e]; rfl) | (simp only [e]; rfl) | (simp [*] at *; done))) (by rw [e]; rfl)))) ?_
        exact .nil
      clear H36 a36 w36 B36
      intro a37 w37 B37 H37
      refine ops_done ?_
      refine then_normal ?_
      refine f_cond H37 (.tmp 0 rfl) ?_ ?_
      · intro hc38
        refine wp_seq ?_
        refine flow_region (dsts := [some 81, some 2]) (refs := [[], [.res 0]]) (outs := [.res 1, .pre 1, .pre 2]) (als := [false, false]) (posts := [.val (IsB true), .val (IsB true)])
          (out := [(2, .val (IsB true)), (5, .val (Lit (.string s))), (6, .val (Lit (.int .u8 c)))]) (nb := []) H37 2 [] rfl (by kernel_rfl) rfl rfl ?_ ?_
        · refine .cons (.plain rfl (ok_call (con_lives3) (.nil))) ?_
          refine .cons (.plain rfl (ok_assign (.tmp 0 rfl))) ?_
          exact .nil
        clear H37 a37 w37 B37
        intro a39 w39 B39 H39
        refine ops_done ?_
        refine then_normal ?_
        refine wp_ret ?_
        refine then_ret ?_
        exact f_ret H39 rfl 0 rfl (fun _ _ _ h => h)
      · intro hc38
        rw [Bool.or_eq_false_iff, decide_eq_false_iff_not, decide_eq_false_iff_not] at hc38
        obtain ⟨u1, u2, u3, u4⟩ := tb_text s (by omega) (by omega)
        have u5 := tb_snoc s c (by omega) hc
        have u6 : FitK 4000 (twosNum (bytesI s)) := u4.mono (by omega)
        refine wp_skip ?_
        refine then_normal ?_
        refine wp_seq ?_
        refine flow_region (dsts := [some 82, some 83, some 13]) (refs := [[.pre 1], [.res 0], []]) (outs := [.res 1, .res 2, .pre 1, .pre 2, .pre 3]) (als := [false, false, true]) (posts := [.val (Lit (.string s)), .val (IsI (twosNum (bytesI s))), .box 25 2 (Zero2)])
          (out := [(83, .val (IsI (twosNum (bytesI s)))), (13, .box 25 2 (Zero2)), (5, .val (Lit (.string s))), (6, .val (Lit (.int .u8 c))), (2, .val (IsB false))]) (nb := [13]) H37 3 [3] rfl (by kernel_rfl) rfl rfl ?_ ?_
        · refine .cons (.plain rfl (ok_move (.tmp 0 rfl))) ?_
          refine .cons (.plain rfl (ok_call (con_fromtwos s (by omega)) (.cons (.tmp 0 rfl) (.nil)))) ?_
          refine .cons (.plain rfl (ok_alloc (D := Zero2) zeroI rfl (fun _ _ => rfl))) ?_
          exact .nil
        clear H37 a37 w37 B37
        intro a40 w40 B40 H40
        simp only [List.cons_append, List.nil_append] at H40
        refine ops_one ?_
        refine store_op (l' := [(83, .val (IsI (twosNum (bytesI s)))), (13, .box 25 2 (IsI (twosNum (bytesI s)))), (5, .val (Lit (.string s))), (6, .val (Lit (.int .u8 c))), (2, .val (IsB false))]) 1 H40 rfl tyI rfl (.tmp 0 rfl) shape_Z shape_I rfl rfl ?_
        clear H40 w40
        intro w41 H41
        refine ops_done ?_
        refine then_normal ?_
        refine wp_seq ?_
        refine flow_region (dsts := [some 85, some 86, some 87, some 88, some 84, some 89, some 90, some 14, some 15]) (refs := [[.pre 1], [.pre 2], [.res 1], [.res 0, .res 2], [.res 3], [.res 4], [.res 4], [.res 5], [.res 6]]) (outs := [.res 7, .res 8, .pre 1, .pre 2, .pre 3, .pre 4]) (als := [false, false, false, false, false, false, false, false, false]) (posts := [.val (IsI (twosNum (bytesI s))), .val (Lit (.string s)), .val (Lit (.int .i64 ((s).size : Int))), .val (Tup [Lit (.string s), IsB true]), .val (Tup [Lit (.string s), IsB true]), .val (Lit (.string s)), .val (IsB true), .val (Lit (.string s)), .val (IsB true)])
          (out := [(14, .val (Lit (.string s))), (15, .val (IsB true)), (13, .box 25 2 (IsI (twosNum (bytesI s)))), (5, .val (Lit (.string s))), (6, .val (Lit (.int .u8 c))), (2, .val (IsB false))]) (nb := []) H41 9 [] rfl (by kernel_rfl) rfl rfl ?_ ?_
        · refine .cons (.plain rfl (ok_load tyI (.tmp 0 rfl))) ?_
          refine .cons (.plain rfl (ok_move (.tmp 0 rfl))) ?_
          refine .cons (.plain rfl (ok_lenS Try.underlying9 (.tmp 0 rfl))) ?_
          refine .cons (.plain rfl (ok_call ((con_twos (twosNum (bytesI s)) ((s).size : Int)).weak (fun v w B h => by rw [u1, u2] at h; exact h)) (.cons (.weak (.tmp 0 rfl) weakIN) (.cons (.tmp 1 rfl) (.nil))))) ?_
          refine .cons (.plain rfl (ok_move (.tmp 0 rfl))) ?_
          refine .cons (.plain rfl (ok_extract 0 (.tmp 0 rfl) rfl)) ?_
          refine .cons (.plain rfl (ok_extract 1 (.tmp 0 rfl) rfl)) ?_
          refine .cons (.plain rfl (ok_assign (.tmp 0 rfl))) ?_
          refine .cons (.plain rfl (ok_assign (.tmp 0 rfl))) ?_
          exact .nil
        clear H41 a40 w41 B40
        intro a42 w42 B42 H42
        refine ops_done ?_
        refine then_normal ?_
        refine wp_seq ?_
        refine flow_drawT (dsts := [some 91, some 92, some 93, some 94, some 95, some 96, some 97, some 16]) (refs := [[.pre 2], [], [.res 0, .res 1], [.pre 4], [.res 3], [.res 4], [.res 2, .res 5], []]) (outs := [.res 6, .res 7, .pre 0, .pre 1, .pre 2, .pre 3, .pre 4, .pre 5]) (als := [false, false, false, false, false, false, false, true]) (posts := [.val (IsI (twosNum (bytesI s))), .val (IsI 256), .val (IsI ((twosNum (bytesI s)) * 256)), .val (Lit (.int .u8 c)), .val (Lit (.int .i64 c)), .val (IsI c), .val (IsI (((twosNum (bytesI s)) * 256) + c)), .box 25 2 (Zero2)])
          (out := [(97, .val (IsI (((twosNum (bytesI s)) * 256) + c))), (16, .box 25 2 (Zero2)), (14, .val (Lit (.string s))), (15, .val (IsB true)), (13, .box 25 2 (IsI (twosNum (bytesI s)))), (5, .val (Lit (.string s))), (6, .val (Lit (.int .u8 c))), (2, .val (IsB false))]) (nb := [16]) H42 (by kernel_rfl) 8 1 #[true, true, true, true, true, true, true, true, false] (by kernel_rfl) (by kernel_rfl) rfl rfl ?_ ?_
        · refine .cons (.plain rfl (ok_load tyI (.tmp 0 rfl))) ?_
          refine .cons (.plain rfl (ok_call (con_from 256 (by omega)) (.cons (.lit) (.nil)))) ?_
          refine .cons (.plain rfl (ok_call (con_mul (twosNum (bytesI s)) 256 (((u6.mul (FitK.small (N := 256) (by decide)))).fits (by omega))) (.cons (.weak (.tmp 0 rfl) weakIN) (.cons (.weak (.tmp 1 rfl) weakIN) (.nil))))) ?_
          refine .cons (.plain rfl (ok_move (.tmp 0 rfl))) ?_
          refine .cons (.plain rfl (ok_conv Try.underlying5 Try.underlying2 (r := c) (.tmp 0 rfl) (w_i64 (by omega)))) ?_
          refine .cons (.plain rfl (ok_call (con_from c (by omega)) (.cons (.tmp 0 rfl) (.nil)))) ?_
          refine .cons (.plain rfl (ok_call (con_add ((twosNum (bytesI s)) * 256) c ((((u6.mul (FitK.small (N := 256) (by decide))).add (FitK.small (N := c) (by omega)))).fits (by omega))) (.cons (.weak (.tmp 0 rfl) weakIN) (.cons (.weak (.tmp 1 rfl) weakIN) (.nil))))) ?_
          refine .cons (.plain rfl (ok_alloc (D := Zero2) zeroI rfl (fun _ _ => rfl))) ?_
          exact .nil
        clear H42 a42 w42 B42
        intro a43 w43 B43 H43
        simp only [List.cons_append, List.nil_append] at H43
        refine any_oneT (l' := #[true, true, true, true, true, true, true, true, true]) 8 (by kernel_rfl) ?_
        refine store_op (l' := [(97, .val (IsI (((twosNum (bytesI s)) * 256) + c))), (16, .box 25 2 (IsI (((twosNum (bytesI s)) * 256) + c))), (14, .val (Lit (.string s))), (15, .val (IsB true)), (13, .box 25 2 (IsI (twosNum (bytesI s)))), (5, .val (Lit (.string s))), (6, .val (Lit (.int .u8 c))), (2, .val (IsB false))]) 1 H43 rfl tyI rfl (.tmp 0 rfl) shape_Z shape_I rfl rfl ?_
        clear H43 w43
        intro w44 H44
        refine any_done (by kernel_rfl) ?_
        refine then_normal ?_
        refine wp_seq ?_
        refine flow_drawT (dsts := [some 98, some 99, some 100, some 101, some 102, some 103, some 104, some 105, some 106, some 107, some 108, some 109, some 110, some 111, some 112, some 113, some 114, some 115, some 116, some 117, some 118, some 119, some 120, some 121, some 122, some 123, some 124, some 125, some 126, some 127, some 128, some 129, some 2]) (refs := [[.pre 3], [.res 0], [.res 1, .pre 2], [.res 1, .pre 5], [.res 1, .res 2, .res 3], [.res 1, .res 4], [.res 5], [.res 6, .pre 4], [.res 6, .res 7], [.res 6, .res 8], [.res 9], [.res 10, .pre 5], [.res 10, .pre 6], [.res 10, .res 12], [.res 10, .res 13], [.res 10, .res 11, .res 14], [.res 10, .res 15], [.res 10, .pre 1], [.res 10, .res 16, .res 17], [.res 10, .res 18], [.res 10, .res 19], [.res 20], [.res 21, .pre 4], [.res 21, .res 22], [.res 21, .pre 5], [.res 21, .res 24], [.res 21, .res 25], [.res 21, .res 23, .res 26], [.res 21, .res 27], [.res 28], [.res 29], [.res 29, .res 30], [.res 31]]) (outs := [.res 32]) (als := [false, false, false, false, false, false, false, false, false, false, false, false, false, false, false, false, false, false, false, false, false, false, false, false, false, false, false, false, false, false, false, false, false]) (posts := [.val (IsB true), .val (IsB true), .val (Lit (.string s)), .val (Lit (.string s)), .val (IsB true), .val (IsB true), .val (IsB true), .val (IsI (twosNum (bytesI s))), .val (IsB true), .val (IsB true), .val (IsB true), .val (Lit (.string s)), .val (Lit (.int .u8 c)), .val (IsBy [c]), .val (Lit (.string (strB [c]))), .val (Lit (.string (s ++ strB [c]))), .val (IsI (twosNum (bytesI (s ++ strB [c])))), .val (IsI (((twosNum (bytesI s)) * 256) + c)), .val (Lit (.int .i64 (cmpI (twosNum (bytesI (s ++ strB [c]))) (((twosNum (bytesI s)) * 256) + c)))), .val (IsB true), .val (IsB true), .val (IsB true), .ptr 25 2 (IsI (twosNum (bytesI s))) 0, .val (IsB (decide (twosNum (bytesI s) < 0))), .val (Lit (.string s)), .val (Lit (.int .u8 ((bytesI s)[0]?.getD 0 : Int))), .val (IsB (decide (128 ≤ ((bytesI s)[0]?.getD 0 : Int)))), .val (IsB true), .val (IsB true), .val (IsB true), .val (IsB true), .val (IsB true), .val (IsB true)])
          (out := [(2, .val (IsB true))]) (nb := []) H44 (by kernel_rfl) 33 0 #[true, true, true, true, true, true, true, true, true, true, true, true, true, true, true, true, true, true, true, true, true, true, true, true, true, true, true, true, true, true, true, true, true] (by kernel_rfl) (by kernel_rfl) rfl rfl ?_ ?_
        · refine .cons (.plain rfl (ok_move (.tmp 0 rfl))) ?_
          refine .cons (.plain rfl (ok_move (.tmp 0 rfl))) ?_
          refine .cons (.wanted 1 true rfl rfl rfl 0 rfl (ok_move (.tmp 1 rfl))) ?_
          refine .cons (.wanted 1 true rfl rfl rfl 0 rfl (ok_move (.tmp 1 rfl))) ?_
          refine .cons (.wanted 1 true rfl rfl rfl 0 rfl (ok_eqS (b := true) (.tmp 1 rfl) (.tmp 2 rfl) ((decide_eq_true (rfl)).symm))) ?_
          refine .cons (.plain rfl (ok_pickT (.tmp 0 rfl) (.tmp 1 rfl))) ?_
          refine .cons (.plain rfl (ok_move (.tmp 0 rfl))) ?_
          refine .cons (.wanted 6 true rfl rfl rfl 0 rfl (ok_load tyI (.tmp 1 rfl))) ?_
          refine .cons (.wanted 6 true rfl rfl rfl 0 rfl (ok_call (con_normal (twosNum (bytesI s))) (.cons (.tmp 1 rfl) (.nil)))) ?_
          refine .cons (.plain rfl (ok_pickT (.tmp 0 rfl) (.tmp 1 rfl))) ?_
          refine .cons (.plain rfl (ok_move (.tmp 0 rfl))) ?_
          refine .cons (.wanted 10 true rfl rfl rfl 0 rfl (ok_move (.tmp 1 rfl))) ?_
          refine .cons (.wanted 10 true rfl rfl rfl 0 rfl (ok_move (.tmp 1 rfl))) ?_
          refine .cons (.wanted 10 true rfl rfl rfl 0 rfl (ok_by1 (by omega) (.tmp 1 rfl))) ?_
          refine .cons (.wanted 10 true rfl rfl rfl 0 rfl (ok_convBS (.tmp 1 rfl))) ?_
          refine .cons (.wanted 10 true rfl rfl rfl 0 rfl (ok_catS (v := s ++ strB [c]) (.tmp 1 rfl) (.tmp 2 rfl) (by rw [strB_size]; simp; omega) (rfl))) ?_
          refine .cons (.wanted 10 true rfl rfl rfl 0 rfl (ok_call (con_fromtwos (s ++ strB [c]) (by rw [ByteArray.size_append, strB_size]; simp; omega)) (.cons (.tmp 1 rfl) (.nil)))) ?_
          refine .cons (.wanted 10 true rfl rfl rfl 0 rfl (ok_load tyI (.tmp 1 rfl))) ?_
          refine .cons (.wanted 10 true rfl rfl rfl 0 rfl (ok_call (con_cmp (twosNum (bytesI (s ++ strB [c]))) (((twosNum (bytesI s)) * 256) + c)) (.cons (.weak (.tmp 1 rfl) weakIN) (.cons (.weak (.tmp 2 rfl) weakIN) (.nil))))) ?_
          refine .cons (.wanted 10 true rfl rfl rfl 0 rfl (ok_cmp (b := true) (.tmp 1 rfl) (.lit) ((decide_eq_true (cmpI_eq u5)).symm))) ?_
          refine .cons (.plain rfl (ok_pickT (.tmp 0 rfl) (.tmp 1 rfl))) ?_
          refine .cons (.plain rfl (ok_move (.tmp 0 rfl))) ?_
          refine .cons (.wanted 21 true rfl rfl rfl 0 rfl (ok_addrI0 (.tmp 1 rfl))) ?_
          refine .cons (.wanted 21 true rfl rfl rfl 0 rfl (ok_loadNegI (.tmp 1 rfl))) ?_
          refine .cons (.wanted 21 true rfl rfl rfl 0 rfl (ok_move (.tmp 1 rfl))) ?_
          refine .cons (.wanted 21 true rfl rfl rfl 0 rfl (ok_indexS (n := 0) (c := ((bytesI s)[0]?.getD 0 : Int)) Try.underlying9 (.tmp 1 rfl) (.lit) (rfl) (bytes_at s 0 (by omega)))) ?_
          refine .cons (.wanted 21 true rfl rfl rfl 0 rfl (ok_cmp (.tmp 1 rfl) (.lit) rfl)) ?_
          refine .cons (.wanted 21 true rfl rfl rfl 0 rfl (OpOk.eqB (b := (decide (twosNum (bytesI s) < 0)) == (decide (128 ≤ ((bytesI s)[0]?.getD 0 : Int)))) (ok_eqB Try.underlying4 (.tmp 1 rfl) (.tmp 2 rfl)) (u3))) ?_
          refine .cons (.plain rfl (ok_pickT (.tmp 0 rfl) (.tmp 1 rfl))) ?_
          refine .cons (.plain rfl (ok_move (.tmp 0 rfl))) ?_
          refine .cons (.wanted 29 true rfl rfl rfl 0 rfl (ok_call (con_lives3) (.nil))) ?_
          refine .cons (.plain rfl (ok_pickT (.tmp 0 rfl) (.tmp 1 rfl))) ?_
          refine .cons (.plain rfl (ok_assign (.tmp 0 rfl))) ?_
          exact .nil
        clear H44 a43 w44 B43
        intro a45 w45 B45 H45
        refine any_done (by kernel_rfl) ?_
        refine then_normal ?_
        refine wp_ret ?_
        exact f_ret H45 rfl 0 rfl (fun _ _ _ h => h)

theorem walk_WholeBytes (w : World) (ngx : Bool) (adx : Option Addr) (nx cx : Nat) (xx : List Int) (fx : Arg w adx nx cx xx) (yx : nx * 4 ≤ 140737488351232) (p : Int) (hp : 0 ≤ p ∧ p < 256) (s : ByteArray) (hs : s.size ≤ 140737488351232) (c : Int) (hc : 0 ≤ c ∧ c < 256) :
    Calls Try.prog 11 #[.agg #[.bool ngx, .slice adx nx cx, .int .u8 p, .string s, .int .u8 c]] w (fun e w' => e = .returned (.bool true) ∧ Below w.heap.size w w') := by
  refine ((con_WholeBytes ngx nx xx yx p hp s hs c hc).calls [.agg #[.bool ngx, .slice adx nx cx, .int .u8 p, .string s, .int .u8 c]] w (fun _ => False) (fun _ h => h.elim) ⟨⟨adx, cx, rfl, fx⟩, trivial⟩).mono ?_
  rintro e w' ⟨v, rfl, h, hb⟩
  obtain rfl := h
  exact ⟨rfl, hb⟩
end Go.Proofs.Ytgnophflogmmaaa
