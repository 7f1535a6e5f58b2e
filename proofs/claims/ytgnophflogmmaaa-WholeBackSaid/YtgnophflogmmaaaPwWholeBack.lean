/- The law WholeBack: its walk. -/
import Derived.Test.YtgnophflogmmaaaPk23
import Derived.Test.YtgnophflogmmaaaPk31
set_option linter.unusedVariables false
set_option linter.unusedSimpArgs false
/- The law WholeBack: its walk by what the slots hold. (Printed by flow03.py.) -/
namespace Go.Proofs.Ytgnophflogmmaaa
open Go Go.RowKit

theorem i64_ok {m : Int} (h : -9223372036854775808 ≤ m ∧ m < 9223372036854775808) : okI64 m = true := decide_eq_true h
theorem cmp_bd (x y : Int) : -1 ≤ cmpI x y ∧ cmpI x y ≤ 1 := by unfold cmpI; split <;> (try split) <;> omega
theorem cmp_spec (x y : Int) : (x < y ∧ cmpI x y = -1) ∨ (x = y ∧ cmpI x y = 0) ∨ (y < x ∧ cmpI x y = 1) := by
  rcases Int.lt_trichotomy x y with h | h | h
  · exact .inl ⟨h, cmpI_lt h⟩
  · exact .inr (.inl ⟨h, cmpI_eq h⟩)
  · exact .inr (.inr ⟨h, cmpI_gt h⟩)
theorem cmp_add (x y z : Int) : cmpI (x + z) (y + z) = cmpI x y := by have := cmp_spec x y; have := cmp_spec (x + z) (y + z); omega
theorem cmp_sub (x y : Int) : cmpI (x - y) 0 = cmpI x y := by have := cmp_spec x y; have := cmp_spec (x - y) 0; omega
theorem cmp_mul (x y z : Int) : cmpI (x * z) (y * z) = cmpI x y * cmpI z 0 := by
  rcases cmp_spec z 0 with ⟨h, e⟩ | ⟨h, e⟩ | ⟨h, e⟩
  · rw [e]
    rcases cmp_spec x y with ⟨k, e2⟩ | ⟨k, e2⟩ | ⟨k, e2⟩ <;> rw [e2]
    · exact cmpI_gt (Int.mul_lt_mul_of_neg_right k h)
    · subst k; exact cmpI_eq rfl
    · exact cmpI_lt (Int.mul_lt_mul_of_neg_right k h)
  · subst h; rw [e, Int.mul_zero, Int.mul_zero, Int.mul_zero]; exact cmpI_eq rfl
  · rw [e, Int.mul_one]
    rcases cmp_spec x y with ⟨k, e2⟩ | ⟨k, e2⟩ | ⟨k, e2⟩ <;> rw [e2]
    · exact cmpI_lt (Int.mul_lt_mul_of_pos_right k h)
    · subst k; exact cmpI_eq rfl
    · exact cmpI_gt (Int.mul_lt_mul_of_pos_right k h)
theorem order_up (x y z : Int) : ((decide (cmpI x y ≤ 0) && decide (cmpI y z ≤ 0)) && decide (0 < cmpI x z)) = false := by
  have := cmp_spec x y; have := cmp_spec y z; have := cmp_spec x z
  rw [Bool.eq_false_iff]
  simp only [ne_eq, Bool.and_eq_true, decide_eq_true_eq]
  omega
theorem order_down (x y z : Int) : ((decide (0 ≤ cmpI x y) && decide (0 ≤ cmpI y z)) && decide (cmpI x z < 0)) = false := by
  have := cmp_spec x y; have := cmp_spec y z; have := cmp_spec x z
  rw [Bool.eq_false_iff]
  simp only [ne_eq, Bool.and_eq_true, decide_eq_true_eq]
  omega
theorem order_same (x y : Int) : (decide (cmpI x y = 0) != decide (x = y)) = false := by
  have := cmp_spec x y
  by_cases h : x = y
  · rw [decide_eq_true h, decide_eq_true (by omega)]; rfl
  · rw [decide_eq_false h, decide_eq_false (by omega)]; rfl
theorem order_u64 (m : Int) : (okU64 m == decide (0 ≤ m)) = true ∨ ¬ m < 18446744073709551616 := by
  by_cases h : m < 18446744073709551616
  · refine .inl ?_
    unfold okU64
    by_cases h2 : 0 ≤ m
    · rw [decide_eq_true ⟨h2, h⟩, decide_eq_true h2]; rfl
    · rw [decide_eq_false (fun h => h2 h.1), decide_eq_false h2]; rfl
  · exact .inr h
theorem order_uw (m : Int) (h : -9223372036854775808 ≤ m ∧ m < 9223372036854775808) : ((!okU64 m) || decide ((if okU64 m then m else 0) = IntKind.u64.wrap m)) = true := by
  cases hu : okU64 m with
  | false => rfl
  | true =>
    have := of_decide_eq_true hu
    simp only [Bool.not_true, Bool.false_or, if_true, decide_eq_true_eq]
    rw [IntKind.wrap_u64]; omega

set_option maxRecDepth 20000 in
set_option maxHeartbeats 4000000 in
theorem con_WholeBack (ngx : Bool) (nx : Nat) (xx : List Int) (yx : nx * 4 ≤ 140737488351232) (s : ByteArray) (hs : s.size ≤ 140737488351232) (d : Int) (hd : 0 ≤ d ∧ d < 256) : Con Try.prog 8 [IsArg ngx nx xx, Lit (.string s), Lit (.int .u8 d)] (IsB true) := by
  refine f_enter (N := 139) Try.ntmps8 (fun _ _ => by go_simp) Try.func8 rfl (by simp) ?_
  intro a0 w0 B0 H0
  replace H0 : St 139 w0 B0 a0 w0 B0 [(0, .val (IsArg ngx nx xx)), (1, .val (Lit (.string s))), (2, .val (Lit (.int .u8 d)))] [] := H0
  obtain ⟨X, hX⟩ : ∃ X, sI ngx (val 4294967296 xx) = X := ⟨_, rfl⟩
  have fX : FitK nx X := PArg.fit hX (H0.fc.get 0 rfl)
  refine wp_seq ?_
  refine flow_region (dsts := [some 3, some 6]) (refs := [[.pre 0], []]) (outs := [.res 0, .res 1, .pre 1, .pre 2]) (als := [true, false]) (posts := [.box 25 2 (IsArg ngx nx xx), .val (IsB false)])
    (out := [(3, .box 25 2 (IsArg ngx nx xx)), (6, .val (IsB false)), (1, .val (Lit (.string s))), (2, .val (Lit (.int .u8 d)))]) (nb := [3]) H0 2 [] rfl (by kernel_rfl) rfl rfl ?_ ?_
  · refine .cons (.plain rfl (ok_box (.tmp 0 rfl) shape_Arg.two)) ?_
    refine .cons (.plain rfl (ok_assign (.lit))) ?_
    exact .nil
  clear H0
  intro a1 w1 B1 H1
  simp only [List.cons_append, List.nil_append] at H1
  refine ops_done ?_
  refine then_normal ?_
  refine wp_seq ?_
  refine wp_seq ?_
  refine flow_region (dsts := [some 16, some 17, some 18, some 19]) (refs := [[.pre 0], [.res 0], [.res 1], [.res 2]]) (outs := [.res 3, .pre 0, .pre 1, .pre 2, .pre 3]) (als := [false, false, false, false]) (posts := [.val (IsArg ngx nx xx), .val (IsInts [nx]), .val (IsIf True (∀ j : Nat, [nx][j]?.getD 0 ≤ 1048576)), .val (IsIf True (∀ j : Nat, [nx][j]?.getD 0 ≤ 1048576))])
    (out := [(19, .val (IsIf True (∀ j : Nat, [nx][j]?.getD 0 ≤ 1048576))), (3, .box 25 2 (IsArg ngx nx xx)), (6, .val (IsB false)), (1, .val (Lit (.string s))), (2, .val (Lit (.int .u8 d)))]) (nb := []) H1 4 [4, 5, 6, 7, 8] rfl (by kernel_rfl) rfl rfl ?_ ?_
  · refine .cons (.plain rfl (ok_load tyI (.tmp 0 rfl))) ?_
    refine .cons (.plain rfl (ok_ints1 (.tmp 0 rfl))) ?_
    refine .cons (.plain rfl (ok_call (con_beyond [nx] (by simp) (fun j => by rcases j with _ | _ <;> simp <;> omega)) (.cons (.tmp 0 rfl) (.nil)))) ?_
    refine .cons (.plain rfl (ok_move (.tmp 0 rfl))) ?_
    exact .nil
  clear H1 a1 w1 B1
  intro a2 w2 B2 H2
  rcases St.split2 H2 0 rfl with ⟨hc3, H3⟩ | ⟨hc3, H3⟩
  · replace H3 : St 139 w0 B0 a2 w2 B2 [(19, .val (IsB true)), (3, .box 25 2 (IsArg ngx nx xx)), (6, .val (IsB false)), (1, .val (Lit (.string s))), (2, .val (Lit (.int .u8 d)))] [3] := H3
    clear H2
    refine ops_one ?_
    refine tail_op (D := .val (IsUndef)) (l' := [(20, .val (IsUndef)), (19, .val (IsB true)), (3, .box 25 2 (IsArg ngx nx xx)), (6, .val (IsB false)), (1, .val (Lit (.string s))), (2, .val (Lit (.int .u8 d)))]) H3 rfl rfl rfl (.unwanted 3 false rfl rfl rfl 0 rfl) rfl rfl ?_
    clear H3 a2 w2 B2
    intro a4 w4 B4 H4
    refine ops_one ?_
    refine tail_op (D := .val (IsUndef)) (l' := [(21, .val (IsUndef)), (20, .val (IsUndef)), (19, .val (IsB true)), (3, .box 25 2 (IsArg ngx nx xx)), (6, .val (IsB false)), (1, .val (Lit (.string s))), (2, .val (Lit (.int .u8 d)))]) H4 rfl rfl rfl (.unwanted 3 false rfl rfl rfl 1 rfl) rfl rfl ?_
    clear H4 a4 w4 B4
    intro a5 w5 B5 H5
    refine ops_one ?_
    refine tail_op (D := .val (IsUndef)) (l' := [(22, .val (IsUndef)), (21, .val (IsUndef)), (20, .val (IsUndef)), (19, .val (IsB true)), (3, .box 25 2 (IsArg ngx nx xx)), (6, .val (IsB false)), (1, .val (Lit (.string s))), (2, .val (Lit (.int .u8 d)))]) H5 rfl rfl rfl (.unwanted 3 false rfl rfl rfl 2 rfl) rfl rfl ?_
    clear H5 a5 w5 B5
    intro a6 w6 B6 H6
    refine ops_one ?_
    refine tail_op (D := .val (IsUndef)) (l' := [(23, .val (IsUndef)), (22, .val (IsUndef)), (21, .val (IsUndef)), (20, .val (IsUndef)), (19, .val (IsB true)), (3, .box 25 2 (IsArg ngx nx xx)), (6, .val (IsB false)), (1, .val (Lit (.string s))), (2, .val (Lit (.int .u8 d)))]) H6 rfl rfl rfl (.unwanted 3 false rfl rfl rfl 3 rfl) rfl rfl ?_
    clear H6 a6 w6 B6
    intro a7 w7 B7 H7
    refine ops_one ?_
    refine tail_op (D := .val (IsB true)) (l' := [(24, .val (IsB true)), (23, .val (IsUndef)), (22, .val (IsUndef)), (21, .val (IsUndef)), (20, .val (IsUndef)), (19, .val (IsB true)), (3, .box 25 2 (IsArg ngx nx xx)), (6, .val (IsB false)), (1, .val (Lit (.string s))), (2, .val (Lit (.int .u8 d)))]) H7 rfl rfl rfl (.plain rfl (ok_pickT (.tmp 4 rfl) (.lit))) rfl rfl ?_
    clear H7 a7 w7 B7
    intro a8 w8 B8 H8
    refine ops_done ?_
    refine then_normal ?_
    refine f_condT H8 (.tmp 0 rfl) ?_
    refine wp_seq ?_
    refine flow_region (dsts := [some 6]) (refs := [[]]) (outs := [.res 0, .pre 6, .pre 8, .pre 9]) (als := [false]) (posts := [.val (IsB true)])
      (out := [(6, .val (IsB true)), (3, .box 25 2 (IsArg ngx nx xx)), (1, .val (Lit (.string s))), (2, .val (Lit (.int .u8 d)))]) (nb := []) H8 1 [] rfl (by kernel_rfl) rfl rfl ?_ ?_
    · refine .cons (.plain rfl (ok_assign (.lit))) ?_
      exact .nil
    clear H8 a8 w8 B8
    intro a9 w9 B9 H9
    refine ops_done ?_
    refine then_normal ?_
    refine wp_ret ?_
    refine then_ret ?_
    exact f_ret H9 rfl 0 rfl (fun _ _ _ h => h)
  · replace H3 : St 139 w0 B0 a2 w2 B2 [(19, .val (IsB false)), (3, .box 25 2 (IsArg ngx nx xx)), (6, .val (IsB false)), (1, .val (Lit (.string s))), (2, .val (Lit (.int .u8 d)))] [3] := H3
    clear H2
    have lx : nx ≤ 1048576 := hc3 0
    clear hc3
    refine ops_one ?_
    refine tail_op (D := .ptr 25 2 (IsArg ngx nx xx) 1) (l' := [(20, .ptr 25 2 (IsArg ngx nx xx) 1), (19, .val (IsB false)), (3, .box 25 2 (IsArg ngx nx xx)), (6, .val (IsB false)), (1, .val (Lit (.string s))), (2, .val (Lit (.int .u8 d)))]) H3 rfl rfl rfl (.wanted 3 false rfl rfl rfl 0 rfl (ok_addrI1 (.tmp 1 rfl))) rfl rfl ?_
    clear H3 a2 w2 B2
    intro a10 w10 B10 H10
    refine ops_one ?_
    refine tail_op (D := .val (IsSl nx)) (l' := [(21, .val (IsSl nx)), (20, .ptr 25 2 (IsArg ngx nx xx) 1), (19, .val (IsB false)), (3, .box 25 2 (IsArg ngx nx xx)), (6, .val (IsB false)), (1, .val (Lit (.string s))), (2, .val (Lit (.int .u8 d)))]) H10 rfl rfl rfl (.wanted 3 false rfl rfl rfl 1 rfl (ok_loadMagA (.tmp 0 rfl))) rfl rfl ?_
    clear H10 a10 w10 B10
    intro a11 w11 B11 H11
    refine ops_one ?_
    refine tail_op (D := .val (Lit (.int .i64 (nx : Int)))) (l' := [(22, .val (Lit (.int .i64 (nx : Int)))), (21, .val (IsSl nx)), (20, .ptr 25 2 (IsArg ngx nx xx) 1), (19, .val (IsB false)), (3, .box 25 2 (IsArg ngx nx xx)), (6, .val (IsB false)), (1, .val (Lit (.string s))), (2, .val (Lit (.int .u8 d)))]) H11 rfl rfl rfl (.wanted 3 false rfl rfl rfl 2 rfl (ok_lenSl (.tmp 0 rfl))) rfl rfl ?_
    clear H11 a11 w11 B11
    intro a12 w12 B12 H12
    refine ops_one ?_
    refine tail_op (D := .val (IsB (decide (2000 < (nx : Int))))) (l' := [(23, .val (IsB (decide (2000 < (nx : Int))))), (22, .val (Lit (.int .i64 (nx : Int)))), (21, .val (IsSl nx)), (20, .ptr 25 2 (IsArg ngx nx xx) 1), (19, .val (IsB false)), (3, .box 25 2 (IsArg ngx nx xx)), (6, .val (IsB false)), (1, .val (Lit (.string s))), (2, .val (Lit (.int .u8 d)))]) H12 rfl rfl rfl (.wanted 3 false rfl rfl rfl 3 rfl (ok_cmp (.tmp 0 rfl) (.lit) rfl)) rfl rfl ?_
    clear H12 a12 w12 B12
    intro a13 w13 B13 H13
    refine ops_one ?_
    refine tail_op (D := .val (IsB (decide (2000 < (nx : Int))))) (l' := [(24, .val (IsB (decide (2000 < (nx : Int))))), (23, .val (IsB (decide (2000 < (nx : Int))))), (22, .val (Lit (.int .i64 (nx : Int)))), (21, .val (IsSl nx)), (20, .ptr 25 2 (IsArg ngx nx xx) 1), (19, .val (IsB false)), (3, .box 25 2 (IsArg ngx nx xx)), (6, .val (IsB false)), (1, .val (Lit (.string s))), (2, .val (Lit (.int .u8 d)))]) H13 rfl rfl rfl (.plain rfl (ok_pickF (.tmp 4 rfl) (.tmp 0 rfl))) rfl rfl ?_
    clear H13 a13 w13 B13
    intro a14 w14 B14 H14
    refine ops_done ?_
    refine then_normal ?_
    refine f_cond H14 (.tmp 0 rfl) ?_ ?_
    · intro hc15
      replace hc15 := of_decide_eq_true hc15
      refine wp_seq ?_
      refine flow_region (dsts := [some 6]) (refs := [[]]) (outs := [.res 0, .pre 6, .pre 8, .pre 9]) (als := [false]) (posts := [.val (IsB true)])
        (out := [(6, .val (IsB true)), (3, .box 25 2 (IsArg ngx nx xx)), (1, .val (Lit (.string s))), (2, .val (Lit (.int .u8 d)))]) (nb := []) H14 1 [] rfl (by kernel_rfl) rfl rfl ?_ ?_
      · refine .cons (.plain rfl (ok_assign (.lit))) ?_
        exact .nil
      clear H14 a14 w14 B14
      intro a16 w16 B16 H16
      refine ops_done ?_
      refine then_normal ?_
      refine wp_ret ?_
      refine then_ret ?_
      exact f_ret H16 rfl 0 rfl (fun _ _ _ h => h)
    · intro hc15
      replace hc15 := of_decide_eq_false hc15
      have lx2 : nx ≤ 2000 := by omega
      have hlen : (decL (X.natAbs : Int)).length ≤ 20002 := by have := decL_le (X.natAbs : Int) (by omega) nx fX; omega
      refine wp_skip ?_
      refine then_normal ?_
      refine wp_seq ?_
      refine flow_region (dsts := [some 25, some 26, some 7]) (refs := [[.pre 6], [.res 0], [.res 1]]) (outs := [.res 2, .pre 6, .pre 7, .pre 8, .pre 9]) (als := [false, false, false]) (posts := [.val (IsArg ngx nx xx), .val (Lit (.string (strB (showL X)))), .val (Lit (.string (strB (showL X))))])
        (out := [(7, .val (Lit (.string (strB (showL X))))), (3, .box 25 2 (IsArg ngx nx xx)), (6, .val (IsB false)), (1, .val (Lit (.string s))), (2, .val (Lit (.int .u8 d)))]) (nb := []) H14 3 [] rfl (by kernel_rfl) rfl rfl ?_ ?_
      · refine .cons (.plain rfl (ok_load tyI (.tmp 0 rfl))) ?_
        refine .cons (.plain rfl (ok_call (con_show X) (.cons (.weak (.tmp 0 rfl) (weakAN (by omega) hX)) (.nil)))) ?_
        refine .cons (.plain rfl (ok_assign (.tmp 0 rfl))) ?_
        exact .nil
      clear H14 a14 w14 B14
      intro a17 w17 B17 H17
      refine ops_done ?_
      refine then_normal ?_
      refine wp_seq ?_
      refine flow_region (dsts := [some 28, some 29, some 27, some 30, some 31, some 8]) (refs := [[.pre 0], [.res 0], [.res 1], [.res 2], [.res 2], []]) (outs := [.res 3, .res 4, .res 5, .pre 0, .pre 1, .pre 2, .pre 3, .pre 4]) (als := [false, false, false, false, false, true]) (posts := [.val (Lit (.string (strB (showL X)))), .val (Tup [IsI X, IsB true]), .val (Tup [IsI X, IsB true]), .val (IsI X), .val (IsB true), .box 25 2 (Zero2)])
        (out := [(30, .val (IsI X)), (31, .val (IsB true)), (8, .box 25 2 (Zero2)), (7, .val (Lit (.string (strB (showL X))))), (3, .box 25 2 (IsArg ngx nx xx)), (6, .val (IsB false)), (1, .val (Lit (.string s))), (2, .val (Lit (.int .u8 d)))]) (nb := [8]) H17 6 [6, 7] rfl (by kernel_rfl) rfl rfl ?_ ?_
      · refine .cons (.plain rfl (ok_move (.tmp 0 rfl))) ?_
        refine .cons (.plain rfl (ok_call ((con_read (strB (showL X)) (by rw [strB_size]; have := showL_len X nx fX; omega)).weak (fun v w B h => by rw [(show_read X nx fX (by omega)).1, (show_read X nx fX (by omega)).2] at h; exact h)) (.cons (.tmp 0 rfl) (.nil)))) ?_
        refine .cons (.plain rfl (ok_move (.tmp 0 rfl))) ?_
        refine .cons (.plain rfl (ok_extract 0 (.tmp 0 rfl) rfl)) ?_
        refine .cons (.plain rfl (ok_extract 1 (.tmp 0 rfl) rfl)) ?_
        refine .cons (.plain rfl (ok_alloc (D := Zero2) zeroI rfl (fun _ _ => rfl))) ?_
        exact .nil
      clear H17 a17 w17 B17
      intro a18 w18 B18 H18
      simp only [List.cons_append, List.nil_append] at H18
      refine ops_one ?_
      refine store_op (l' := [(30, .val (IsI X)), (31, .val (IsB true)), (8, .box 25 2 (IsI X)), (7, .val (Lit (.string (strB (showL X))))), (3, .box 25 2 (IsArg ngx nx xx)), (6, .val (IsB false)), (1, .val (Lit (.string s))), (2, .val (Lit (.int .u8 d)))]) 2 H18 rfl tyI rfl (.tmp 0 rfl) shape_Z shape_I rfl rfl ?_
      clear H18 w18
      intro w19 H19
      refine ops_one ?_
      refine tail_op (D := .val (IsB true)) (l' := [(9, .val (IsB true)), (30, .val (IsI X)), (31, .val (IsB true)), (8, .box 25 2 (IsI X)), (7, .val (Lit (.string (strB (showL X))))), (3, .box 25 2 (IsArg ngx nx xx)), (6, .val (IsB false)), (1, .val (Lit (.string s))), (2, .val (Lit (.int .u8 d)))]) H19 rfl rfl rfl (.plain rfl (ok_assign (.tmp 1 rfl))) rfl rfl ?_
      clear H19 a18 w19 B18
      intro a20 w20 B20 H20
      refine ops_done ?_
      refine then_normal ?_
      refine wp_seq ?_
      refine wp_seq ?_
      refine flow_region (dsts := [some 32, some 33, some 34, some 35, some 36, some 37, some 38, some 39, some 40, some 41, some 42, some 43, some 44]) (refs := [[.pre 0], [.res 0], [.res 1], [.res 2, .pre 3], [.res 2, .res 3], [.res 2, .res 4], [.res 2, .res 5], [.res 6], [.res 7, .pre 5], [.res 7, .pre 3], [.res 7, .res 8, .res 9], [.res 7, .res 10], [.res 7, .res 11]]) (outs := [.res 12, .pre 3, .pre 4, .pre 5, .pre 6, .pre 7, .pre 8]) (als := [false, false, false, false, false, false, false, false, false, false, false, false, false]) (posts := [.val (IsB true), .val (IsB false), .val (IsB false), .val (IsI X), .val (IsB true), .val (IsB false), .val (IsB false), .val (IsB false), .val (IsArg ngx nx xx), .val (IsI X), .val (Lit (.int .i64 (cmpI X X))), .val (IsB false), .val (IsB false)])
        (out := [(44, .val (IsB false)), (8, .box 25 2 (IsI X)), (7, .val (Lit (.string (strB (showL X))))), (3, .box 25 2 (IsArg ngx nx xx)), (6, .val (IsB false)), (1, .val (Lit (.string s))), (2, .val (Lit (.int .u8 d)))]) (nb := []) H20 13 [] rfl (by kernel_rfl) rfl rfl ?_ ?_
      · refine .cons (.plain rfl (ok_move (.tmp 0 rfl))) ?_
        refine .cons (.plain rfl (ok_not (b := true) (.tmp 0 rfl))) ?_
        refine .cons (.plain rfl (ok_move (.tmp 0 rfl))) ?_
        refine .cons (.wanted 2 false rfl rfl rfl 0 rfl (ok_load tyI (.tmp 1 rfl))) ?_
        refine .cons (.wanted 2 false rfl rfl rfl 0 rfl (ok_call (con_normal X) (.cons (.tmp 1 rfl) (.nil)))) ?_
        refine .cons (.wanted 2 false rfl rfl rfl 0 rfl (ok_not (b := true) (.tmp 1 rfl))) ?_
        refine .cons (.plain rfl (ok_pickF (.tmp 0 rfl) (.tmp 1 rfl))) ?_
        refine .cons (.plain rfl (ok_move (.tmp 0 rfl))) ?_
        refine .cons (.wanted 7 false rfl rfl rfl 0 rfl (ok_load tyI (.tmp 1 rfl))) ?_
        refine .cons (.wanted 7 false rfl rfl rfl 0 rfl (ok_load tyI (.tmp 1 rfl))) ?_
        refine .cons (.wanted 7 false rfl rfl rfl 0 rfl (ok_call (con_cmp X X) (.cons (.weak (.tmp 1 rfl) (weakAN (by omega) hX)) (.cons (.weak (.tmp 2 rfl) weakIN) (.nil))))) ?_
        refine .cons (.wanted 7 false rfl rfl rfl 0 rfl (ok_cmp (b := false) (.tmp 1 rfl) (.lit) ((decide_eq_false (fun h => h (cmpI_eq rfl))).symm))) ?_
        refine .cons (.plain rfl (ok_pickF (.tmp 0 rfl) (.tmp 1 rfl))) ?_
        exact .nil
      clear H20 a20 w20 B20
      intro a21 w21 B21 H21
      refine ops_done ?_
      refine then_normal ?_
      refine f_condF H21 (.tmp 0 rfl) ?_
      refine wp_skip ?_
      refine then_normal ?_
      refine wp_seq ?_
      refine flow_region (dsts := [some 45, some 10]) (refs := [[.pre 2], [.res 0]]) (outs := [.res 1, .pre 1, .pre 2, .pre 3, .pre 4, .pre 5, .pre 6]) (als := [false, false]) (posts := [.val (Lit (.string (strB (showL X)))), .val (Lit (.string (strB (showL X))))])
        (out := [(10, .val (Lit (.string (strB (showL X))))), (8, .box 25 2 (IsI X)), (7, .val (Lit (.string (strB (showL X))))), (3, .box 25 2 (IsArg ngx nx xx)), (6, .val (IsB false)), (1, .val (Lit (.string s))), (2, .val (Lit (.int .u8 d)))]) (nb := []) H21 2 [] rfl (by kernel_rfl) rfl rfl ?_ ?_
      · refine .cons (.plain rfl (ok_move (.tmp 0 rfl))) ?_
        refine .cons (.plain rfl (ok_assign (.tmp 0 rfl))) ?_
        exact .nil
      clear H21 a21 w21 B21
      intro a22 w22 B22 H22
      refine ops_done ?_
      refine then_normal ?_
      refine wp_seq ?_
      refine wp_seq ?_
      refine flow_drawT (dsts := [some 46, some 47, some 48, some 49]) (refs := [[.pre 3], [], [.res 0, .res 1], [.res 2]]) (outs := [.res 3, .pre 0, .pre 1, .pre 2, .pre 3, .pre 4, .pre 5, .pre 6]) (als := [false, false, false, false]) (posts := [.val (IsArg ngx nx xx), .val (IsI 0), .val (Lit (.int .i64 (cmpI X 0))), .val (IsB (decide (cmpI X 0 < 0)))])
        (out := [(49, .val (IsB (decide (cmpI X 0 < 0)))), (10, .val (Lit (.string (strB (showL X))))), (8, .box 25 2 (IsI X)), (7, .val (Lit (.string (strB (showL X))))), (3, .box 25 2 (IsArg ngx nx xx)), (6, .val (IsB false)), (1, .val (Lit (.string s))), (2, .val (Lit (.int .u8 d)))]) (nb := []) H22 (by kernel_rfl) 4 0 #[true, true, true, true] (by kernel_rfl) (by kernel_rfl) rfl rfl ?_ ?_
      · refine .cons (.plain rfl (ok_load tyI (.tmp 0 rfl))) ?_
        refine .cons (.plain rfl (ok_call (con_from 0 (by omega)) (.cons (.lit) (.nil)))) ?_
        refine .cons (.plain rfl (ok_call (con_cmp X 0) (.cons (.weak (.tmp 0 rfl) (weakAN (by omega) hX)) (.cons (.weak (.tmp 1 rfl) weakIN) (.nil))))) ?_
        refine .cons (.plain rfl (ok_cmp (.tmp 0 rfl) (.lit) rfl)) ?_
        exact .nil
      clear H22 a22 w22 B22
      intro a23 w23 B23 H23
      refine any_done (by kernel_rfl) ?_
      refine then_normal ?_
      refine f_cond H23 (.tmp 0 rfl) ?_ ?_
      · intro hc24
        replace hc24 := of_decide_eq_true hc24
        have hneg : X < 0 := by have := cmp_spec X 0; omega
        refine wp_seq ?_
        refine wp_seq ?_
        refine flow_region (dsts := [some 50, some 51, some 52, some 53, some 54, some 55, some 56, some 57]) (refs := [[.pre 3], [.res 0], [.res 1], [.res 2], [.res 3, .pre 3], [.res 3, .res 4], [.res 3, .res 5], [.res 3, .res 6]]) (outs := [.res 7, .pre 1, .pre 2, .pre 3, .pre 4, .pre 5, .pre 6, .pre 7]) (als := [false, false, false, false, false, false, false, false]) (posts := [.val (Lit (.string (strB (showL X)))), .val (Lit (.int .i64 ((strB (showL X)).size : Int))), .val (IsB false), .val (IsB false), .val (Lit (.string (strB (showL X)))), .val (Lit (.int .u8 45)), .val (IsB false), .val (IsB false)])
          (out := [(57, .val (IsB false)), (10, .val (Lit (.string (strB (showL X))))), (8, .box 25 2 (IsI X)), (7, .val (Lit (.string (strB (showL X))))), (3, .box 25 2 (IsArg ngx nx xx)), (6, .val (IsB false)), (1, .val (Lit (.string s))), (2, .val (Lit (.int .u8 d)))]) (nb := []) H23 8 [] rfl (by kernel_rfl) rfl rfl ?_ ?_
        · refine .cons (.plain rfl (ok_move (.tmp 0 rfl))) ?_
          refine .cons (.plain rfl (ok_lenS Try.underlying9 (.tmp 0 rfl))) ?_
          refine .cons (.plain rfl (ok_cmp (b := false) (.tmp 0 rfl) (.lit) ((decide_eq_false (by have := neg_len X hneg; omega)).symm))) ?_
          refine .cons (.plain rfl (ok_move (.tmp 0 rfl))) ?_
          refine .cons (.wanted 3 false rfl rfl rfl 0 rfl (ok_move (.tmp 1 rfl))) ?_
          refine .cons (.wanted 3 false rfl rfl rfl 0 rfl (ok_indexS (n := 0) (c := 45) Try.underlying9 (.tmp 1 rfl) (.lit) (rfl) (neg_at X hneg))) ?_
          refine .cons (.wanted 3 false rfl rfl rfl 0 rfl (ok_cmp (b := false) (.tmp 1 rfl) (.lit) (by decide))) ?_
          refine .cons (.plain rfl (ok_pickF (.tmp 0 rfl) (.tmp 1 rfl))) ?_
          exact .nil
        clear H23 a23 w23 B23
        intro a25 w25 B25 H25
        refine ops_done ?_
        refine then_normal ?_
        refine f_condF H25 (.tmp 0 rfl) ?_
        refine wp_skip ?_
        refine then_normal ?_
        refine flow_region (dsts := [some 58, some 59, some 10]) (refs := [[.pre 3], [.res 0], [.res 1]]) (outs := [.res 2, .pre 2, .pre 3, .pre 4, .pre 5, .pre 6, .pre 7]) (als := [false, false, false]) (posts := [.val (Lit (.string (strB (showL X)))), .val (Lit (.string ((strB (showL X)).extract 1 (strB (showL X)).size))), .val (Lit (.string ((strB (showL X)).extract 1 (strB (showL X)).size)))])
          (out := [(10, .val (Lit (.string ((strB (showL X)).extract 1 (strB (showL X)).size)))), (8, .box 25 2 (IsI X)), (7, .val (Lit (.string (strB (showL X))))), (3, .box 25 2 (IsArg ngx nx xx)), (6, .val (IsB false)), (1, .val (Lit (.string s))), (2, .val (Lit (.int .u8 d)))]) (nb := []) H25 3 [] rfl (by kernel_rfl) rfl rfl ?_ ?_
        · refine .cons (.plain rfl (ok_move (.tmp 0 rfl))) ?_
          refine .cons (.plain rfl (ok_sliceS1 (n := 1) Try.underlying9 (.tmp 0 rfl) (.lit) (rfl) (by have := neg_len X hneg; omega))) ?_
          refine .cons (.plain rfl (ok_assign (.tmp 0 rfl))) ?_
          exact .nil
        clear H25 a25 w25 B25
        intro a26 w26 B26 H26
        refine ops_done ?_
        refine then_normal ?_
        refine wp_seq ?_
        refine wp_seq ?_
        have H27 := St.set1 H26 0 (D' := Lit (.string (strB (decL (X.natAbs : Int))))) rfl (fun v w B h => by rw [neg_tail X hneg] at h; exact h) (l' := [(10, .val (Lit (.string (strB (decL (X.natAbs : Int)))))), (8, .box 25 2 (IsI X)), (7, .val (Lit (.string (strB (showL X))))), (3, .box 25 2 (IsArg ngx nx xx)), (6, .val (IsB false)), (1, .val (Lit (.string s))), (2, .val (Lit (.int .u8 d)))]) rfl
        clear H26
        refine flow_region (dsts := [some 11]) (refs := [[]]) (outs := [.res 0, .pre 0, .pre 1, .pre 2, .pre 3, .pre 4, .pre 5, .pre 6]) (als := [false]) (posts := [.val (Lit (.int .i64 0))])
          (out := [(11, .val (Lit (.int .i64 0))), (10, .val (Lit (.string (strB (decL (X.natAbs : Int)))))), (8, .box 25 2 (IsI X)), (7, .val (Lit (.string (strB (showL X))))), (3, .box 25 2 (IsArg ngx nx xx)), (6, .val (IsB false)), (1, .val (Lit (.string s))), (2, .val (Lit (.int .u8 d)))]) (nb := []) H27 1 [] rfl (by kernel_rfl) rfl rfl ?_ ?_
        · refine .cons (.plain rfl (ok_assign (.lit))) ?_
          exact .nil
        clear H27 a26 w26 B26
        intro a28 w28 B28 H28
        refine ops_done ?_
        refine then_normal ?_
        refine wp_block ?_
        refine f_loop (fun (i : Int) => [(11, .val (Lit (.int .i64 i))), (10, .val (Lit (.string (strB (decL (X.natAbs : Int)))))), (8, .box 25 2 (IsI X)), (7, .val (Lit (.string (strB (showL X))))), (3, .box 25 2 (IsArg ngx nx xx)), (6, .val (IsB false)), (1, .val (Lit (.string s))), (2, .val (Lit (.int .u8 d)))]) (fun (i : Int) => 0 ≤ i ∧ i ≤ ((decL (X.natAbs : Int)).length : Int)) (fun (i : Int) => (((decL (X.natAbs : Int)).length : Int) - i).toNat) (0) (St.pick H28 [0, 1, 2, 3, 4, 5, 6, 7] rfl) (by exact ⟨by omega, by omega⟩) ?_
        clear H28 a28 w28 B28
        intro i a29 w29 B29 hI29 H29
        replace hI29 : 0 ≤ i ∧ i ≤ ((decL (X.natAbs : Int)).length : Int) := hI29
        replace H29 : St 139 w0 B0 a29 w29 B29 [(11, .val (Lit (.int .i64 i))), (10, .val (Lit (.string (strB (decL (X.natAbs : Int)))))), (8, .box 25 2 (IsI X)), (7, .val (Lit (.string (strB (showL X))))), (3, .box 25 2 (IsArg ngx nx xx)), (6, .val (IsB false)), (1, .val (Lit (.string s))), (2, .val (Lit (.int .u8 d)))] [8, 3] := H29
        refine wp_seq ?_
        refine wp_seq ?_
        refine flow_region (dsts := [some 60, some 61, some 62, some 63]) (refs := [[.pre 0], [.pre 1], [.res 1], [.res 0, .res 2]]) (outs := [.res 3, .pre 0, .pre 1, .pre 2, .pre 3, .pre 4, .pre 5, .pre 6, .pre 7]) (als := [false, false, false, false]) (posts := [.val (Lit (.int .i64 i)), .val (Lit (.string (strB (decL (X.natAbs : Int))))), .val (Lit (.int .i64 ((strB (decL (X.natAbs : Int))).size : Int))), .val (IsB (decide (i < ((strB (decL (X.natAbs : Int))).size : Int))))])
          (out := [(63, .val (IsB (decide (i < ((strB (decL (X.natAbs : Int))).size : Int))))), (11, .val (Lit (.int .i64 i))), (10, .val (Lit (.string (strB (decL (X.natAbs : Int)))))), (8, .box 25 2 (IsI X)), (7, .val (Lit (.string (strB (showL X))))), (3, .box 25 2 (IsArg ngx nx xx)), (6, .val (IsB false)), (1, .val (Lit (.string s))), (2, .val (Lit (.int .u8 d)))]) (nb := []) H29 4 [] rfl (by kernel_rfl) rfl rfl ?_ ?_
        · refine .cons (.plain rfl (ok_move (.tmp 0 rfl))) ?_
          refine .cons (.plain rfl (ok_move (.tmp 0 rfl))) ?_
          refine .cons (.plain rfl (ok_lenS Try.underlying9 (.tmp 0 rfl))) ?_
          refine .cons (.plain rfl (ok_cmp (.tmp 0 rfl) (.tmp 1 rfl) rfl)) ?_
          exact .nil
        clear H29 a29 w29 B29
        intro a30 w30 B30 H30
        refine ops_done ?_
        refine then_normal ?_
        refine f_cond H30 (.tmp 0 rfl) ?_ ?_
        · intro hc31
          replace hc31 := of_decide_eq_true hc31
          rw [strB_size] at hc31
          refine wp_skip ?_
          refine then_normal ?_
          refine wp_seq ?_
          refine wp_block ?_
          refine wp_seq ?_
          refine flow_region (dsts := [some 66, some 67, some 68, some 69, some 70, some 71, some 72, some 73, some 74, some 75, some 76, some 77, some 78, some 79, some 80, some 81, some 82, some 83, some 84, some 85, some 86, some 87, some 88]) (refs := [[.pre 2], [.pre 1], [.res 0, .res 1], [.res 2], [.res 3], [.res 4, .pre 2], [.res 4, .pre 1], [.res 4, .res 5, .res 6], [.res 4, .res 7], [.res 4, .res 8], [.res 9], [.res 10, .pre 1], [.res 10, .res 11], [.res 10, .res 12], [.res 13, .pre 2], [.res 13, .res 14], [.res 13, .res 15], [.res 10, .res 13, .res 16], [.res 10, .res 17], [.res 18, .pre 4], [.res 18, .res 19], [.res 10, .res 18, .res 20], [.res 10, .res 21]]) (outs := [.res 22, .pre 1, .pre 2, .pre 3, .pre 4, .pre 5, .pre 6, .pre 7, .pre 8]) (als := [false, false, false, false, false, false, false, false, false, false, false, false, false, false, false, false, false, false, false, false, false, false, false]) (posts := [.val (Lit (.string (strB (decL (X.natAbs : Int))))), .val (Lit (.int .i64 i)), .val (Lit (.int .u8 ((decL (X.natAbs : Int))[i.toNat]?.getD 0))), .val (IsB false), .val (IsB false), .val (Lit (.string (strB (decL (X.natAbs : Int))))), .val (Lit (.int .i64 i)), .val (Lit (.int .u8 ((decL (X.natAbs : Int))[i.toNat]?.getD 0))), .val (IsB false), .val (IsB false), .val (IsB false), .val (Lit (.int .i64 i)), .val (IsB (decide (i = 0))), .val (IsB (decide (i = 0))), .val (Grd ((decide (i = 0)) == true) (Lit (.string (strB (decL (X.natAbs : Int)))))), .val (Grd ((decide (i = 0)) == true) (Lit (.int .u8 ((decL (X.natAbs : Int))[0]?.getD 0)))), .val (Grd ((decide (i = 0)) == true) (IsB (decide ((decL (X.natAbs : Int))[0]?.getD 0 = 48)))), .val (IsB ((decide (i = 0)) && (decide ((decL (X.natAbs : Int))[0]?.getD 0 = 48)))), .val (IsB ((decide (i = 0)) && (decide ((decL (X.natAbs : Int))[0]?.getD 0 = 48)))), .val (Grd (((decide (i = 0)) && (decide ((decL (X.natAbs : Int))[0]?.getD 0 = 48))) == true) (Lit (.string (strB (showL X))))), .val (Grd (((decide (i = 0)) && (decide ((decL (X.natAbs : Int))[0]?.getD 0 = 48))) == true) (IsB (decide (strB (showL X) ≠ strB [48])))), .val (IsB false), .val (IsB false)])
            (out := [(88, .val (IsB false)), (11, .val (Lit (.int .i64 i))), (10, .val (Lit (.string (strB (decL (X.natAbs : Int)))))), (8, .box 25 2 (IsI X)), (7, .val (Lit (.string (strB (showL X))))), (3, .box 25 2 (IsArg ngx nx xx)), (6, .val (IsB false)), (1, .val (Lit (.string s))), (2, .val (Lit (.int .u8 d)))]) (nb := []) H30 23 [] rfl (by kernel_rfl) rfl rfl ?_ ?_
          · refine .cons (.plain rfl (ok_move (.tmp 0 rfl))) ?_
            refine .cons (.plain rfl (ok_move (.tmp 0 rfl))) ?_
            refine .cons (.plain rfl (ok_indexS (n := i.toNat) (c := ((decL (X.natAbs : Int))[i.toNat]?.getD 0)) Try.underlying9 (.tmp 0 rfl) (.tmp 1 rfl) (by omega) (strB_at (decL_dig _) i.toNat (by omega)))) ?_
            refine .cons (.plain rfl (ok_cmp (b := false) (.tmp 0 rfl) (.lit) ((decide_eq_false (by have := (decL_decs (X.natAbs : Int)).get (i := i.toNat) (by omega); omega)).symm))) ?_
            refine .cons (.plain rfl (ok_move (.tmp 0 rfl))) ?_
            refine .cons (.wanted 4 false rfl rfl rfl 0 rfl (ok_move (.tmp 1 rfl))) ?_
            refine .cons (.wanted 4 false rfl rfl rfl 0 rfl (ok_move (.tmp 1 rfl))) ?_
            refine .cons (.wanted 4 false rfl rfl rfl 0 rfl (ok_indexS (n := i.toNat) (c := ((decL (X.natAbs : Int))[i.toNat]?.getD 0)) Try.underlying9 (.tmp 1 rfl) (.tmp 2 rfl) (by omega) (strB_at (decL_dig _) i.toNat (by omega)))) ?_
            refine .cons (.wanted 4 false rfl rfl rfl 0 rfl (ok_cmp (b := false) (.tmp 1 rfl) (.lit) ((decide_eq_false (by have := (decL_decs (X.natAbs : Int)).get (i := i.toNat) (by omega); omega)).symm))) ?_
            refine .cons (.plain rfl (ok_pickF (.tmp 0 rfl) (.tmp 1 rfl))) ?_
            refine .cons (.plain rfl (ok_move (.tmp 0 rfl))) ?_
            refine .cons (.wanted 10 false rfl rfl rfl 0 rfl (ok_move (.tmp 1 rfl))) ?_
            refine .cons (.wanted 10 false rfl rfl rfl 0 rfl (ok_cmp (.tmp 1 rfl) (.lit) rfl)) ?_
            refine .cons (.wanted 10 false rfl rfl rfl 0 rfl (ok_move (.tmp 1 rfl))) ?_
            refine .cons (.sym 13 true (decide (i = 0)) ((decide (i = 0)) == true) rfl rfl rfl 0 (need' := [(79, .val (IsB (decide (i = 0)))), (10, .val (Lit (.string (strB (decL (X.natAbs : Int))))))]) rfl rfl (fun a w B e h => ⟨h.1, h.2.1, trivial⟩) (fun e => ok_move (.tmp 1 rfl))) ?_
            refine .cons (.sym 13 true (decide (i = 0)) ((decide (i = 0)) == true) rfl rfl rfl 0 (need' := [(79, .val (IsB (decide (i = 0)))), (80, .val (Lit (.string (strB (decL (X.natAbs : Int))))))]) rfl rfl (fun a w B e h => ⟨h.1, h.2.1.1 (e), trivial⟩) (fun e => ok_indexS (n := 0) (c := ((decL (X.natAbs : Int))[0]?.getD 0)) Try.underlying9 (.tmp 1 rfl) (.lit) (rfl) (strB_at (decL_dig _) 0 (by omega)))) ?_
            refine .cons (.sym 13 true (decide (i = 0)) ((decide (i = 0)) == true) rfl rfl rfl 0 (need' := [(79, .val (IsB (decide (i = 0)))), (81, .val (Lit (.int .u8 ((decL (X.natAbs : Int))[0]?.getD 0))))]) rfl rfl (fun a w B e h => ⟨h.1, h.2.1.1 (e), trivial⟩) (fun e => ok_cmp (.tmp 1 rfl) (.lit) rfl)) ?_
            refine .cons (.wanted 10 false rfl rfl rfl 0 rfl (ok_pickS (decide (i = 0)) (.tmp 1 rfl) (fun e => Opd.eqB (Opd.grd (.tmp 2 rfl) (by first | (rw [e]; rfl) | (simp only [e]; rfl) | (simp [*] at *; done))) (by rw [e]; rfl)) (fun e => Opd.eqB (.lit) (by rw [e]; rfl)))) ?_
            refine .cons (.wanted 10 false rfl rfl rfl 0 rfl (ok_move (.tmp 1 rfl))) ?_
            refine .cons (.sym 18 true ((decide (i = 0)) && (decide ((decL (X.natAbs : Int))[0]?.getD 0 = 48))) (((decide (i = 0)) && (decide ((decL (X.natAbs : Int))[0]?.getD 0 = 48))) == true) rfl rfl rfl 0 (need' := [(84, .val (IsB ((decide (i = 0)) && (decide ((decL (X.natAbs : Int))[0]?.getD 0 = 48))))), (7, .val (Lit (.string (strB (showL X)))))]) rfl rfl (fun a w B e h => ⟨h.1, h.2.1, trivial⟩) (fun e => ok_move (.tmp 1 rfl))) ?_
            refine .cons (.sym 18 true ((decide (i = 0)) && (decide ((decL (X.natAbs : Int))[0]?.getD 0 = 48))) (((decide (i = 0)) && (decide ((decL (X.natAbs : Int))[0]?.getD 0 = 48))) == true) rfl rfl rfl 0 (need' := [(84, .val (IsB ((decide (i = 0)) && (decide ((decL (X.natAbs : Int))[0]?.getD 0 = 48))))), (85, .val (Lit (.string (strB (showL X)))))]) rfl rfl (fun a w B e h => ⟨h.1, h.2.1.1 (e), trivial⟩) (fun e => ok_neS (.tmp 1 rfl) (.const (fun _ _ => by rfl)) rfl)) ?_
            refine .cons (.wanted 10 false rfl rfl rfl 0 rfl (OpOk.eqB (b := ((decide (i = 0)) && (decide ((decL (X.natAbs : Int))[0]?.getD 0 = 48))) && (decide (strB (showL X) ≠ strB [48]))) (ok_pickS ((decide (i = 0)) && (decide ((decL (X.natAbs : Int))[0]?.getD 0 = 48))) (.tmp 1 rfl) (fun e => Opd.eqB (Opd.grd (.tmp 2 rfl) (by first | (rw [e]; rfl) | (simp only [e]; rfl) | (simp [*] at *; done))) (by rw [e]; rfl)) (fun e => Opd.eqB (.lit) (by rw [e]; rfl))) (zero_only X i))) ?_
            refine .cons (.plain rfl (ok_pickF (.tmp 0 rfl) (.tmp 1 rfl))) ?_
            exact .nil
          clear H30 a30 w30 B30
          intro a32 w32 B32 H32
          refine ops_done ?_
          refine then_normal ?_
          refine f_condF H32 (.tmp 0 rfl) ?_
          refine wp_skip ?_
          refine block_normal ?_
          refine then_normal ?_
          refine flow_region (dsts := [some 64, some 65]) (refs := [[.pre 1], [.res 0]]) (outs := [.res 1, .pre 1, .pre 2, .pre 3, .pre 4, .pre 5, .pre 6, .pre 7, .pre 8]) (als := [false, false]) (posts := [.val (Lit (.int .i64 i)), .val (Lit (.int .i64 (i + 1)))])
            (out := [(65, .val (Lit (.int .i64 (i + 1)))), (11, .val (Lit (.int .i64 i))), (10, .val (Lit (.string (strB (decL (X.natAbs : Int)))))), (8, .box 25 2 (IsI X)), (7, .val (Lit (.string (strB (showL X))))), (3, .box 25 2 (IsArg ngx nx xx)), (6, .val (IsB false)), (1, .val (Lit (.string s))), (2, .val (Lit (.int .u8 d)))]) (nb := []) H32 2 [2] rfl (by kernel_rfl) rfl rfl ?_ ?_
          · refine .cons (.plain rfl (ok_move (.tmp 0 rfl))) ?_
            refine .cons (.plain rfl (ok_add (r := (i + 1)) (.tmp 0 rfl) (.lit) (w_i64 (by omega)))) ?_
            exact .nil
          clear H32 a32 w32 B32
          intro a33 w33 B33 H33
          refine ops_one ?_
          refine tail_op (D := .val (Lit (.int .i64 (i + 1)))) (l' := [(11, .val (Lit (.int .i64 (i + 1)))), (65, .val (Lit (.int .i64 (i + 1)))), (10, .val (Lit (.string (strB (decL (X.natAbs : Int)))))), (8, .box 25 2 (IsI X)), (7, .val (Lit (.string (strB (showL X))))), (3, .box 25 2 (IsArg ngx nx xx)), (6, .val (IsB false)), (1, .val (Lit (.string s))), (2, .val (Lit (.int .u8 d)))]) H33 rfl rfl rfl (.plain rfl (ok_assign (.tmp 0 rfl))) rfl rfl ?_
          clear H33 a33 w33 B33
          intro a34 w34 B34 H34
          refine ops_done ?_
          exact ⟨i + 1, B34, by exact ⟨by omega, by omega⟩, St.pick H34 [0, 2, 3, 4, 5, 6, 7, 8] rfl, by omega⟩
        · intro hc31
          replace hc31 := of_decide_eq_false hc31
          rw [strB_size] at hc31
          refine wp_exit ?_
          refine then_exit ?_
          refine then_exit ?_
          refine block_exit ?_
          refine then_normal ?_
          refine wp_seq ?_
          refine flow_region (dsts := [some 89, some 90, some 91, some 12]) (refs := [[.pre 8], [.res 0], [.res 1], [.res 2]]) (outs := [.res 3, .pre 1, .pre 2, .pre 3, .pre 4, .pre 5, .pre 6, .pre 7, .pre 8]) (als := [false, false, false, false]) (posts := [.val (Lit (.int .u8 d)), .val (Lit (.int .u8 (d % 10))), .val (Lit (.int .i64 (d % 10))), .val (Lit (.int .i64 (d % 10)))])
            (out := [(12, .val (Lit (.int .i64 (d % 10)))), (11, .val (Lit (.int .i64 i))), (10, .val (Lit (.string (strB (decL (X.natAbs : Int)))))), (8, .box 25 2 (IsI X)), (7, .val (Lit (.string (strB (showL X))))), (3, .box 25 2 (IsArg ngx nx xx)), (6, .val (IsB false)), (1, .val (Lit (.string s))), (2, .val (Lit (.int .u8 d)))]) (nb := []) H30 4 [] rfl (by kernel_rfl) rfl rfl ?_ ?_
          · refine .cons (.plain rfl (ok_move (.tmp 0 rfl))) ?_
            refine .cons (.plain rfl (ok_rem (r := (d % 10)) (.tmp 0 rfl) (.lit) (by omega) (Int.tmod_eq_emod_of_nonneg (by omega)))) ?_
            refine .cons (.plain rfl (ok_conv Try.underlying5 Try.underlying2 (r := (d % 10)) (.tmp 0 rfl) (w_i64 (by omega)))) ?_
            refine .cons (.plain rfl (ok_assign (.tmp 0 rfl))) ?_
            exact .nil
          clear H30 a30 w30 B30
          intro a35 w35 B35 H35
          refine ops_done ?_
          refine then_normal ?_
          refine wp_seq ?_
          refine flow_drawT (dsts := [some 92, some 93, some 94, some 13]) (refs := [[.pre 3], [], [.res 0, .res 1], []]) (outs := [.res 2, .res 3, .pre 0, .pre 1, .pre 2, .pre 3, .pre 4, .pre 5, .pre 6, .pre 7, .pre 8]) (als := [false, false, false, true]) (posts := [.val (IsI X), .val (IsI 10), .val (IsI (X * 10)), .box 25 2 (Zero2)])
            (out := [(94, .val (IsI (X * 10))), (13, .box 25 2 (Zero2)), (12, .val (Lit (.int .i64 (d % 10)))), (11, .val (Lit (.int .i64 i))), (10, .val (Lit (.string (strB (decL (X.natAbs : Int)))))), (8, .box 25 2 (IsI X)), (7, .val (Lit (.string (strB (showL X))))), (3, .box 25 2 (IsArg ngx nx xx)), (6, .val (IsB false)), (1, .val (Lit (.string s))), (2, .val (Lit (.int .u8 d)))]) (nb := [13]) H35 (by kernel_rfl) 4 1 #[true, true, true, true, false] (by kernel_rfl) (by kernel_rfl) rfl rfl ?_ ?_
          · refine .cons (.plain rfl (ok_load tyI (.tmp 0 rfl))) ?_
            refine .cons (.plain rfl (ok_call (con_from 10 (by omega)) (.cons (.lit) (.nil)))) ?_
            refine .cons (.plain rfl (ok_call (con_mul X 10 (((fX.mul (FitK.small (N := 10) (by decide)))).fits (by omega))) (.cons (.weak (.tmp 0 rfl) weakIN) (.cons (.weak (.tmp 1 rfl) weakIN) (.nil))))) ?_
            refine .cons (.plain rfl (ok_alloc (D := Zero2) zeroI rfl (fun _ _ => rfl))) ?_
            exact .nil
          clear H35 a35 w35 B35
          intro a36 w36 B36 H36
          simp only [List.cons_append, List.nil_append] at H36
          refine any_oneT (l' := #[true, true, true, true, true]) 4 (by kernel_rfl) ?_
          refine store_op (l' := [(94, .val (IsI (X * 10))), (13, .box 25 2 (IsI (X * 10))), (12, .val (Lit (.int .i64 (d % 10)))), (11, .val (Lit (.int .i64 i))), (10, .val (Lit (.string (strB (decL (X.natAbs : Int)))))), (8, .box 25 2 (IsI X)), (7, .val (Lit (.string (strB (showL X))))), (3, .box 25 2 (IsArg ngx nx xx)), (6, .val (IsB false)), (1, .val (Lit (.string s))), (2, .val (Lit (.int .u8 d)))]) 1 H36 rfl tyI rfl (.tmp 0 rfl) shape_Z shape_I rfl rfl ?_
          clear H36 w36
          intro w37 H37
          refine any_done (by kernel_rfl) ?_
          refine then_normal ?_
          refine wp_seq ?_
          refine wp_seq ?_
          refine flow_drawT (dsts := [some 95, some 96, some 97, some 98]) (refs := [[.pre 7], [], [.res 0, .res 1], [.res 2]]) (outs := [.res 3, .pre 1, .pre 2, .pre 3, .pre 4, .pre 5, .pre 6, .pre 7, .pre 8, .pre 9, .pre 10]) (als := [false, false, false, false]) (posts := [.val (IsArg ngx nx xx), .val (IsI 0), .val (Lit (.int .i64 (cmpI X 0))), .val (IsB true)])
            (out := [(98, .val (IsB true)), (13, .box 25 2 (IsI (X * 10))), (12, .val (Lit (.int .i64 (d % 10)))), (11, .val (Lit (.int .i64 i))), (10, .val (Lit (.string (strB (decL (X.natAbs : Int)))))), (8, .box 25 2 (IsI X)), (7, .val (Lit (.string (strB (showL X))))), (3, .box 25 2 (IsArg ngx nx xx)), (6, .val (IsB false)), (1, .val (Lit (.string s))), (2, .val (Lit (.int .u8 d)))]) (nb := []) H37 (by kernel_rfl) 4 0 #[true, true, true, true] (by kernel_rfl) (by kernel_rfl) rfl rfl ?_ ?_
          · refine .cons (.plain rfl (ok_load tyI (.tmp 0 rfl))) ?_
            refine .cons (.plain rfl (ok_call (con_from 0 (by omega)) (.cons (.lit) (.nil)))) ?_
            refine .cons (.plain rfl (ok_call (con_cmp X 0) (.cons (.weak (.tmp 0 rfl) (weakAN (by omega) hX)) (.cons (.weak (.tmp 1 rfl) weakIN) (.nil))))) ?_
            refine .cons (.plain rfl (ok_cmp (b := true) (.tmp 0 rfl) (.lit) ((decide_eq_true (hc24)).symm))) ?_
            exact .nil
          clear H37 a36 w37 B36
          intro a38 w38 B38 H38
          refine any_done (by kernel_rfl) ?_
          refine then_normal ?_
          refine f_condT H38 (.tmp 0 rfl) ?_
          refine flow_drawT (dsts := [some 99, some 100, some 101, some 102]) (refs := [[.pre 1], [.pre 2], [.res 1], [.res 0, .res 2]]) (outs := [.res 3, .pre 1, .pre 2, .pre 3, .pre 4, .pre 5, .pre 6, .pre 7, .pre 8, .pre 9, .pre 10]) (als := [false, false, false, false]) (posts := [.val (IsI (X * 10)), .val (Lit (.int .i64 (d % 10))), .val (IsI (d % 10)), .val (IsI ((X * 10) - (d % 10)))])
            (out := [(102, .val (IsI ((X * 10) - (d % 10)))), (13, .box 25 2 (IsI (X * 10))), (12, .val (Lit (.int .i64 (d % 10)))), (11, .val (Lit (.int .i64 i))), (10, .val (Lit (.string (strB (decL (X.natAbs : Int)))))), (8, .box 25 2 (IsI X)), (7, .val (Lit (.string (strB (showL X))))), (3, .box 25 2 (IsArg ngx nx xx)), (6, .val (IsB false)), (1, .val (Lit (.string s))), (2, .val (Lit (.int .u8 d)))]) (nb := []) H38 (by kernel_rfl) 4 1 #[true, true, true, true, false] (by kernel_rfl) (by kernel_rfl) rfl rfl ?_ ?_
          · refine .cons (.plain rfl (ok_load tyI (.tmp 0 rfl))) ?_
            refine .cons (.plain rfl (ok_move (.tmp 0 rfl))) ?_
            refine .cons (.plain rfl (ok_call (con_from (d % 10) (by omega)) (.cons (.tmp 0 rfl) (.nil)))) ?_
            refine .cons (.plain rfl (ok_call (con_sub (X * 10) (d % 10) ((((fX.mul (FitK.small (N := 10) (by decide))).sub (FitK.i64 (N := d % 10) (by omega)))).fits (by omega))) (.cons (.weak (.tmp 0 rfl) weakIN) (.cons (.weak (.tmp 1 rfl) weakIN) (.nil))))) ?_
            exact .nil
          clear H38 a38 w38 B38
          intro a39 w39 B39 H39
          refine any_oneT (l' := #[true, true, true, true, true]) 4 (by kernel_rfl) ?_
          refine store_op (l' := [(102, .val (IsI ((X * 10) - (d % 10)))), (13, .box 25 2 (IsI ((X * 10) - (d % 10)))), (12, .val (Lit (.int .i64 (d % 10)))), (11, .val (Lit (.int .i64 i))), (10, .val (Lit (.string (strB (decL (X.natAbs : Int)))))), (8, .box 25 2 (IsI X)), (7, .val (Lit (.string (strB (showL X))))), (3, .box 25 2 (IsArg ngx nx xx)), (6, .val (IsB false)), (1, .val (Lit (.string s))), (2, .val (Lit (.int .u8 d)))]) 1 H39 rfl tyI rfl (.tmp 0 rfl) shape_I shape_I rfl rfl ?_
          clear H39 w39
          intro w40 H40
          refine any_done (by kernel_rfl) ?_
          refine then_normal ?_
          refine wp_seq ?_
          refine wp_seq ?_
          refine flow_drawT (dsts := [some 107, some 108, some 109, some 110, some 111, some 112, some 113, some 114, some 115, some 116, some 117, some 118, some 119, some 120]) (refs := [[.pre 6], [.res 0], [.res 1], [.res 2, .pre 1], [.res 2, .res 3], [.res 2, .pre 6], [.res 2, .pre 10], [.res 2, .res 6], [.res 2, .res 7], [.res 2, .res 8], [.res 2, .res 9], [.res 2, .res 5, .res 10], [.res 2, .res 4, .res 11], [.res 2, .res 12]]) (outs := [.res 13, .pre 3, .pre 4, .pre 5, .pre 6, .pre 7, .pre 8, .pre 9, .pre 10]) (als := [false, false, false, false, false, false, false, false, false, false, false, false, false, false]) (posts := [.val (Lit (.string (strB (showL X)))), .val (IsB (decide (strB (showL X) ≠ strB [48]))), .val (IsB (decide (strB (showL X) ≠ strB [48]))), .val (Grd ((decide (strB (showL X) ≠ strB [48])) == true) (IsI ((X * 10) - (d % 10)))), .val (Grd ((decide (strB (showL X) ≠ strB [48])) == true) (Lit (.string (strB (showL ((X * 10) - (d % 10))))))), .val (Grd ((decide (strB (showL X) ≠ strB [48])) == true) (Lit (.string (strB (showL X))))), .val (Grd ((decide (strB (showL X) ≠ strB [48])) == true) (Lit (.int .u8 d))), .val (Grd ((decide (strB (showL X) ≠ strB [48])) == true) (Lit (.int .u8 (d % 10)))), .val (Grd ((decide (strB (showL X) ≠ strB [48])) == true) (Lit (.int .u8 (48 + (d % 10))))), .val (Grd ((decide (strB (showL X) ≠ strB [48])) == true) (IsBy [48 + (d % 10)])), .val (Grd ((decide (strB (showL X) ≠ strB [48])) == true) (Lit (.string (strB [48 + (d % 10)])))), .val (Grd ((decide (strB (showL X) ≠ strB [48])) == true) (Lit (.string (strB (showL X) ++ strB [48 + (d % 10)])))), .val (Grd ((decide (strB (showL X) ≠ strB [48])) == true) (IsB (decide (strB (showL ((X * 10) - (d % 10))) ≠ strB (showL X) ++ strB [48 + (d % 10)])))), .val (IsB false)])
            (out := [(120, .val (IsB false)), (11, .val (Lit (.int .i64 i))), (10, .val (Lit (.string (strB (decL (X.natAbs : Int)))))), (8, .box 25 2 (IsI X)), (7, .val (Lit (.string (strB (showL X))))), (3, .box 25 2 (IsArg ngx nx xx)), (6, .val (IsB false)), (1, .val (Lit (.string s))), (2, .val (Lit (.int .u8 d)))]) (nb := []) H40 (by kernel_rfl) 14 0 #[true, true, true, true, true, true, true, true, true, true, true, true, true, true] (by kernel_rfl) (by kernel_rfl) rfl rfl ?_ ?_
          · refine .cons (.plain rfl (ok_move (.tmp 0 rfl))) ?_
            refine .cons (.plain rfl (ok_neS (.tmp 0 rfl) (.const (fun _ _ => by rfl)) rfl)) ?_
            refine .cons (.plain rfl (ok_move (.tmp 0 rfl))) ?_
            refine .cons (.sym 2 true (decide (strB (showL X) ≠ strB [48])) ((decide (strB (showL X) ≠ strB [48])) == true) rfl rfl rfl 0 (need' := [(109, .val (IsB (decide (strB (showL X) ≠ strB [48])))), (13, .box 25 2 (IsI ((X * 10) - (d % 10))))]) rfl rfl (fun a w B e h => ⟨h.1, h.2.1, trivial⟩) (fun e => ok_load tyI (.tmp 1 rfl))) ?_
            refine .cons (.sym 2 true (decide (strB (showL X) ≠ strB [48])) ((decide (strB (showL X) ≠ strB [48])) == true) rfl rfl rfl 0 (need' := [(109, .val (IsB (decide (strB (showL X) ≠ strB [48])))), (110, .val (IsI ((X * 10) - (d % 10))))]) rfl rfl (fun a w B e h => ⟨h.1, h.2.1.1 (e), trivial⟩) (fun e => ok_call (con_show ((X * 10) - (d % 10))) (.cons (.weak (.tmp 1 rfl) weakIN) (.nil)))) ?_
            refine .cons (.sym 2 true (decide (strB (showL X) ≠ strB [48])) ((decide (strB (showL X) ≠ strB [48])) == true) rfl rfl rfl 0 (need' := [(109, .val (IsB (decide (strB (showL X) ≠ strB [48])))), (7, .val (Lit (.string (strB (showL X)))))]) rfl rfl (fun a w B e h => ⟨h.1, h.2.1, trivial⟩) (fun e => ok_move (.tmp 1 rfl))) ?_
            refine .cons (.sym 2 true (decide (strB (showL X) ≠ strB [48])) ((decide (strB (showL X) ≠ strB [48])) == true) rfl rfl rfl 0 (need' := [(109, .val (IsB (decide (strB (showL X) ≠ strB [48])))), (2, .val (Lit (.int .u8 d)))]) rfl rfl (fun a w B e h => ⟨h.1, h.2.1, trivial⟩) (fun e => ok_move (.tmp 1 rfl))) ?_
            refine .cons (.sym 2 true (decide (strB (showL X) ≠ strB [48])) ((decide (strB (showL X) ≠ strB [48])) == true) rfl rfl rfl 0 (need' := [(109, .val (IsB (decide (strB (showL X) ≠ strB [48])))), (113, .val (Lit (.int .u8 d)))]) rfl rfl (fun a w B e h => ⟨h.1, h.2.1.1 (e), trivial⟩) (fun e => ok_rem (r := (d % 10)) (.tmp 1 rfl) (.lit) (by omega) (Int.tmod_eq_emod_of_nonneg (by omega)))) ?_
            refine .cons (.sym 2 true (decide (strB (showL X) ≠ strB [48])) ((decide (strB (showL X) ≠ strB [48])) == true) rfl rfl rfl 0 (need' := [(109, .val (IsB (decide (strB (showL X) ≠ strB [48])))), (114, .val (Lit (.int .u8 (d % 10))))]) rfl rfl (fun a w B e h => ⟨h.1, h.2.1.1 (e), trivial⟩) (fun e => ok_add (r := (48 + (d % 10))) (.lit) (.tmp 1 rfl) (w_u8 (by omega)))) ?_
            refine .cons (.sym 2 true (decide (strB (showL X) ≠ strB [48])) ((decide (strB (showL X) ≠ strB [48])) == true) rfl rfl rfl 0 (need' := [(109, .val (IsB (decide (strB (showL X) ≠ strB [48])))), (115, .val (Lit (.int .u8 (48 + (d % 10)))))]) rfl rfl (fun a w B e h => ⟨h.1, h.2.1.1 (e), trivial⟩) (fun e => ok_by1 (by omega) (.tmp 1 rfl))) ?_
            refine .cons (.sym 2 true (decide (strB (showL X) ≠ strB [48])) ((decide (strB (showL X) ≠ strB [48])) == true) rfl rfl rfl 0 (need' := [(109, .val (IsB (decide (strB (showL X) ≠ strB [48])))), (116, .val (IsBy [48 + (d % 10)]))]) rfl rfl (fun a w B e h => ⟨h.1, h.2.1.1 (e), trivial⟩) (fun e => ok_convBS (.tmp 1 rfl))) ?_
            refine .cons (.sym 2 true (decide (strB (showL X) ≠ strB [48])) ((decide (strB (showL X) ≠ strB [48])) == true) rfl rfl rfl 0 (need' := [(109, .val (IsB (decide (strB (showL X) ≠ strB [48])))), (112, .val (Lit (.string (strB (showL X))))), (117, .val (Lit (.string (strB [48 + (d % 10)]))))]) rfl rfl (fun a w B e h => ⟨h.1, h.2.1.1 (e), h.2.2.1.1 (e), trivial⟩) (fun e => ok_catS (v := strB (showL X) ++ strB [48 + (d % 10)]) (.tmp 1 rfl) (.tmp 2 rfl) (by rw [strB_size, strB_size]; have := showL_len X nx fX; simp; omega) (rfl))) ?_
            refine .cons (.sym 2 true (decide (strB (showL X) ≠ strB [48])) ((decide (strB (showL X) ≠ strB [48])) == true) rfl rfl rfl 0 (need' := [(109, .val (IsB (decide (strB (showL X) ≠ strB [48])))), (111, .val (Lit (.string (strB (showL ((X * 10) - (d % 10))))))), (118, .val (Lit (.string (strB (showL X) ++ strB [48 + (d % 10)]))))]) rfl rfl (fun a w B e h => ⟨h.1, h.2.1.1 (e), h.2.2.1.1 (e), trivial⟩) (fun e => ok_neS (.tmp 1 rfl) (.tmp 2 rfl) rfl)) ?_
            refine .cons (.plain rfl (OpOk.eqB (b := (decide (strB (showL X) ≠ strB [48])) && (decide (strB (showL ((X * 10) - (d % 10))) ≠ strB (showL X) ++ strB [48 + (d % 10)]))) (ok_pickS (decide (strB (showL X) ≠ strB [48])) (.tmp 0 rfl) (fun e => Opd.eqB (Opd.grd (.tmp 1 rfl) (by first | (rw [e]; rfl) | (simp only [e]; rfl) | (simp [*] at *; done))) (by rw [e]; rfl)) (fun e => Opd.eqB (.lit) (by rw [e]; rfl))) (more_text X (d % 10) (by omega) ((X * 10) - (d % 10)) (by rw [if_pos hneg])))) ?_
            exact .nil
          clear H40 a39 w40 B39
          intro a41 w41 B41 H41
          refine any_done (by kernel_rfl) ?_
          refine then_normal ?_
          refine f_condF H41 (.tmp 0 rfl) ?_
          refine wp_skip ?_
          refine then_normal ?_
          refine wp_seq ?_
          refine wp_seq ?_
          refine flow_region (dsts := [some 122, some 123, some 121, some 124, some 125, some 14]) (refs := [[.pre 7], [.res 0], [.res 1], [.res 2], [.res 2], []]) (outs := [.res 3, .res 4, .res 5, .pre 1, .pre 2, .pre 3, .pre 4, .pre 5, .pre 6, .pre 7, .pre 8]) (als := [false, false, false, false, false, true]) (posts := [.val (Lit (.string s)), .val (Tup [IsI (wreadNum (bytesI s)), IsB (wreadOk (bytesI s))]), .val (Tup [IsI (wreadNum (bytesI s)), IsB (wreadOk (bytesI s))]), .val (IsI (wreadNum (bytesI s))), .val (IsB (wreadOk (bytesI s))), .box 25 2 (Zero2)])
            (out := [(124, .val (IsI (wreadNum (bytesI s)))), (125, .val (IsB (wreadOk (bytesI s)))), (14, .box 25 2 (Zero2)), (11, .val (Lit (.int .i64 i))), (10, .val (Lit (.string (strB (decL (X.natAbs : Int)))))), (8, .box 25 2 (IsI X)), (7, .val (Lit (.string (strB (showL X))))), (3, .box 25 2 (IsArg ngx nx xx)), (6, .val (IsB false)), (1, .val (Lit (.string s))), (2, .val (Lit (.int .u8 d)))]) (nb := [14]) H41 6 [6, 7] rfl (by kernel_rfl) rfl rfl ?_ ?_
          · refine .cons (.plain rfl (ok_move (.tmp 0 rfl))) ?_
            refine .cons (.plain rfl (ok_call (con_read s (by omega)) (.cons (.tmp 0 rfl) (.nil)))) ?_
            refine .cons (.plain rfl (ok_move (.tmp 0 rfl))) ?_
            refine .cons (.plain rfl (ok_extract 0 (.tmp 0 rfl) rfl)) ?_
            refine .cons (.plain rfl (ok_extract 1 (.tmp 0 rfl) rfl)) ?_
            refine .cons (.plain rfl (ok_alloc (D := Zero2) zeroI rfl (fun _ _ => rfl))) ?_
            exact .nil
          clear H41 a41 w41 B41
          intro a42 w42 B42 H42
          simp only [List.cons_append, List.nil_append] at H42
          refine ops_one ?_
          refine store_op (l' := [(124, .val (IsI (wreadNum (bytesI s)))), (125, .val (IsB (wreadOk (bytesI s)))), (14, .box 25 2 (IsI (wreadNum (bytesI s)))), (11, .val (Lit (.int .i64 i))), (10, .val (Lit (.string (strB (decL (X.natAbs : Int)))))), (8, .box 25 2 (IsI X)), (7, .val (Lit (.string (strB (showL X))))), (3, .box 25 2 (IsArg ngx nx xx)), (6, .val (IsB false)), (1, .val (Lit (.string s))), (2, .val (Lit (.int .u8 d)))]) 2 H42 rfl tyI rfl (.tmp 0 rfl) shape_Z shape_I rfl rfl ?_
          clear H42 w42
          intro w43 H43
          refine ops_one ?_
          refine tail_op (D := .val (IsB (wreadOk (bytesI s)))) (l' := [(15, .val (IsB (wreadOk (bytesI s)))), (124, .val (IsI (wreadNum (bytesI s)))), (125, .val (IsB (wreadOk (bytesI s)))), (14, .box 25 2 (IsI (wreadNum (bytesI s)))), (11, .val (Lit (.int .i64 i))), (10, .val (Lit (.string (strB (decL (X.natAbs : Int)))))), (8, .box 25 2 (IsI X)), (7, .val (Lit (.string (strB (showL X))))), (3, .box 25 2 (IsArg ngx nx xx)), (6, .val (IsB false)), (1, .val (Lit (.string s))), (2, .val (Lit (.int .u8 d)))]) H43 rfl rfl rfl (.plain rfl (ok_assign (.tmp 1 rfl))) rfl rfl ?_
          clear H43 a42 w43 B42
          intro a44 w44 B44 H44
          refine ops_done ?_
          refine then_normal ?_
          refine wp_seq ?_
          refine flow_region (dsts := [some 126]) (refs := [[.pre 0]]) (outs := [.res 0, .pre 3, .pre 4, .pre 5, .pre 6, .pre 7, .pre 8, .pre 9, .pre 10, .pre 11]) (als := [false]) (posts := [.val (IsB (wreadOk (bytesI s)))])
            (out := [(126, .val (IsB (wreadOk (bytesI s)))), (14, .box 25 2 (IsI (wreadNum (bytesI s)))), (11, .val (Lit (.int .i64 i))), (10, .val (Lit (.string (strB (decL (X.natAbs : Int)))))), (8, .box 25 2 (IsI X)), (7, .val (Lit (.string (strB (showL X))))), (3, .box 25 2 (IsArg ngx nx xx)), (6, .val (IsB false)), (1, .val (Lit (.string s))), (2, .val (Lit (.int .u8 d)))]) (nb := []) H44 1 [] rfl (by kernel_rfl) rfl rfl ?_ ?_
          · refine .cons (.plain rfl (ok_move (.tmp 0 rfl))) ?_
            exact .nil
          clear H44 a44 w44 B44
          intro a45 w45 B45 H45
          refine ops_done ?_
          refine then_normal ?_
          refine f_cond H45 (.tmp 0 rfl) ?_ ?_
          · intro hc46
            refine wp_seq ?_
            refine flow_region (dsts := [some 127, some 128, some 129, some 130, some 131, some 132, some 133, some 134, some 135, some 136, some 137, some 6]) (refs := [[.pre 1], [.res 0], [.pre 8], [.res 1, .res 2], [.res 3], [.res 4, .pre 1], [.res 4, .res 5], [.res 4, .res 6], [.res 7], [.res 8], [.res 8, .res 9], [.res 10]]) (outs := [.res 11, .pre 2, .pre 3, .pre 4, .pre 5, .pre 6, .pre 8, .pre 9]) (als := [false, false, false, false, false, false, false, false, false, false, false, false]) (posts := [.val (IsI (wreadNum (bytesI s))), .val (Lit (.string (strB (showL (wreadNum (bytesI s)))))), .val (Lit (.string s)), .val (IsB true), .val (IsB true), .val (IsI (wreadNum (bytesI s))), .val (IsB true), .val (IsB true), .val (IsB true), .val (IsB true), .val (IsB true), .val (IsB true)])
              (out := [(6, .val (IsB true)), (11, .val (Lit (.int .i64 i))), (10, .val (Lit (.string (strB (decL (X.natAbs : Int)))))), (8, .box 25 2 (IsI X)), (7, .val (Lit (.string (strB (showL X))))), (3, .box 25 2 (IsArg ngx nx xx)), (1, .val (Lit (.string s))), (2, .val (Lit (.int .u8 d)))]) (nb := []) H45 12 [] rfl (by kernel_rfl) rfl rfl ?_ ?_
            · refine .cons (.plain rfl (ok_load tyI (.tmp 0 rfl))) ?_
              refine .cons (.plain rfl (ok_call (con_show (wreadNum (bytesI s))) (.cons (.weak (.tmp 0 rfl) weakIN) (.nil)))) ?_
              refine .cons (.plain rfl (ok_move (.tmp 0 rfl))) ?_
              refine .cons (.plain rfl (ok_eqS (b := true) (.tmp 0 rfl) (.tmp 1 rfl) ((decide_eq_true (read_show s hc46)).symm))) ?_
              refine .cons (.plain rfl (ok_move (.tmp 0 rfl))) ?_
              refine .cons (.wanted 4 true rfl rfl rfl 0 rfl (ok_load tyI (.tmp 1 rfl))) ?_
              refine .cons (.wanted 4 true rfl rfl rfl 0 rfl (ok_call (con_normal (wreadNum (bytesI s))) (.cons (.tmp 1 rfl) (.nil)))) ?_
              refine .cons (.plain rfl (ok_pickT (.tmp 0 rfl) (.tmp 1 rfl))) ?_
              refine .cons (.plain rfl (ok_move (.tmp 0 rfl))) ?_
              refine .cons (.wanted 8 true rfl rfl rfl 0 rfl (ok_call (con_lives3) (.nil))) ?_
              refine .cons (.plain rfl (ok_pickT (.tmp 0 rfl) (.tmp 1 rfl))) ?_
              refine .cons (.plain rfl (ok_assign (.tmp 0 rfl))) ?_
              exact .nil
            clear H45 a45 w45 B45
            intro a47 w47 B47 H47
            refine ops_done ?_
            refine then_normal ?_
            refine wp_ret ?_
            refine then_ret ?_
            exact f_ret H47 rfl 0 rfl (fun _ _ _ h => h)
          · intro hc46
            refine wp_skip ?_
            refine then_normal ?_
            refine wp_seq ?_
            refine flow_region (dsts := [some 138, some 6]) (refs := [[], [.res 0]]) (outs := [.res 1, .pre 2, .pre 3, .pre 4, .pre 5, .pre 6, .pre 8, .pre 9]) (als := [false, false]) (posts := [.val (IsB true), .val (IsB true)])
              (out := [(6, .val (IsB true)), (11, .val (Lit (.int .i64 i))), (10, .val (Lit (.string (strB (decL (X.natAbs : Int)))))), (8, .box 25 2 (IsI X)), (7, .val (Lit (.string (strB (showL X))))), (3, .box 25 2 (IsArg ngx nx xx)), (1, .val (Lit (.string s))), (2, .val (Lit (.int .u8 d)))]) (nb := []) H45 2 [] rfl (by kernel_rfl) rfl rfl ?_ ?_
            · refine .cons (.plain rfl (ok_call (con_lives3) (.nil))) ?_
              refine .cons (.plain rfl (ok_assign (.tmp 0 rfl))) ?_
              exact .nil
            clear H45 a45 w45 B45
            intro a48 w48 B48 H48
            refine ops_done ?_
            refine then_normal ?_
            refine wp_ret ?_
            exact f_ret H48 rfl 0 rfl (fun _ _ _ h => h)
      · intro hc24
        replace hc24 := of_decide_eq_false hc24
        have hneg : ¬ X < 0 := by have := cmp_spec X 0; omega
        refine wp_skip ?_
        refine then_normal ?_
        refine wp_seq ?_
        refine wp_seq ?_
        have H49 := St.set1 H23 1 (D' := Lit (.string (strB (decL (X.natAbs : Int))))) rfl (fun v w B h => by rw [pos_text X hneg] at h; exact h) (l' := [(49, .val (IsB (decide (cmpI X 0 < 0)))), (10, .val (Lit (.string (strB (decL (X.natAbs : Int)))))), (8, .box 25 2 (IsI X)), (7, .val (Lit (.string (strB (showL X))))), (3, .box 25 2 (IsArg ngx nx xx)), (6, .val (IsB false)), (1, .val (Lit (.string s))), (2, .val (Lit (.int .u8 d)))]) rfl
        clear H23
        refine flow_region (dsts := [some 11]) (refs := [[]]) (outs := [.res 0, .pre 1, .pre 2, .pre 3, .pre 4, .pre 5, .pre 6, .pre 7]) (als := [false]) (posts := [.val (Lit (.int .i64 0))])
          (out := [(11, .val (Lit (.int .i64 0))), (10, .val (Lit (.string (strB (decL (X.natAbs : Int)))))), (8, .box 25 2 (IsI X)), (7, .val (Lit (.string (strB (showL X))))), (3, .box 25 2 (IsArg ngx nx xx)), (6, .val (IsB false)), (1, .val (Lit (.string s))), (2, .val (Lit (.int .u8 d)))]) (nb := []) H49 1 [] rfl (by kernel_rfl) rfl rfl ?_ ?_
        · refine .cons (.plain rfl (ok_assign (.lit))) ?_
          exact .nil
        clear H49 a23 w23 B23
        intro a50 w50 B50 H50
        refine ops_done ?_
        refine then_normal ?_
        refine wp_block ?_
        refine f_loop (fun (i : Int) => [(11, .val (Lit (.int .i64 i))), (10, .val (Lit (.string (strB (decL (X.natAbs : Int)))))), (8, .box 25 2 (IsI X)), (7, .val (Lit (.string (strB (showL X))))), (3, .box 25 2 (IsArg ngx nx xx)), (6, .val (IsB false)), (1, .val (Lit (.string s))), (2, .val (Lit (.int .u8 d)))]) (fun (i : Int) => 0 ≤ i ∧ i ≤ ((decL (X.natAbs : Int)).length : Int)) (fun (i : Int) => (((decL (X.natAbs : Int)).length : Int) - i).toNat) (0) (St.pick H50 [0, 1, 2, 3, 4, 5, 6, 7] rfl) (by exact ⟨by omega, by omega⟩) ?_
        clear H50 a50 w50 B50
        intro i a51 w51 B51 hI51 H51
        replace hI51 : 0 ≤ i ∧ i ≤ ((decL (X.natAbs : Int)).length : Int) := hI51
        replace H51 : St 139 w0 B0 a51 w51 B51 [(11, .val (Lit (.int .i64 i))), (10, .val (Lit (.string (strB (decL (X.natAbs : Int)))))), (8, .box 25 2 (IsI X)), (7, .val (Lit (.string (strB (showL X))))), (3, .box 25 2 (IsArg ngx nx xx)), (6, .val (IsB false)), (1, .val (Lit (.string s))), (2, .val (Lit (.int .u8 d)))] [8, 3] := H51
        refine wp_seq ?_
        refine wp_seq ?_
        refine flow_region (dsts := [some 60, some 61, some 62, some 63]) (refs := [[.pre 0], [.pre 1], [.res 1], [.res 0, .res 2]]) (outs := [.res 3, .pre 0, .pre 1, .pre 2, .pre 3, .pre 4, .pre 5, .pre 6, .pre 7]) (als := [false, false, false, false]) (posts := [.val (Lit (.int .i64 i)), .val (Lit (.string (strB (decL (X.natAbs : Int))))), .val (Lit (.int .i64 ((strB (decL (X.natAbs : Int))).size : Int))), .val (IsB (decide (i < ((strB (decL (X.natAbs : Int))).size : Int))))])
          (out := [(63, .val (IsB (decide (i < ((strB (decL (X.natAbs : Int))).size : Int))))), (11, .val (Lit (.int .i64 i))), (10, .val (Lit (.string (strB (decL (X.natAbs : Int)))))), (8, .box 25 2 (IsI X)), (7, .val (Lit (.string (strB (showL X))))), (3, .box 25 2 (IsArg ngx nx xx)), (6, .val (IsB false)), (1, .val (Lit (.string s))), (2, .val (Lit (.int .u8 d)))]) (nb := []) H51 4 [] rfl (by kernel_rfl) rfl rfl ?_ ?_
        · refine .cons (.plain rfl (ok_move (.tmp 0 rfl))) ?_
          refine .cons (.plain rfl (ok_move (.tmp 0 rfl))) ?_
          refine .cons (.plain rfl (ok_lenS Try.underlying9 (.tmp 0 rfl))) ?_
          refine .cons (.plain rfl (ok_cmp (.tmp 0 rfl) (.tmp 1 rfl) rfl)) ?_
          exact .nil
        clear H51 a51 w51 B51
        intro a52 w52 B52 H52
        refine ops_done ?_
        refine then_normal ?_
        refine f_cond H52 (.tmp 0 rfl) ?_ ?_
        · intro hc53
          replace hc53 := of_decide_eq_true hc53
          rw [strB_size] at hc53
          refine wp_skip ?_
          refine then_normal ?_
          refine wp_seq ?_
          refine wp_block ?_
          refine wp_seq ?_
          refine flow_region (dsts := [some 66, some 67, some 68, some 69, some 70, some 71, some 72, some 73, some 74, some 75, some 76, some 77, some 78, some 79, some 80, some 81, some 82, some 83, some 84, some 85, some 86, some 87, some 88]) (refs := [[.pre 2], [.pre 1], [.res 0, .res 1], [.res 2], [.res 3], [.res 4, .pre 2], [.res 4, .pre 1], [.res 4, .res 5, .res 6], [.res 4, .res 7], [.res 4, .res 8], [.res 9], [.res 10, .pre 1], [.res 10, .res 11], [.res 10, .res 12], [.res 13, .pre 2], [.res 13, .res 14], [.res 13, .res 15], [.res 10, .res 13, .res 16], [.res 10, .res 17], [.res 18, .pre 4], [.res 18, .res 19], [.res 10, .res 18, .res 20], [.res 10, .res 21]]) (outs := [.res 22, .pre 1, .pre 2, .pre 3, .pre 4, .pre 5, .pre 6, .pre 7, .pre 8]) (als := [false, false, false, false, false, false, false, false, false, false, false, false, false, false, false, false, false, false, false, false, false, false, false]) (posts := [.val (Lit (.string (strB (decL (X.natAbs : Int))))), .val (Lit (.int .i64 i)), .val (Lit (.int .u8 ((decL (X.natAbs : Int))[i.toNat]?.getD 0))), .val (IsB false), .val (IsB false), .val (Lit (.string (strB (decL (X.natAbs : Int))))), .val (Lit (.int .i64 i)), .val (Lit (.int .u8 ((decL (X.natAbs : Int))[i.toNat]?.getD 0))), .val (IsB false), .val (IsB false), .val (IsB false), .val (Lit (.int .i64 i)), .val (IsB (decide (i = 0))), .val (IsB (decide (i = 0))), .val (Grd ((decide (i = 0)) == true) (Lit (.string (strB (decL (X.natAbs : Int)))))), .val (Grd ((decide (i = 0)) == true) (Lit (.int .u8 ((decL (X.natAbs : Int))[0]?.getD 0)))), .val (Grd ((decide (i = 0)) == true) (IsB (decide ((decL (X.natAbs : Int))[0]?.getD 0 = 48)))), .val (IsB ((decide (i = 0)) && (decide ((decL (X.natAbs : Int))[0]?.getD 0 = 48)))), .val (IsB ((decide (i = 0)) && (decide ((decL (X.natAbs : Int))[0]?.getD 0 = 48)))), .val (Grd (((decide (i = 0)) && (decide ((decL (X.natAbs : Int))[0]?.getD 0 = 48))) == true) (Lit (.string (strB (showL X))))), .val (Grd (((decide (i = 0)) && (decide ((decL (X.natAbs : Int))[0]?.getD 0 = 48))) == true) (IsB (decide (strB (showL X) ≠ strB [48])))), .val (IsB false), .val (IsB false)])
            (out := [(88, .val (IsB false)), (11, .val (Lit (.int .i64 i))), (10, .val (Lit (.string (strB (decL (X.natAbs : Int)))))), (8, .box 25 2 (IsI X)), (7, .val (Lit (.string (strB (showL X))))), (3, .box 25 2 (IsArg ngx nx xx)), (6, .val (IsB false)), (1, .val (Lit (.string s))), (2, .val (Lit (.int .u8 d)))]) (nb := []) H52 23 [] rfl (by kernel_rfl) rfl rfl ?_ ?_
          · refine .cons (.plain rfl (ok_move (.tmp 0 rfl))) ?_
            refine .cons (.plain rfl (ok_move (.tmp 0 rfl))) ?_
            refine .cons (.plain rfl (ok_indexS (n := i.toNat) (c := ((decL (X.natAbs : Int))[i.toNat]?.getD 0)) Try.underlying9 (.tmp 0 rfl) (.tmp 1 rfl) (by omega) (strB_at (decL_dig _) i.toNat (by omega)))) ?_
            refine .cons (.plain rfl (ok_cmp (b := false) (.tmp 0 rfl) (.lit) ((decide_eq_false (by have := (decL_decs (X.natAbs : Int)).get (i := i.toNat) (by omega); omega)).symm))) ?_
            refine .cons (.plain rfl (ok_move (.tmp 0 rfl))) ?_
            refine .cons (.wanted 4 false rfl rfl rfl 0 rfl (ok_move (.tmp 1 rfl))) ?_
            refine .cons (.wanted 4 false rfl rfl rfl 0 rfl (ok_move (.tmp 1 rfl))) ?_
            refine .cons (.wanted 4 false rfl rfl rfl 0 rfl (ok_indexS (n := i.toNat) (c := ((decL (X.natAbs : Int))[i.toNat]?.getD 0)) Try.underlying9 (.tmp 1 rfl) (.tmp 2 rfl) (by omega) (strB_at (decL_dig _) i.toNat (by omega)))) ?_
            refine .cons (.wanted 4 false rfl rfl rfl 0 rfl (ok_cmp (b := false) (.tmp 1 rfl) (.lit) ((decide_eq_false (by have := (decL_decs (X.natAbs : Int)).get (i := i.toNat) (by omega); omega)).symm))) ?_
            refine .cons (.plain rfl (ok_pickF (.tmp 0 rfl) (.tmp 1 rfl))) ?_
            refine .cons (.plain rfl (ok_move (.tmp 0 rfl))) ?_
            refine .cons (.wanted 10 false rfl rfl rfl 0 rfl (ok_move (.tmp 1 rfl))) ?_
            refine .cons (.wanted 10 false rfl rfl rfl 0 rfl (ok_cmp (.tmp 1 rfl) (.lit) rfl)) ?_
            refine .cons (.wanted 10 false rfl rfl rfl 0 rfl (ok_move (.tmp 1 rfl))) ?_
            refine .cons (.sym 13 true (decide (i = 0)) ((decide (i = 0)) == true) rfl rfl rfl 0 (need' := [(79, .val (IsB (decide (i = 0)))), (10, .val (Lit (.string (strB (decL (X.natAbs : Int))))))]) rfl rfl (fun a w B e h => ⟨h.1, h.2.1, trivial⟩) (fun e => ok_move (.tmp 1 rfl))) ?_
            refine .cons (.sym 13 true (decide (i = 0)) ((decide (i = 0)) == true) rfl rfl rfl 0 (need' := [(79, .val (IsB (decide (i = 0)))), (80, .val (Lit (.string (strB (decL (X.natAbs : Int))))))]) rfl rfl (fun a w B e h => ⟨h.1, h.2.1.1 (e), trivial⟩) (fun e => ok_indexS (n := 0) (c := ((decL (X.natAbs : Int))[0]?.getD 0)) Try.underlying9 (.tmp 1 rfl) (.lit) (rfl) (strB_at (decL_dig _) 0 (by omega)))) ?_
            refine .cons (.sym 13 true (decide (i = 0)) ((decide (i = 0)) == true) rfl rfl rfl 0 (need' := [(79, .val (IsB (decide (i = 0)))), (81, .val (Lit (.int .u8 ((decL (X.natAbs : Int))[0]?.getD 0))))]) rfl rfl (fun a w B e h => ⟨h.1, h.2.1.1 (e), trivial⟩) (fun e => ok_cmp (.tmp 1 rfl) (.lit) rfl)) ?_
            refine .cons (.wanted 10 false rfl rfl rfl 0 rfl (ok_pickS (decide (i = 0)) (.tmp 1 rfl) (fun e => Opd.eqB (Opd.grd (.tmp 2 rfl) (by first | (rw [e]; rfl) | (simp only [e]; rfl) | (simp [*] at *; done))) (by rw [e]; rfl)) (fun e => Opd.eqB (.lit) (by rw [e]; rfl)))) ?_
            refine .cons (.wanted 10 false rfl rfl rfl 0 rfl (ok_move (.tmp 1 rfl))) ?_
            refine .cons (.sym 18 true ((decide (i = 0)) && (decide ((decL (X.natAbs : Int))[0]?.getD 0 = 48))) (((decide (i = 0)) && (decide ((decL (X.natAbs : Int))[0]?.getD 0 = 48))) == true) rfl rfl rfl 0 (need' := [(84, .val (IsB ((decide (i = 0)) && (decide ((decL (X.natAbs : Int))[0]?.getD 0 = 48))))), (7, .val (Lit (.string (strB (showL X)))))]) rfl rfl (fun a w B e h => ⟨h.1, h.2.1, trivial⟩) (fun e => ok_move (.tmp 1 rfl))) ?_
            refine .cons (.sym 18 true ((decide (i = 0)) && (decide ((decL (X.natAbs : Int))[0]?.getD 0 = 48))) (((decide (i = 0)) && (decide ((decL (X.natAbs : Int))[0]?.getD 0 = 48))) == true) rfl rfl rfl 0 (need' := [(84, .val (IsB ((decide (i = 0)) && (decide ((decL (X.natAbs : Int))[0]?.getD 0 = 48))))), (85, .val (Lit (.string (strB (showL X)))))]) rfl rfl (fun a w B e h => ⟨h.1, h.2.1.1 (e), trivial⟩) (fun e => ok_neS (.tmp 1 rfl) (.const (fun _ _ => by rfl)) rfl)) ?_
            refine .cons (.wanted 10 false rfl rfl rfl 0 rfl (OpOk.eqB (b := ((decide (i = 0)) && (decide ((decL (X.natAbs : Int))[0]?.getD 0 = 48))) && (decide (strB (showL X) ≠ strB [48]))) (ok_pickS ((decide (i = 0)) && (decide ((decL (X.natAbs : Int))[0]?.getD 0 = 48))) (.tmp 1 rfl) (fun e => Opd.eqB (Opd.grd (.tmp 2 rfl) (by first | (rw [e]; rfl) | (simp only [e]; rfl) | (simp [*] at *; done))) (by rw [e]; rfl)) (fun e => Opd.eqB (.lit) (by rw [e]; rfl))) (zero_only X i))) ?_
            refine .cons (.plain rfl (ok_pickF (.tmp 0 rfl) (.tmp 1 rfl))) ?_
            exact .nil
          clear H52 a52 w52 B52
          intro a54 w54 B54 H54
          refine ops_done ?_
          refine then_normal ?_
          refine f_condF H54 (.tmp 0 rfl) ?_
          refine wp_skip ?_
          refine block_normal ?_
          refine then_normal ?_
          refine flow_region (dsts := [some 64, some 65]) (refs := [[.pre 1], [.res 0]]) (outs := [.res 1, .pre 1, .pre 2, .pre 3, .pre 4, .pre 5, .pre 6, .pre 7, .pre 8]) (als := [false, false]) (posts := [.val (Lit (.int .i64 i)), .val (Lit (.int .i64 (i + 1)))])
            (out := [(65, .val (Lit (.int .i64 (i + 1)))), (11, .val (Lit (.int .i64 i))), (10, .val (Lit (.string (strB (decL (X.natAbs : Int)))))), (8, .box 25 2 (IsI X)), (7, .val (Lit (.string (strB (showL X))))), (3, .box 25 2 (IsArg ngx nx xx)), (6, .val (IsB false)), (1, .val (Lit (.string s))), (2, .val (Lit (.int .u8 d)))]) (nb := []) H54 2 [2] rfl (by kernel_rfl) rfl rfl ?_ ?_
          · refine .cons (.plain rfl (ok_move (.tmp 0 rfl))) ?_
            refine .cons (.plain rfl (ok_add (r := (i + 1)) (.tmp 0 rfl) (.lit) (w_i64 (by omega)))) ?_
            exact .nil
          clear H54 a54 w54 B54
          intro a55 w55 B55 H55
          refine ops_one ?_
          refine tail_op (D := .val (Lit (.int .i64 (i + 1)))) (l' := [(11, .val (Lit (.int .i64 (i + 1)))), (65, .val (Lit (.int .i64 (i + 1)))), (10, .val (Lit (.string (strB (decL (X.natAbs : Int)))))), (8, .box 25 2 (IsI X)), (7, .val (Lit (.string (strB (showL X))))), (3, .box 25 2 (IsArg ngx nx xx)), (6, .val (IsB false)), (1, .val (Lit (.string s))), (2, .val (Lit (.int .u8 d)))]) H55 rfl rfl rfl (.plain rfl (ok_assign (.tmp 0 rfl))) rfl rfl ?_
          clear H55 a55 w55 B55
          intro a56 w56 B56 H56
          refine ops_done ?_
          exact ⟨i + 1, B56, by exact ⟨by omega, by omega⟩, St.pick H56 [0, 2, 3, 4, 5, 6, 7, 8] rfl, by omega⟩
        · intro hc53
          replace hc53 := of_decide_eq_false hc53
          rw [strB_size] at hc53
          refine wp_exit ?_
          refine then_exit ?_
          refine then_exit ?_
          refine block_exit ?_
          refine then_normal ?_
          refine wp_seq ?_
          refine flow_region (dsts := [some 89, some 90, some 91, some 12]) (refs := [[.pre 8], [.res 0], [.res 1], [.res 2]]) (outs := [.res 3, .pre 1, .pre 2, .pre 3, .pre 4, .pre 5, .pre 6, .pre 7, .pre 8]) (als := [false, false, false, false]) (posts := [.val (Lit (.int .u8 d)), .val (Lit (.int .u8 (d % 10))), .val (Lit (.int .i64 (d % 10))), .val (Lit (.int .i64 (d % 10)))])
            (out := [(12, .val (Lit (.int .i64 (d % 10)))), (11, .val (Lit (.int .i64 i))), (10, .val (Lit (.string (strB (decL (X.natAbs : Int)))))), (8, .box 25 2 (IsI X)), (7, .val (Lit (.string (strB (showL X))))), (3, .box 25 2 (IsArg ngx nx xx)), (6, .val (IsB false)), (1, .val (Lit (.string s))), (2, .val (Lit (.int .u8 d)))]) (nb := []) H52 4 [] rfl (by kernel_rfl) rfl rfl ?_ ?_
          · refine .cons (.plain rfl (ok_move (.tmp 0 rfl))) ?_
            refine .cons (.plain rfl (ok_rem (r := (d % 10)) (.tmp 0 rfl) (.lit) (by omega) (Int.tmod_eq_emod_of_nonneg (by omega)))) ?_
            refine .cons (.plain rfl (ok_conv Try.underlying5 Try.underlying2 (r := (d % 10)) (.tmp 0 rfl) (w_i64 (by omega)))) ?_
            refine .cons (.plain rfl (ok_assign (.tmp 0 rfl))) ?_
            exact .nil
          clear H52 a52 w52 B52
          intro a57 w57 B57 H57
          refine ops_done ?_
          refine then_normal ?_
          refine wp_seq ?_
          refine flow_drawT (dsts := [some 92, some 93, some 94, some 13]) (refs := [[.pre 3], [], [.res 0, .res 1], []]) (outs := [.res 2, .res 3, .pre 0, .pre 1, .pre 2, .pre 3, .pre 4, .pre 5, .pre 6, .pre 7, .pre 8]) (als := [false, false, false, true]) (posts := [.val (IsI X), .val (IsI 10), .val (IsI (X * 10)), .box 25 2 (Zero2)])
            (out := [(94, .val (IsI (X * 10))), (13, .box 25 2 (Zero2)), (12, .val (Lit (.int .i64 (d % 10)))), (11, .val (Lit (.int .i64 i))), (10, .val (Lit (.string (strB (decL (X.natAbs : Int)))))), (8, .box 25 2 (IsI X)), (7, .val (Lit (.string (strB (showL X))))), (3, .box 25 2 (IsArg ngx nx xx)), (6, .val (IsB false)), (1, .val (Lit (.string s))), (2, .val (Lit (.int .u8 d)))]) (nb := [13]) H57 (by kernel_rfl) 4 1 #[true, true, true, true, false] (by kernel_rfl) (by kernel_rfl) rfl rfl ?_ ?_
          · refine .cons (.plain rfl (ok_load tyI (.tmp 0 rfl))) ?_
            refine .cons (.plain rfl (ok_call (con_from 10 (by omega)) (.cons (.lit) (.nil)))) ?_
            refine .cons (.plain rfl (ok_call (con_mul X 10 (((fX.mul (FitK.small (N := 10) (by decide)))).fits (by omega))) (.cons (.weak (.tmp 0 rfl) weakIN) (.cons (.weak (.tmp 1 rfl) weakIN) (.nil))))) ?_
            refine .cons (.plain rfl (ok_alloc (D := Zero2) zeroI rfl (fun _ _ => rfl))) ?_
            exact .nil
          clear H57 a57 w57 B57
          intro a58 w58 B58 H58
          simp only [List.cons_append, List.nil_append] at H58
          refine any_oneT (l' := #[true, true, true, true, true]) 4 (by kernel_rfl) ?_
          refine store_op (l' := [(94, .val (IsI (X * 10))), (13, .box 25 2 (IsI (X * 10))), (12, .val (Lit (.int .i64 (d % 10)))), (11, .val (Lit (.int .i64 i))), (10, .val (Lit (.string (strB (decL (X.natAbs : Int)))))), (8, .box 25 2 (IsI X)), (7, .val (Lit (.string (strB (showL X))))), (3, .box 25 2 (IsArg ngx nx xx)), (6, .val (IsB false)), (1, .val (Lit (.string s))), (2, .val (Lit (.int .u8 d)))]) 1 H58 rfl tyI rfl (.tmp 0 rfl) shape_Z shape_I rfl rfl ?_
          clear H58 w58
          intro w59 H59
          refine any_done (by kernel_rfl) ?_
          refine then_normal ?_
          refine wp_seq ?_
          refine wp_seq ?_
          refine flow_drawT (dsts := [some 95, some 96, some 97, some 98]) (refs := [[.pre 7], [], [.res 0, .res 1], [.res 2]]) (outs := [.res 3, .pre 1, .pre 2, .pre 3, .pre 4, .pre 5, .pre 6, .pre 7, .pre 8, .pre 9, .pre 10]) (als := [false, false, false, false]) (posts := [.val (IsArg ngx nx xx), .val (IsI 0), .val (Lit (.int .i64 (cmpI X 0))), .val (IsB false)])
            (out := [(98, .val (IsB false)), (13, .box 25 2 (IsI (X * 10))), (12, .val (Lit (.int .i64 (d % 10)))), (11, .val (Lit (.int .i64 i))), (10, .val (Lit (.string (strB (decL (X.natAbs : Int)))))), (8, .box 25 2 (IsI X)), (7, .val (Lit (.string (strB (showL X))))), (3, .box 25 2 (IsArg ngx nx xx)), (6, .val (IsB false)), (1, .val (Lit (.string s))), (2, .val (Lit (.int .u8 d)))]) (nb := []) H59 (by kernel_rfl) 4 0 #[true, true, true, true] (by kernel_rfl) (by kernel_rfl) rfl rfl ?_ ?_
          · refine .cons (.plain rfl (ok_load tyI (.tmp 0 rfl))) ?_
            refine .cons (.plain rfl (ok_call (con_from 0 (by omega)) (.cons (.lit) (.nil)))) ?_
            refine .cons (.plain rfl (ok_call (con_cmp X 0) (.cons (.weak (.tmp 0 rfl) (weakAN (by omega) hX)) (.cons (.weak (.tmp 1 rfl) weakIN) (.nil))))) ?_
            refine .cons (.plain rfl (ok_cmp (b := false) (.tmp 0 rfl) (.lit) ((decide_eq_false (hc24)).symm))) ?_
            exact .nil
          clear H59 a58 w59 B58
          intro a60 w60 B60 H60
          refine any_done (by kernel_rfl) ?_
          refine then_normal ?_
          refine f_condF H60 (.tmp 0 rfl) ?_
          refine flow_drawT (dsts := [some 103, some 104, some 105, some 106]) (refs := [[.pre 1], [.pre 2], [.res 1], [.res 0, .res 2]]) (outs := [.res 3, .pre 1, .pre 3, .pre 4, .pre 5, .pre 6, .pre 7, .pre 8, .pre 9, .pre 10]) (als := [false, false, false, false]) (posts := [.val (IsI (X * 10)), .val (Lit (.int .i64 (d % 10))), .val (IsI (d % 10)), .val (IsI ((X * 10) + (d % 10)))])
            (out := [(106, .val (IsI ((X * 10) + (d % 10)))), (13, .box 25 2 (IsI (X * 10))), (11, .val (Lit (.int .i64 i))), (10, .val (Lit (.string (strB (decL (X.natAbs : Int)))))), (8, .box 25 2 (IsI X)), (7, .val (Lit (.string (strB (showL X))))), (3, .box 25 2 (IsArg ngx nx xx)), (6, .val (IsB false)), (1, .val (Lit (.string s))), (2, .val (Lit (.int .u8 d)))]) (nb := []) H60 (by kernel_rfl) 4 1 #[true, true, true, true, false] (by kernel_rfl) (by kernel_rfl) rfl rfl ?_ ?_
          · refine .cons (.plain rfl (ok_load tyI (.tmp 0 rfl))) ?_
            refine .cons (.plain rfl (ok_move (.tmp 0 rfl))) ?_
            refine .cons (.plain rfl (ok_call (con_from (d % 10) (by omega)) (.cons (.tmp 0 rfl) (.nil)))) ?_
            refine .cons (.plain rfl (ok_call (con_add (X * 10) (d % 10) ((((fX.mul (FitK.small (N := 10) (by decide))).add (FitK.i64 (N := d % 10) (by omega)))).fits (by omega))) (.cons (.weak (.tmp 0 rfl) weakIN) (.cons (.weak (.tmp 1 rfl) weakIN) (.nil))))) ?_
            exact .nil
          clear H60 a60 w60 B60
          intro a61 w61 B61 H61
          refine any_oneT (l' := #[true, true, true, true, true]) 4 (by kernel_rfl) ?_
          refine store_op (l' := [(106, .val (IsI ((X * 10) + (d % 10)))), (13, .box 25 2 (IsI ((X * 10) + (d % 10)))), (11, .val (Lit (.int .i64 i))), (10, .val (Lit (.string (strB (decL (X.natAbs : Int)))))), (8, .box 25 2 (IsI X)), (7, .val (Lit (.string (strB (showL X))))), (3, .box 25 2 (IsArg ngx nx xx)), (6, .val (IsB false)), (1, .val (Lit (.string s))), (2, .val (Lit (.int .u8 d)))]) 1 H61 rfl tyI rfl (.tmp 0 rfl) shape_I shape_I rfl rfl ?_
          clear H61 w61
          intro w62 H62
          refine any_done (by kernel_rfl) ?_
          refine then_normal ?_
          refine wp_seq ?_
          refine wp_seq ?_
          refine flow_drawT (dsts := [some 107, some 108, some 109, some 110, some 111, some 112, some 113, some 114, some 115, some 116, some 117, some 118, some 119, some 120]) (refs := [[.pre 5], [.res 0], [.res 1], [.res 2, .pre 1], [.res 2, .res 3], [.res 2, .pre 5], [.res 2, .pre 9], [.res 2, .res 6], [.res 2, .res 7], [.res 2, .res 8], [.res 2, .res 9], [.res 2, .res 5, .res 10], [.res 2, .res 4, .res 11], [.res 2, .res 12]]) (outs := [.res 13, .pre 2, .pre 3, .pre 4, .pre 5, .pre 6, .pre 7, .pre 8, .pre 9]) (als := [false, false, false, false, false, false, false, false, false, false, false, false, false, false]) (posts := [.val (Lit (.string (strB (showL X)))), .val (IsB (decide (strB (showL X) ≠ strB [48]))), .val (IsB (decide (strB (showL X) ≠ strB [48]))), .val (Grd ((decide (strB (showL X) ≠ strB [48])) == true) (IsI ((X * 10) + (d % 10)))), .val (Grd ((decide (strB (showL X) ≠ strB [48])) == true) (Lit (.string (strB (showL ((X * 10) + (d % 10))))))), .val (Grd ((decide (strB (showL X) ≠ strB [48])) == true) (Lit (.string (strB (showL X))))), .val (Grd ((decide (strB (showL X) ≠ strB [48])) == true) (Lit (.int .u8 d))), .val (Grd ((decide (strB (showL X) ≠ strB [48])) == true) (Lit (.int .u8 (d % 10)))), .val (Grd ((decide (strB (showL X) ≠ strB [48])) == true) (Lit (.int .u8 (48 + (d % 10))))), .val (Grd ((decide (strB (showL X) ≠ strB [48])) == true) (IsBy [48 + (d % 10)])), .val (Grd ((decide (strB (showL X) ≠ strB [48])) == true) (Lit (.string (strB [48 + (d % 10)])))), .val (Grd ((decide (strB (showL X) ≠ strB [48])) == true) (Lit (.string (strB (showL X) ++ strB [48 + (d % 10)])))), .val (Grd ((decide (strB (showL X) ≠ strB [48])) == true) (IsB (decide (strB (showL ((X * 10) + (d % 10))) ≠ strB (showL X) ++ strB [48 + (d % 10)])))), .val (IsB false)])
            (out := [(120, .val (IsB false)), (11, .val (Lit (.int .i64 i))), (10, .val (Lit (.string (strB (decL (X.natAbs : Int)))))), (8, .box 25 2 (IsI X)), (7, .val (Lit (.string (strB (showL X))))), (3, .box 25 2 (IsArg ngx nx xx)), (6, .val (IsB false)), (1, .val (Lit (.string s))), (2, .val (Lit (.int .u8 d)))]) (nb := []) H62 (by kernel_rfl) 14 0 #[true, true, true, true, true, true, true, true, true, true, true, true, true, true] (by kernel_rfl) (by kernel_rfl) rfl rfl ?_ ?_
          · refine .cons (.plain rfl (ok_move (.tmp 0 rfl))) ?_
            refine .cons (.plain rfl (ok_neS (.tmp 0 rfl) (.const (fun _ _ => by rfl)) rfl)) ?_
            refine .cons (.plain rfl (ok_move (.tmp 0 rfl))) ?_
            refine .cons (.sym 2 true (decide (strB (showL X) ≠ strB [48])) ((decide (strB (showL X) ≠ strB [48])) == true) rfl rfl rfl 0 (need' := [(109, .val (IsB (decide (strB (showL X) ≠ strB [48])))), (13, .box 25 2 (IsI ((X * 10) + (d % 10))))]) rfl rfl (fun a w B e h => ⟨h.1, h.2.1, trivial⟩) (fun e => ok_load tyI (.tmp 1 rfl))) ?_
            refine .cons (.sym 2 true (decide (strB (showL X) ≠ strB [48])) ((decide (strB (showL X) ≠ strB [48])) == true) rfl rfl rfl 0 (need' := [(109, .val (IsB (decide (strB (showL X) ≠ strB [48])))), (110, .val (IsI ((X * 10) + (d % 10))))]) rfl rfl (fun a w B e h => ⟨h.1, h.2.1.1 (e), trivial⟩) (fun e => ok_call (con_show ((X * 10) + (d % 10))) (.cons (.weak (.tmp 1 rfl) weakIN) (.nil)))) ?_
            refine .cons (.sym 2 true (decide (strB (showL X) ≠ strB [48])) ((decide (strB (showL X) ≠ strB [48])) == true) rfl rfl rfl 0 (need' := [(109, .val (IsB (decide (strB (showL X) ≠ strB [48])))), (7, .val (Lit (.string (strB (showL X)))))]) rfl rfl (fun a w B e h => ⟨h.1, h.2.1, trivial⟩) (fun e => ok_move (.tmp 1 rfl))) ?_
            refine .cons (.sym 2 true (decide (strB (showL X) ≠ strB [48])) ((decide (strB (showL X) ≠ strB [48])) == true) rfl rfl rfl 0 (need' := [(109, .val (IsB (decide (strB (showL X) ≠ strB [48])))), (2, .val (Lit (.int .u8 d)))]) rfl rfl (fun a w B e h => ⟨h.1, h.2.1, trivial⟩) (fun e => ok_move (.tmp 1 rfl))) ?_
            refine .cons (.sym 2 true (decide (strB (showL X) ≠ strB [48])) ((decide (strB (showL X) ≠ strB [48])) == true) rfl rfl rfl 0 (need' := [(109, .val (IsB (decide (strB (showL X) ≠ strB [48])))), (113, .val (Lit (.int .u8 d)))]) rfl rfl (fun a w B e h => ⟨h.1, h.2.1.1 (e), trivial⟩) (fun e => ok_rem (r := (d % 10)) (.tmp 1 rfl) (.lit) (by omega) (Int.tmod_eq_emod_of_nonneg (by omega)))) ?_
            refine .cons (.sym 2 true (decide (strB (showL X) ≠ strB [48])) ((decide (strB (showL X) ≠ strB [48])) == true) rfl rfl rfl 0 (need' := [(109, .val (IsB (decide (strB (showL X) ≠ strB [48])))), (114, .val (Lit (.int .u8 (d % 10))))]) rfl rfl (fun a w B e h => ⟨h.1, h.2.1.1 (e), trivial⟩) (fun e => ok_add (r := (48 + (d % 10))) (.lit) (.tmp 1 rfl) (w_u8 (by omega)))) ?_
            refine .cons (.sym 2 true (decide (strB (showL X) ≠ strB [48])) ((decide (strB (showL X) ≠ strB [48])) == true) rfl rfl rfl 0 (need' := [(109, .val (IsB (decide (strB (showL X) ≠ strB [48])))), (115, .val (Lit (.int .u8 (48 + (d % 10)))))]) rfl rfl (fun a w B e h => ⟨h.1, h.2.1.1 (e), trivial⟩) (fun e => ok_by1 (by omega) (.tmp 1 rfl))) ?_
            refine .cons (.sym 2 true (decide (strB (showL X) ≠ strB [48])) ((decide (strB (showL X) ≠ strB [48])) == true) rfl rfl rfl 0 (need' := [(109, .val (IsB (decide (strB (showL X) ≠ strB [48])))), (116, .val (IsBy [48 + (d % 10)]))]) rfl rfl (fun a w B e h => ⟨h.1, h.2.1.1 (e), trivial⟩) (fun e => ok_convBS (.tmp 1 rfl))) ?_
            refine .cons (.sym 2 true (decide (strB (showL X) ≠ strB [48])) ((decide (strB (showL X) ≠ strB [48])) == true) rfl rfl rfl 0 (need' := [(109, .val (IsB (decide (strB (showL X) ≠ strB [48])))), (112, .val (Lit (.string (strB (showL X))))), (117, .val (Lit (.string (strB [48 + (d % 10)]))))]) rfl rfl (fun a w B e h => ⟨h.1, h.2.1.1 (e), h.2.2.1.1 (e), trivial⟩) (fun e => ok_catS (v := strB (showL X) ++ strB [48 + (d % 10)]) (.tmp 1 rfl) (.tmp 2 rfl) (by rw [strB_size, strB_size]; have := showL_len X nx fX; simp; omega) (rfl))) ?_
            refine .cons (.sym 2 true (decide (strB (showL X) ≠ strB [48])) ((decide (strB (showL X) ≠ strB [48])) == true) rfl rfl rfl 0 (need' := [(109, .val (IsB (decide (strB (showL X) ≠ strB [48])))), (111, .val (Lit (.string (strB (showL ((X * 10) + (d % 10))))))), (118, .val (Lit (.string (strB (showL X) ++ strB [48 + (d % 10)]))))]) rfl rfl (fun a w B e h => ⟨h.1, h.2.1.1 (e), h.2.2.1.1 (e), trivial⟩) (fun e => ok_neS (.tmp 1 rfl) (.tmp 2 rfl) rfl)) ?_
            refine .cons (.plain rfl (OpOk.eqB (b := (decide (strB (showL X) ≠ strB [48])) && (decide (strB (showL ((X * 10) + (d % 10))) ≠ strB (showL X) ++ strB [48 + (d % 10)]))) (ok_pickS (decide (strB (showL X) ≠ strB [48])) (.tmp 0 rfl) (fun e => Opd.eqB (Opd.grd (.tmp 1 rfl) (by first | (rw [e]; rfl) | (simp only [e]; rfl) | (simp [*] at *; done))) (by rw [e]; rfl)) (fun e => Opd.eqB (.lit) (by rw [e]; rfl))) (more_text X (d % 10) (by omega) ((X * 10) + (d % 10)) (by rw [if_neg hneg])))) ?_
            exact .nil
          clear H62 a61 w62 B61
          intro a63 w63 B63 H63
          refine any_done (by kernel_rfl) ?_
          refine then_normal ?_
          refine f_condF H63 (.tmp 0 rfl) ?_
          refine wp_skip ?_
          refine then_normal ?_
          refine wp_seq ?_
          refine wp_seq ?_
          refine flow_region (dsts := [some 122, some 123, some 121, some 124, some 125, some 14]) (refs := [[.pre 7], [.res 0], [.res 1], [.res 2], [.res 2], []]) (outs := [.res 3, .res 4, .res 5, .pre 1, .pre 2, .pre 3, .pre 4, .pre 5, .pre 6, .pre 7, .pre 8]) (als := [false, false, false, false, false, true]) (posts := [.val (Lit (.string s)), .val (Tup [IsI (wreadNum (bytesI s)), IsB (wreadOk (bytesI s))]), .val (Tup [IsI (wreadNum (bytesI s)), IsB (wreadOk (bytesI s))]), .val (IsI (wreadNum (bytesI s))), .val (IsB (wreadOk (bytesI s))), .box 25 2 (Zero2)])
            (out := [(124, .val (IsI (wreadNum (bytesI s)))), (125, .val (IsB (wreadOk (bytesI s)))), (14, .box 25 2 (Zero2)), (11, .val (Lit (.int .i64 i))), (10, .val (Lit (.string (strB (decL (X.natAbs : Int)))))), (8, .box 25 2 (IsI X)), (7, .val (Lit (.string (strB (showL X))))), (3, .box 25 2 (IsArg ngx nx xx)), (6, .val (IsB false)), (1, .val (Lit (.string s))), (2, .val (Lit (.int .u8 d)))]) (nb := [14]) H63 6 [6, 7] rfl (by kernel_rfl) rfl rfl ?_ ?_
          · refine .cons (.plain rfl (ok_move (.tmp 0 rfl))) ?_
            refine .cons (.plain rfl (ok_call (con_read s (by omega)) (.cons (.tmp 0 rfl) (.nil)))) ?_
            refine .cons (.plain rfl (ok_move (.tmp 0 rfl))) ?_
            refine .cons (.plain rfl (ok_extract 0 (.tmp 0 rfl) rfl)) ?_
            refine .cons (.plain rfl (ok_extract 1 (.tmp 0 rfl) rfl)) ?_
            refine .cons (.plain rfl (ok_alloc (D := Zero2) zeroI rfl (fun _ _ => rfl))) ?_
            exact .nil
          clear H63 a63 w63 B63
          intro a64 w64 B64 H64
          simp only [List.cons_append, List.nil_append] at H64
          refine ops_one ?_
          refine store_op (l' := [(124, .val (IsI (wreadNum (bytesI s)))), (125, .val (IsB (wreadOk (bytesI s)))), (14, .box 25 2 (IsI (wreadNum (bytesI s)))), (11, .val (Lit (.int .i64 i))), (10, .val (Lit (.string (strB (decL (X.natAbs : Int)))))), (8, .box 25 2 (IsI X)), (7, .val (Lit (.string (strB (showL X))))), (3, .box 25 2 (IsArg ngx nx xx)), (6, .val (IsB false)), (1, .val (Lit (.string s))), (2, .val (Lit (.int .u8 d)))]) 2 H64 rfl tyI rfl (.tmp 0 rfl) shape_Z shape_I rfl rfl ?_
          clear H64 w64
          intro w65 H65
          refine ops_one ?_
          refine tail_op (D := .val (IsB (wreadOk (bytesI s)))) (l' := [(15, .val (IsB (wreadOk (bytesI s)))), (124, .val (IsI (wreadNum (bytesI s)))), (125, .val (IsB (wreadOk (bytesI s)))), (14, .box 25 2 (IsI (wreadNum (bytesI s)))), (11, .val (Lit (.int .i64 i))), (10, .val (Lit (.string (strB (decL (X.natAbs : Int)))))), (8, .box 25 2 (IsI X)), (7, .val (Lit (.string (strB (showL X))))), (3, .box 25 2 (IsArg ngx nx xx)), (6, .val (IsB false)), (1, .val (Lit (.string s))), (2, .val (Lit (.int .u8 d)))]) H65 rfl rfl rfl (.plain rfl (ok_assign (.tmp 1 rfl))) rfl rfl ?_
          clear H65 a64 w65 B64
          intro a66 w66 B66 H66
          refine ops_done ?_
          refine then_normal ?_
          refine wp_seq ?_
          refine flow_region (dsts := [some 126]) (refs := [[.pre 0]]) (outs := [.res 0, .pre 3, .pre 4, .pre 5, .pre 6, .pre 7, .pre 8, .pre 9, .pre 10, .pre 11]) (als := [false]) (posts := [.val (IsB (wreadOk (bytesI s)))])
            (out := [(126, .val (IsB (wreadOk (bytesI s)))), (14, .box 25 2 (IsI (wreadNum (bytesI s)))), (11, .val (Lit (.int .i64 i))), (10, .val (Lit (.string (strB (decL (X.natAbs : Int)))))), (8, .box 25 2 (IsI X)), (7, .val (Lit (.string (strB (showL X))))), (3, .box 25 2 (IsArg ngx nx xx)), (6, .val (IsB false)), (1, .val (Lit (.string s))), (2, .val (Lit (.int .u8 d)))]) (nb := []) H66 1 [] rfl (by kernel_rfl) rfl rfl ?_ ?_
          · refine .cons (.plain rfl (ok_move (.tmp 0 rfl))) ?_
            exact .nil
          clear H66 a66 w66 B66
          intro a67 w67 B67 H67
          refine ops_done ?_
          refine then_normal ?_
          refine f_cond H67 (.tmp 0 rfl) ?_ ?_
          · intro hc68
            refine wp_seq ?_
            refine flow_region (dsts := [some 127, some 128, some 129, some 130, some 131, some 132, some 133, some 134, some 135, some 136, some 137, some 6]) (refs := [[.pre 1], [.res 0], [.pre 8], [.res 1, .res 2], [.res 3], [.res 4, .pre 1], [.res 4, .res 5], [.res 4, .res 6], [.res 7], [.res 8], [.res 8, .res 9], [.res 10]]) (outs := [.res 11, .pre 2, .pre 3, .pre 4, .pre 5, .pre 6, .pre 8, .pre 9]) (als := [false, false, false, false, false, false, false, false, false, false, false, false]) (posts := [.val (IsI (wreadNum (bytesI s))), .val (Lit (.string (strB (showL (wreadNum (bytesI s)))))), .val (Lit (.string s)), .val (IsB true), .val (IsB true), .val (IsI (wreadNum (bytesI s))), .val (IsB true), .val (IsB true), .val (IsB true), .val (IsB true), .val (IsB true), .val (IsB true)])
              (out := [(6, .val (IsB true)), (11, .val (Lit (.int .i64 i))), (10, .val (Lit (.string (strB (decL (X.natAbs : Int)))))), (8, .box 25 2 (IsI X)), (7, .val (Lit (.string (strB (showL X))))), (3, .box 25 2 (IsArg ngx nx xx)), (1, .val (Lit (.string s))), (2, .val (Lit (.int .u8 d)))]) (nb := []) H67 12 [] rfl (by kernel_rfl) rfl rfl ?_ ?_
            · refine .cons (.plain rfl (ok_load tyI (.tmp 0 rfl))) ?_
              refine .cons (.plain rfl (ok_call (con_show (wreadNum (bytesI s))) (.cons (.weak (.tmp 0 rfl) weakIN) (.nil)))) ?_
              refine .cons (.plain rfl (ok_move (.tmp 0 rfl))) ?_
              refine .cons (.plain rfl (ok_eqS (b := true) (.tmp 0 rfl) (.tmp 1 rfl) ((decide_eq_true (read_show s hc68)).symm))) ?_
              refine .cons (.plain rfl (ok_move (.tmp 0 rfl))) ?_
              refine .cons (.wanted 4 true rfl rfl rfl 0 rfl (ok_load tyI (.tmp 1 rfl))) ?_
              refine .cons (.wanted 4 true rfl rfl rfl 0 rfl (ok_call (con_normal (wreadNum (bytesI s))) (.cons (.tmp 1 rfl) (.nil)))) ?_
              refine .cons (.plain rfl (ok_pickT (.tmp 0 rfl) (.tmp 1 rfl))) ?_
              refine .cons (.plain rfl (ok_move (.tmp 0 rfl))) ?_
              refine .cons (.wanted 8 true rfl rfl rfl 0 rfl (ok_call (con_lives3) (.nil))) ?_
              refine .cons (.plain rfl (ok_pickT (.tmp 0 rfl) (.tmp 1 rfl))) ?_
              refine .cons (.plain rfl (ok_assign (.tmp 0 rfl))) ?_
              exact .nil
            clear H67 a67 w67 B67
            intro a69 w69 B69 H69
            refine ops_done ?_
            refine then_normal ?_
            refine wp_ret ?_
            refine then_ret ?_
            exact f_ret H69 rfl 0 rfl (fun _ _ _ h => h)
          · intro hc68
            refine wp_skip ?_
            refine then_normal ?_
            refine wp_seq ?_
            refine flow_region (dsts := [some 138, some 6]) (refs := [[], [.res 0]]) (outs := [.res 1, .pre 2, .pre 3, .pre 4, .pre 5, .pre 6, .pre 8, .pre 9]) (als := [false, false]) (posts := [.val (IsB true), .val (IsB true)])
              (out := [(6, .val (IsB true)), (11, .val (Lit (.int .i64 i))), (10, .val (Lit (.string (strB (decL (X.natAbs : Int)))))), (8, .box 25 2 (IsI X)), (7, .val (Lit (.string (strB (showL X))))), (3, .box 25 2 (IsArg ngx nx xx)), (1, .val (Lit (.string s))), (2, .val (Lit (.int .u8 d)))]) (nb := []) H67 2 [] rfl (by kernel_rfl) rfl rfl ?_ ?_
            · refine .cons (.plain rfl (ok_call (con_lives3) (.nil))) ?_
              refine .cons (.plain rfl (ok_assign (.tmp 0 rfl))) ?_
              exact .nil
            clear H67 a67 w67 B67
            intro a70 w70 B70 H70
            refine ops_done ?_
            refine then_normal ?_
            refine wp_ret ?_
            exact f_ret H70 rfl 0 rfl (fun _ _ _ h => h)

theorem walk_WholeBack (w : World) (ngx : Bool) (adx : Option Addr) (nx cx : Nat) (xx : List Int) (fx : Arg w adx nx cx xx) (yx : nx * 4 ≤ 140737488351232) (s : ByteArray) (hs : s.size ≤ 140737488351232) (d : Int) (hd : 0 ≤ d ∧ d < 256) :
    Calls Try.prog 8 #[.agg #[.bool ngx, .slice adx nx cx], .string s, .int .u8 d] w (fun e w' => e = .returned (.bool true) ∧ Below w.heap.size w w') := by
  refine ((con_WholeBack ngx nx xx yx s hs d hd).calls [.agg #[.bool ngx, .slice adx nx cx], .string s, .int .u8 d] w (fun _ => False) (fun _ h => h.elim) ⟨⟨adx, cx, rfl, fx⟩, rfl, rfl, trivial⟩).mono ?_
  rintro e w' ⟨v, rfl, h, hb⟩
  obtain rfl := h
  exact ⟨rfl, hb⟩
end Go.Proofs.Ytgnophflogmmaaa
