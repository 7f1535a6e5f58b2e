/- The law WholeTwos: its walk. -/
import Derived.Test.YtgnophflogmmaaaPk23
import Derived.Test.YtgnophflogmmaaaPk40
set_option linter.unusedVariables false
set_option linter.unusedSimpArgs false
/- The law WholeTwos: its walk by what the slots hold. (Printed by flow03.py.) -/
namespace Go.Proofs.Ytgnophflogmmaaa
open Go Go.RowKit


set_option maxRecDepth 20000 in
set_option maxHeartbeats 4000000 in
theorem con_WholeTwos (ngx : Bool) (nx : Nat) (xx : List Int) (yx : nx * 4 ≤ 140737488351232) (k : Int) (hk : -9223372036854775808 ≤ k ∧ k < 9223372036854775808) (s : ByteArray) (hs : s.size ≤ 1048576) : Con Try.prog 5 [IsArg ngx nx xx, Lit (.int .i64 k), Lit (.string s)] (IsB true) := by
  refine f_enter (N := 52) Try.ntmps5 (fun _ _ => by go_simp) Try.func5 rfl (by simp) ?_
  intro a0 w0 B0 H0
  replace H0 : St 52 w0 B0 a0 w0 B0 [(0, .val (IsArg ngx nx xx)), (1, .val (Lit (.int .i64 k))), (2, .val (Lit (.string s)))] [] := H0
  obtain ⟨X, hX⟩ : ∃ X, sI ngx (val 4294967296 xx) = X := ⟨_, rfl⟩
  have fX : FitK nx X := PArg.fit hX (H0.fc.get 0 rfl)
  refine wp_seq ?_
  refine flow_region (dsts := [some 3, some 6]) (refs := [[.pre 0], []]) (outs := [.res 0, .res 1, .pre 1, .pre 2]) (als := [true, false]) (posts := [.box 25 2 (IsArg ngx nx xx), .val (IsB false)])
    (out := [(3, .box 25 2 (IsArg ngx nx xx)), (6, .val (IsB false)), (1, .val (Lit (.int .i64 k))), (2, .val (Lit (.string s)))]) (nb := [3]) H0 2 [] rfl (by kernel_rfl) rfl rfl ?_ ?_
  · refine .cons (.plain rfl (ok_box (.tmp 0 rfl) shape_Arg.two)) ?_
    refine .cons (.plain rfl (ok_assign (.lit))) ?_
    exact .nil
  clear H0
  intro a1 w1 B1 H1
  simp only [List.cons_append, List.nil_append] at H1
  refine ops_done ?_
  refine then_normal ?_
  refine wp_seq ?_
  refine wp_seq ?_
  refine flow_region (dsts := [some 12, some 13, some 14]) (refs := [[.pre 0], [.res 0], [.res 1]]) (outs := [.res 2, .pre 0, .pre 1, .pre 2, .pre 3]) (als := [false, false, false]) (posts := [.val (IsArg ngx nx xx), .val (IsInts [nx]), .val (IsIf True (∀ j : Nat, [nx][j]?.getD 0 ≤ 1048576))])
    (out := [(14, .val (IsIf True (∀ j : Nat, [nx][j]?.getD 0 ≤ 1048576))), (3, .box 25 2 (IsArg ngx nx xx)), (6, .val (IsB false)), (1, .val (Lit (.int .i64 k))), (2, .val (Lit (.string s)))]) (nb := []) H1 3 [] rfl (by kernel_rfl) rfl rfl ?_ ?_
  · refine .cons (.plain rfl (ok_load tyI (.tmp 0 rfl))) ?_
    refine .cons (.plain rfl (ok_ints1 (.tmp 0 rfl))) ?_
    refine .cons (.plain rfl (ok_call (con_beyond [nx] (by simp) (fun j => by rcases j with _ | _ <;> simp <;> omega)) (.cons (.tmp 0 rfl) (.nil)))) ?_
    exact .nil
  clear H1 a1 w1 B1
  intro a2 w2 B2 H2
  refine ops_done ?_
  refine then_normal ?_
  refine f_condI H2 (.tmp 0 rfl) ?_ ?_
  · intro hc3
    refine wp_seq ?_
    refine flow_region (dsts := [some 6]) (refs := [[]]) (outs := [.res 0, .pre 1, .pre 3, .pre 4]) (als := [false]) (posts := [.val (IsB true)])
      (out := [(6, .val (IsB true)), (3, .box 25 2 (IsArg ngx nx xx)), (1, .val (Lit (.int .i64 k))), (2, .val (Lit (.string s)))]) (nb := []) H2 1 [] rfl (by kernel_rfl) rfl rfl ?_ ?_
    · refine .cons (.plain rfl (ok_assign (.lit))) ?_
      exact .nil
    clear H2 a2 w2 B2
    intro a4 w4 B4 H4
    refine ops_done ?_
    refine then_normal ?_
    refine wp_ret ?_
    refine then_ret ?_
    exact f_ret H4 rfl 0 rfl (fun _ _ _ h => h)
  · intro hc3
    have lx : nx ≤ 1048576 := hc3 0
    clear hc3
    refine wp_skip ?_
    refine then_normal ?_
    refine wp_seq ?_
    refine flow_region (dsts := [some 15, some 16, some 7]) (refs := [[.pre 1], [.res 0], []]) (outs := [.res 1, .res 2, .pre 1, .pre 2, .pre 3, .pre 4]) (als := [false, false, true]) (posts := [.val (IsArg ngx nx xx), .val (IsTw ngx nx xx), .box 25 2 (Zero2)])
      (out := [(16, .val (IsTw ngx nx xx)), (7, .box 25 2 (Zero2)), (3, .box 25 2 (IsArg ngx nx xx)), (6, .val (IsB false)), (1, .val (Lit (.int .i64 k))), (2, .val (Lit (.string s)))]) (nb := [7]) H2 3 [3] rfl (by kernel_rfl) rfl rfl ?_ ?_
    · refine .cons (.plain rfl (ok_load tyI (.tmp 0 rfl))) ?_
      refine .cons (.plain rfl (ok_call (con_twinInt ngx nx xx (by omega)) (.cons (.tmp 0 rfl) (.nil)))) ?_
      refine .cons (.plain rfl (ok_alloc (D := Zero2) zeroI rfl (fun _ _ => rfl))) ?_
      exact .nil
    clear H2 a2 w2 B2
    intro a5 w5 B5 H5
    simp only [List.cons_append, List.nil_append] at H5
    refine ops_one ?_
    refine store_op (l' := [(16, .val (IsTw ngx nx xx)), (7, .box 25 2 (IsTw ngx nx xx)), (3, .box 25 2 (IsArg ngx nx xx)), (6, .val (IsB false)), (1, .val (Lit (.int .i64 k))), (2, .val (Lit (.string s)))]) 1 H5 rfl tyI rfl (.tmp 0 rfl) shape_Z shape_Tw rfl rfl ?_
    clear H5 w5
    intro w6 H6
    refine ops_done ?_
    refine then_normal ?_
    refine wp_seq ?_
    refine flow_region (dsts := [some 18, some 19, some 20, some 17, some 21, some 22, some 8, some 9]) (refs := [[.pre 1], [.pre 4], [.res 0, .res 1], [.res 2], [.res 3], [.res 3], [.res 4], [.res 5]]) (outs := [.res 6, .res 7, .pre 1, .pre 2, .pre 3, .pre 4, .pre 5]) (als := [false, false, false, false, false, false, false, false]) (posts := [.val (IsTw ngx nx xx), .val (Lit (.int .i64 k)), .val (Tup [Lit (.string (strB (twosL X k))), IsB (twosOk X k)]), .val (Tup [Lit (.string (strB (twosL X k))), IsB (twosOk X k)]), .val (Lit (.string (strB (twosL X k)))), .val (IsB (twosOk X k)), .val (Lit (.string (strB (twosL X k)))), .val (IsB (twosOk X k))])
      (out := [(8, .val (Lit (.string (strB (twosL X k))))), (9, .val (IsB (twosOk X k))), (7, .box 25 2 (IsTw ngx nx xx)), (3, .box 25 2 (IsArg ngx nx xx)), (6, .val (IsB false)), (1, .val (Lit (.int .i64 k))), (2, .val (Lit (.string s)))]) (nb := []) H6 8 [] rfl (by kernel_rfl) rfl rfl ?_ ?_
    · refine .cons (.plain rfl (ok_load tyI (.tmp 0 rfl))) ?_
      refine .cons (.plain rfl (ok_move (.tmp 0 rfl))) ?_
      refine .cons (.plain rfl (ok_call (con_twos X k) (.cons (.weak (.tmp 0 rfl) (weakTN (by omega) hX)) (.cons (.tmp 1 rfl) (.nil))))) ?_
      refine .cons (.plain rfl (ok_move (.tmp 0 rfl))) ?_
      refine .cons (.plain rfl (ok_extract 0 (.tmp 0 rfl) rfl)) ?_
      refine .cons (.plain rfl (ok_extract 1 (.tmp 0 rfl) rfl)) ?_
      refine .cons (.plain rfl (ok_assign (.tmp 0 rfl))) ?_
      refine .cons (.plain rfl (ok_assign (.tmp 0 rfl))) ?_
      exact .nil
    clear H6 a5 w6 B5
    intro a7 w7 B7 H7
    refine ops_done ?_
    refine then_normal ?_
    refine wp_seq ?_
    refine flow_region (dsts := [some 24, some 25, some 26, some 23, some 27, some 28, some 10, some 11]) (refs := [[.pre 3], [.pre 5], [.res 0, .res 1], [.res 2], [.res 3], [.res 3], [.res 4], [.res 5]]) (outs := [.res 6, .res 7, .pre 0, .pre 1, .pre 2, .pre 3, .pre 4, .pre 6]) (als := [false, false, false, false, false, false, false, false]) (posts := [.val (IsArg ngx nx xx), .val (Lit (.int .i64 k)), .val (Tup [Lit (.string (strB (twosL X k))), IsB (twosOk X k)]), .val (Tup [Lit (.string (strB (twosL X k))), IsB (twosOk X k)]), .val (Lit (.string (strB (twosL X k)))), .val (IsB (twosOk X k)), .val (Lit (.string (strB (twosL X k)))), .val (IsB (twosOk X k))])
      (out := [(10, .val (Lit (.string (strB (twosL X k))))), (11, .val (IsB (twosOk X k))), (8, .val (Lit (.string (strB (twosL X k))))), (9, .val (IsB (twosOk X k))), (7, .box 25 2 (IsTw ngx nx xx)), (3, .box 25 2 (IsArg ngx nx xx)), (6, .val (IsB false)), (2, .val (Lit (.string s)))]) (nb := []) H7 8 [] rfl (by kernel_rfl) rfl rfl ?_ ?_
    · refine .cons (.plain rfl (ok_load tyI (.tmp 0 rfl))) ?_
      refine .cons (.plain rfl (ok_move (.tmp 0 rfl))) ?_
      refine .cons (.plain rfl (ok_call (con_r3twos X k hk) (.cons (.weak (.tmp 0 rfl) (weakAN (by omega) hX)) (.cons (.tmp 1 rfl) (.nil))))) ?_
      refine .cons (.plain rfl (ok_move (.tmp 0 rfl))) ?_
      refine .cons (.plain rfl (ok_extract 0 (.tmp 0 rfl) rfl)) ?_
      refine .cons (.plain rfl (ok_extract 1 (.tmp 0 rfl) rfl)) ?_
      refine .cons (.plain rfl (ok_assign (.tmp 0 rfl))) ?_
      refine .cons (.plain rfl (ok_assign (.tmp 0 rfl))) ?_
      exact .nil
    clear H7 a7 w7 B7
    intro a8 w8 B8 H8
    refine ops_done ?_
    refine then_normal ?_
    refine wp_seq ?_
    refine flow_region (dsts := [some 29, some 30, some 31, some 32, some 33, some 34, some 35, some 36, some 37, some 38, some 39, some 40, some 41, some 42, some 43, some 44, some 45, some 46, some 47, some 48, some 49, some 50, some 51, some 6]) (refs := [[.pre 2], [.pre 0], [.res 0, .res 1], [.res 2], [.res 3, .pre 3], [.res 3, .pre 1], [.res 3, .res 4, .res 5], [.res 3, .res 6], [.res 7], [.res 8, .pre 4], [.res 8, .pre 5], [.res 8, .res 9, .res 10], [.res 8, .res 11], [.res 12], [.res 13, .pre 7], [.res 13, .res 14], [.res 13, .pre 7], [.res 13, .res 16], [.res 13, .res 15, .res 17], [.res 13, .res 18], [.res 19], [.res 20], [.res 20, .res 21], [.res 22]]) (outs := [.res 23]) (als := [false, false, false, false, false, false, false, false, false, false, false, false, false, false, false, false, false, false, false, false, false, false, false, false]) (posts := [.val (Lit (.string (strB (twosL X k)))), .val (Lit (.string (strB (twosL X k)))), .val (IsB true), .val (IsB true), .val (IsB (twosOk X k)), .val (IsB (twosOk X k)), .val (IsB true), .val (IsB true), .val (IsB true), .val (IsTw ngx nx xx), .val (IsArg ngx nx xx), .val (IsB true), .val (IsB true), .val (IsB true), .val (Lit (.string s)), .val (IsI (twosNum (bytesI s))), .val (Lit (.string s)), .val (IsI (twosNum (bytesI s))), .val (IsB true), .val (IsB true), .val (IsB true), .val (IsB true), .val (IsB true), .val (IsB true)])
      (out := [(6, .val (IsB true))]) (nb := []) H8 24 [] rfl (by kernel_rfl) rfl rfl ?_ ?_
    · refine .cons (.plain rfl (ok_move (.tmp 0 rfl))) ?_
      refine .cons (.plain rfl (ok_move (.tmp 0 rfl))) ?_
      refine .cons (.plain rfl (ok_eqS (b := true) (.tmp 0 rfl) (.tmp 1 rfl) ((decide_eq_true (rfl)).symm))) ?_
      refine .cons (.plain rfl (ok_move (.tmp 0 rfl))) ?_
      refine .cons (.wanted 3 true rfl rfl rfl 0 rfl (ok_move (.tmp 1 rfl))) ?_
      refine .cons (.wanted 3 true rfl rfl rfl 0 rfl (ok_move (.tmp 1 rfl))) ?_
      refine .cons (.wanted 3 true rfl rfl rfl 0 rfl (OpOk.eqB (b := (twosOk X k) == (twosOk X k)) (ok_eqB Try.underlying4 (.tmp 1 rfl) (.tmp 2 rfl)) (beq_self_eq_true _))) ?_
      refine .cons (.plain rfl (ok_pickT (.tmp 0 rfl) (.tmp 1 rfl))) ?_
      refine .cons (.plain rfl (ok_move (.tmp 0 rfl))) ?_
      refine .cons (.wanted 8 true rfl rfl rfl 0 rfl (ok_load tyI (.tmp 1 rfl))) ?_
      refine .cons (.wanted 8 true rfl rfl rfl 0 rfl (ok_load tyI (.tmp 1 rfl))) ?_
      refine .cons (.wanted 8 true rfl rfl rfl 0 rfl (ok_call (con_left ngx nx xx (by omega)) (.cons (.tmp 1 rfl) (.cons (.tmp 2 rfl) (.nil))))) ?_
      refine .cons (.plain rfl (ok_pickT (.tmp 0 rfl) (.tmp 1 rfl))) ?_
      refine .cons (.plain rfl (ok_move (.tmp 0 rfl))) ?_
      refine .cons (.wanted 13 true rfl rfl rfl 0 rfl (ok_move (.tmp 1 rfl))) ?_
      refine .cons (.wanted 13 true rfl rfl rfl 0 rfl (ok_call (con_fromtwos s (by omega)) (.cons (.tmp 1 rfl) (.nil)))) ?_
      refine .cons (.wanted 13 true rfl rfl rfl 0 rfl (ok_move (.tmp 1 rfl))) ?_
      refine .cons (.wanted 13 true rfl rfl rfl 0 rfl (ok_call (con_r3fromtwos s (by omega)) (.cons (.tmp 1 rfl) (.nil)))) ?_
      refine .cons (.wanted 13 true rfl rfl rfl 0 rfl (ok_call (con_sameT (X := (twosNum (bytesI s))) rfl) (.cons (.tmp 1 rfl) (.cons (.tmp 2 rfl) (.nil))))) ?_
      refine .cons (.plain rfl (ok_pickT (.tmp 0 rfl) (.tmp 1 rfl))) ?_
      refine .cons (.plain rfl (ok_move (.tmp 0 rfl))) ?_
      refine .cons (.wanted 20 true rfl rfl rfl 0 rfl (ok_call (con_lives3) (.nil))) ?_
      refine .cons (.plain rfl (ok_pickT (.tmp 0 rfl) (.tmp 1 rfl))) ?_
      refine .cons (.plain rfl (ok_assign (.tmp 0 rfl))) ?_
      exact .nil
    clear H8 a8 w8 B8
    intro a9 w9 B9 H9
    refine ops_done ?_
    refine then_normal ?_
    refine wp_ret ?_
    exact f_ret H9 rfl 0 rfl (fun _ _ _ h => h)

theorem walk_WholeTwos (w : World) (ngx : Bool) (adx : Option Addr) (nx cx : Nat) (xx : List Int) (fx : Arg w adx nx cx xx) (yx : nx * 4 ≤ 140737488351232) (k : Int) (hk : -9223372036854775808 ≤ k ∧ k < 9223372036854775808) (s : ByteArray) (hs : s.size ≤ 1048576) :
    Calls Try.prog 5 #[.agg #[.bool ngx, .slice adx nx cx], .int .i64 k, .string s] w (fun e w' => e = .returned (.bool true) ∧ Below w.heap.size w w') := by
  refine ((con_WholeTwos ngx nx xx yx k hk s hs).calls [.agg #[.bool ngx, .slice adx nx cx], .int .i64 k, .string s] w (fun _ => False) (fun _ h => h.elim) ⟨⟨adx, cx, rfl, fx⟩, rfl, rfl, trivial⟩).mono ?_
  rintro e w' ⟨v, rfl, h, hb⟩
  obtain rfl := h
  exact ⟨rfl, hb⟩
end Go.Proofs.Ytgnophflogmmaaa
