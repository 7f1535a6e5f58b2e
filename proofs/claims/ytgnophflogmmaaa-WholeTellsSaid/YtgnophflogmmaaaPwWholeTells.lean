/- The law WholeTells: its walk. -/
import Derived.Test.YtgnophflogmmaaaPk23
import Derived.Test.YtgnophflogmmaaaPk33
set_option linter.unusedVariables false
set_option linter.unusedSimpArgs false
/- The law WholeTells: its walk by what the slots hold. (Printed by flow03.py.) -/
namespace Go.Proofs.Ytgnophflogmmaaa
open Go Go.RowKit


set_option maxRecDepth 20000 in
set_option maxHeartbeats 4000000 in
theorem con_WholeTells (ngx : Bool) (nx : Nat) (xx : List Int) (yx : nx * 4 ≤ 140737488351232) (s : ByteArray) (hs : s.size ≤ 140737488351232) : Con Try.prog 4 [IsArg ngx nx xx, Lit (.string s)] (IsB true) := by
  refine f_enter (N := 48) Try.ntmps4 (fun _ _ => by go_simp) Try.func4 rfl (by simp) ?_
  intro a0 w0 B0 H0
  replace H0 : St 48 w0 B0 a0 w0 B0 [(0, .val (IsArg ngx nx xx)), (1, .val (Lit (.string s)))] [] := H0
  obtain ⟨X, hX⟩ : ∃ X, sI ngx (val 4294967296 xx) = X := ⟨_, rfl⟩
  have fX : FitK nx X := PArg.fit hX (H0.fc.get 0 rfl)
  refine wp_seq ?_
  refine flow_region (dsts := [some 2, some 4]) (refs := [[.pre 0], []]) (outs := [.res 0, .res 1, .pre 1]) (als := [true, false]) (posts := [.box 25 2 (IsArg ngx nx xx), .val (IsB false)])
    (out := [(2, .box 25 2 (IsArg ngx nx xx)), (4, .val (IsB false)), (1, .val (Lit (.string s)))]) (nb := [2]) H0 2 [] rfl (by kernel_rfl) rfl rfl ?_ ?_
  · refine .cons (.plain rfl (ok_box (.tmp 0 rfl) shape_Arg.two)) ?_
    refine .cons (.plain rfl (ok_assign (.lit))) ?_
    exact .nil
  clear H0
  intro a1 w1 B1 H1
  simp only [List.cons_append, List.nil_append] at H1
  refine ops_done ?_
  refine then_normal ?_
  refine wp_seq ?_
  refine wp_seq ?_
  refine flow_region (dsts := [some 10, some 11, some 12]) (refs := [[.pre 0], [.res 0], [.res 1]]) (outs := [.res 2, .pre 0, .pre 1, .pre 2]) (als := [false, false, false]) (posts := [.val (IsArg ngx nx xx), .val (IsInts [nx]), .val (IsIf True (∀ j : Nat, [nx][j]?.getD 0 ≤ 1048576))])
    (out := [(12, .val (IsIf True (∀ j : Nat, [nx][j]?.getD 0 ≤ 1048576))), (2, .box 25 2 (IsArg ngx nx xx)), (4, .val (IsB false)), (1, .val (Lit (.string s)))]) (nb := []) H1 3 [] rfl (by kernel_rfl) rfl rfl ?_ ?_
  · refine .cons (.plain rfl (ok_load tyI (.tmp 0 rfl))) ?_
    refine .cons (.plain rfl (ok_ints1 (.tmp 0 rfl))) ?_
    refine .cons (.plain rfl (ok_call (con_beyond [nx] (by simp) (fun j => by rcases j with _ | _ <;> simp <;> omega)) (.cons (.tmp 0 rfl) (.nil)))) ?_
    exact .nil
  clear H1 a1 w1 B1
  intro a2 w2 B2 H2
  refine ops_done ?_
  refine then_normal ?_
  refine f_condI H2 (.tmp 0 rfl) ?_ ?_
  · intro hc3
    refine wp_seq ?_
    refine flow_region (dsts := [some 4]) (refs := [[]]) (outs := [.res 0, .pre 1, .pre 3]) (als := [false]) (posts := [.val (IsB true)])
      (out := [(4, .val (IsB true)), (2, .box 25 2 (IsArg ngx nx xx)), (1, .val (Lit (.string s)))]) (nb := []) H2 1 [] rfl (by kernel_rfl) rfl rfl ?_ ?_
    · refine .cons (.plain rfl (ok_assign (.lit))) ?_
      exact .nil
    clear H2 a2 w2 B2
    intro a4 w4 B4 H4
    refine ops_done ?_
    refine then_normal ?_
    refine wp_ret ?_
    refine then_ret ?_
    exact f_ret H4 rfl 0 rfl (fun _ _ _ h => h)
  · intro hc3
    have lx : nx ≤ 1048576 := hc3 0
    clear hc3
    refine wp_skip ?_
    refine then_normal ?_
    refine wp_seq ?_
    refine flow_region (dsts := [some 13, some 14, some 5]) (refs := [[.pre 1], [.res 0], []]) (outs := [.res 1, .res 2, .pre 1, .pre 2, .pre 3]) (als := [false, false, true]) (posts := [.val (IsArg ngx nx xx), .val (IsTw ngx nx xx), .box 25 2 (Zero2)])
      (out := [(14, .val (IsTw ngx nx xx)), (5, .box 25 2 (Zero2)), (2, .box 25 2 (IsArg ngx nx xx)), (4, .val (IsB false)), (1, .val (Lit (.string s)))]) (nb := [5]) H2 3 [3] rfl (by kernel_rfl) rfl rfl ?_ ?_
    · refine .cons (.plain rfl (ok_load tyI (.tmp 0 rfl))) ?_
      refine .cons (.plain rfl (ok_call (con_twinInt ngx nx xx (by omega)) (.cons (.tmp 0 rfl) (.nil)))) ?_
      refine .cons (.plain rfl (ok_alloc (D := Zero2) zeroI rfl (fun _ _ => rfl))) ?_
      exact .nil
    clear H2 a2 w2 B2
    intro a5 w5 B5 H5
    simp only [List.cons_append, List.nil_append] at H5
    refine ops_one ?_
    refine store_op (l' := [(14, .val (IsTw ngx nx xx)), (5, .box 25 2 (IsTw ngx nx xx)), (2, .box 25 2 (IsArg ngx nx xx)), (4, .val (IsB false)), (1, .val (Lit (.string s)))]) 1 H5 rfl tyI rfl (.tmp 0 rfl) shape_Z shape_Tw rfl rfl ?_
    clear H5 w5
    intro w6 H6
    refine ops_done ?_
    refine then_normal ?_
    refine wp_seq ?_
    refine flow_region (dsts := [some 16, some 17, some 15, some 18, some 19, some 6]) (refs := [[.pre 4], [.res 0], [.res 1], [.res 2], [.res 2], []]) (outs := [.res 3, .res 4, .res 5, .pre 1, .pre 2, .pre 3, .pre 4]) (als := [false, false, false, false, false, true]) (posts := [.val (Lit (.string s)), .val (Tup [IsI (wreadNum (bytesI s)), IsB (wreadOk (bytesI s))]), .val (Tup [IsI (wreadNum (bytesI s)), IsB (wreadOk (bytesI s))]), .val (IsI (wreadNum (bytesI s))), .val (IsB (wreadOk (bytesI s))), .box 25 2 (Zero2)])
      (out := [(18, .val (IsI (wreadNum (bytesI s)))), (19, .val (IsB (wreadOk (bytesI s)))), (6, .box 25 2 (Zero2)), (5, .box 25 2 (IsTw ngx nx xx)), (2, .box 25 2 (IsArg ngx nx xx)), (4, .val (IsB false)), (1, .val (Lit (.string s)))]) (nb := [6]) H6 6 [6, 7] rfl (by kernel_rfl) rfl rfl ?_ ?_
    · refine .cons (.plain rfl (ok_move (.tmp 0 rfl))) ?_
      refine .cons (.plain rfl (ok_call (con_read s (by omega)) (.cons (.tmp 0 rfl) (.nil)))) ?_
      refine .cons (.plain rfl (ok_move (.tmp 0 rfl))) ?_
      refine .cons (.plain rfl (ok_extract 0 (.tmp 0 rfl) rfl)) ?_
      refine .cons (.plain rfl (ok_extract 1 (.tmp 0 rfl) rfl)) ?_
      refine .cons (.plain rfl (ok_alloc (D := Zero2) zeroI rfl (fun _ _ => rfl))) ?_
      exact .nil
    clear H6 a5 w6 B5
    intro a7 w7 B7 H7
    simp only [List.cons_append, List.nil_append] at H7
    refine ops_one ?_
    refine store_op (l' := [(18, .val (IsI (wreadNum (bytesI s)))), (19, .val (IsB (wreadOk (bytesI s)))), (6, .box 25 2 (IsI (wreadNum (bytesI s)))), (5, .box 25 2 (IsTw ngx nx xx)), (2, .box 25 2 (IsArg ngx nx xx)), (4, .val (IsB false)), (1, .val (Lit (.string s)))]) 2 H7 rfl tyI rfl (.tmp 0 rfl) shape_Z shape_I rfl rfl ?_
    clear H7 w7
    intro w8 H8
    refine ops_one ?_
    refine tail_op (D := .val (IsB (wreadOk (bytesI s)))) (l' := [(7, .val (IsB (wreadOk (bytesI s)))), (18, .val (IsI (wreadNum (bytesI s)))), (19, .val (IsB (wreadOk (bytesI s)))), (6, .box 25 2 (IsI (wreadNum (bytesI s)))), (5, .box 25 2 (IsTw ngx nx xx)), (2, .box 25 2 (IsArg ngx nx xx)), (4, .val (IsB false)), (1, .val (Lit (.string s)))]) H8 rfl rfl rfl (.plain rfl (ok_assign (.tmp 1 rfl))) rfl rfl ?_
    clear H8 a7 w8 B7
    intro a9 w9 B9 H9
    refine ops_done ?_
    refine then_normal ?_
    refine wp_seq ?_
    refine flow_region (dsts := [some 21, some 22, some 20, some 23, some 24, some 8]) (refs := [[.pre 7], [.res 0], [.res 1], [.res 2], [.res 2], []]) (outs := [.res 3, .res 4, .res 5, .pre 0, .pre 3, .pre 4, .pre 5, .pre 6]) (als := [false, false, false, false, false, true]) (posts := [.val (Lit (.string s)), .val (Tup [IsI (wreadNum (bytesI s)), IsB (wreadOk (bytesI s))]), .val (Tup [IsI (wreadNum (bytesI s)), IsB (wreadOk (bytesI s))]), .val (IsI (wreadNum (bytesI s))), .val (IsB (wreadOk (bytesI s))), .box 25 2 (Zero2)])
      (out := [(23, .val (IsI (wreadNum (bytesI s)))), (24, .val (IsB (wreadOk (bytesI s)))), (8, .box 25 2 (Zero2)), (7, .val (IsB (wreadOk (bytesI s)))), (6, .box 25 2 (IsI (wreadNum (bytesI s)))), (5, .box 25 2 (IsTw ngx nx xx)), (2, .box 25 2 (IsArg ngx nx xx)), (4, .val (IsB false))]) (nb := [8]) H9 6 [6, 7] rfl (by kernel_rfl) rfl rfl ?_ ?_
    · refine .cons (.plain rfl (ok_move (.tmp 0 rfl))) ?_
      refine .cons (.plain rfl (ok_call (con_r3read s (by omega)) (.cons (.tmp 0 rfl) (.nil)))) ?_
      refine .cons (.plain rfl (ok_move (.tmp 0 rfl))) ?_
      refine .cons (.plain rfl (ok_extract 0 (.tmp 0 rfl) rfl)) ?_
      refine .cons (.plain rfl (ok_extract 1 (.tmp 0 rfl) rfl)) ?_
      refine .cons (.plain rfl (ok_alloc (D := Zero2) zeroI rfl (fun _ _ => rfl))) ?_
      exact .nil
    clear H9 a9 w9 B9
    intro a10 w10 B10 H10
    simp only [List.cons_append, List.nil_append] at H10
    refine ops_one ?_
    refine store_op (l' := [(23, .val (IsI (wreadNum (bytesI s)))), (24, .val (IsB (wreadOk (bytesI s)))), (8, .box 25 2 (IsI (wreadNum (bytesI s)))), (7, .val (IsB (wreadOk (bytesI s)))), (6, .box 25 2 (IsI (wreadNum (bytesI s)))), (5, .box 25 2 (IsTw ngx nx xx)), (2, .box 25 2 (IsArg ngx nx xx)), (4, .val (IsB false))]) 2 H10 rfl tyI rfl (.tmp 0 rfl) shape_Z shape_I rfl rfl ?_
    clear H10 w10
    intro w11 H11
    refine ops_one ?_
    refine tail_op (D := .val (IsB (wreadOk (bytesI s)))) (l' := [(9, .val (IsB (wreadOk (bytesI s)))), (23, .val (IsI (wreadNum (bytesI s)))), (24, .val (IsB (wreadOk (bytesI s)))), (8, .box 25 2 (IsI (wreadNum (bytesI s)))), (7, .val (IsB (wreadOk (bytesI s)))), (6, .box 25 2 (IsI (wreadNum (bytesI s)))), (5, .box 25 2 (IsTw ngx nx xx)), (2, .box 25 2 (IsArg ngx nx xx)), (4, .val (IsB false))]) H11 rfl rfl rfl (.plain rfl (ok_assign (.tmp 1 rfl))) rfl rfl ?_
    clear H11 a10 w11 B10
    intro a12 w12 B12 H12
    refine ops_done ?_
    refine then_normal ?_
    refine wp_seq ?_
    refine flow_drawT (dsts := [some 25, some 26, some 27, some 28, some 29, some 30, some 31, some 32, some 33, some 34, some 35, some 36, some 37, some 38, some 39, some 40, some 41, some 42, some 43, some 44, some 45, some 46, some 47, some 4]) (refs := [[.pre 6], [.res 0], [.pre 7], [.res 2], [.res 1, .res 3], [.res 4], [.res 5, .pre 6], [.res 5, .pre 7], [.res 5, .res 6, .res 7], [.res 5, .res 8], [.res 9], [.res 10, .pre 5], [.res 10, .pre 3], [.res 10, .res 11, .res 12], [.res 10, .res 13], [.res 14], [.res 15, .pre 4], [.res 15, .pre 0], [.res 15, .res 16, .res 17], [.res 15, .res 18], [.res 19], [.res 20], [.res 20, .res 21], [.res 22]]) (outs := [.res 23]) (als := [false, false, false, false, false, false, false, false, false, false, false, false, false, false, false, false, false, false, false, false, false, false, false, false]) (posts := [.val (IsTw ngx nx xx), .val (Lit (.string (strB (showL X)))), .val (IsArg ngx nx xx), .val (Lit (.string (strB (showL X)))), .val (IsB true), .val (IsB true), .val (IsTw ngx nx xx), .val (IsArg ngx nx xx), .val (IsB true), .val (IsB true), .val (IsB true), .val (IsI (wreadNum (bytesI s))), .val (IsI (wreadNum (bytesI s))), .val (IsB true), .val (IsB true), .val (IsB true), .val (IsB (wreadOk (bytesI s))), .val (IsB (wreadOk (bytesI s))), .val (IsB true), .val (IsB true), .val (IsB true), .val (IsB true), .val (IsB true), .val (IsB true)])
      (out := [(4, .val (IsB true))]) (nb := []) H12 (by kernel_rfl) 24 0 #[true, true, true, true, true, true, true, true, true, true, true, true, true, true, true, true, true, true, true, true, true, true, true, true] (by kernel_rfl) (by kernel_rfl) rfl rfl ?_ ?_
    · refine .cons (.plain rfl (ok_load tyI (.tmp 0 rfl))) ?_
      refine .cons (.plain rfl (ok_call (con_show X) (.cons (.weak (.tmp 0 rfl) (weakTN (by omega) hX)) (.nil)))) ?_
      refine .cons (.plain rfl (ok_load tyI (.tmp 0 rfl))) ?_
      refine .cons (.plain rfl (ok_call (con_r3show X) (.cons (.weak (.tmp 0 rfl) (weakAN (by omega) hX)) (.nil)))) ?_
      refine .cons (.plain rfl (ok_eqS (b := true) (.tmp 0 rfl) (.tmp 1 rfl) ((decide_eq_true (rfl)).symm))) ?_
      refine .cons (.plain rfl (ok_move (.tmp 0 rfl))) ?_
      refine .cons (.wanted 5 true rfl rfl rfl 0 rfl (ok_load tyI (.tmp 1 rfl))) ?_
      refine .cons (.wanted 5 true rfl rfl rfl 0 rfl (ok_load tyI (.tmp 1 rfl))) ?_
      refine .cons (.wanted 5 true rfl rfl rfl 0 rfl (ok_call (con_left ngx nx xx (by omega)) (.cons (.tmp 1 rfl) (.cons (.tmp 2 rfl) (.nil))))) ?_
      refine .cons (.plain rfl (ok_pickT (.tmp 0 rfl) (.tmp 1 rfl))) ?_
      refine .cons (.plain rfl (ok_move (.tmp 0 rfl))) ?_
      refine .cons (.wanted 10 true rfl rfl rfl 0 rfl (ok_load tyI (.tmp 1 rfl))) ?_
      refine .cons (.wanted 10 true rfl rfl rfl 0 rfl (ok_load tyI (.tmp 1 rfl))) ?_
      refine .cons (.wanted 10 true rfl rfl rfl 0 rfl (ok_call (con_sameT (X := (wreadNum (bytesI s))) rfl) (.cons (.tmp 1 rfl) (.cons (.tmp 2 rfl) (.nil))))) ?_
      refine .cons (.plain rfl (ok_pickT (.tmp 0 rfl) (.tmp 1 rfl))) ?_
      refine .cons (.plain rfl (ok_move (.tmp 0 rfl))) ?_
      refine .cons (.wanted 15 true rfl rfl rfl 0 rfl (ok_move (.tmp 1 rfl))) ?_
      refine .cons (.wanted 15 true rfl rfl rfl 0 rfl (ok_move (.tmp 1 rfl))) ?_
      refine .cons (.wanted 15 true rfl rfl rfl 0 rfl (OpOk.eqB (b := (wreadOk (bytesI s)) == (wreadOk (bytesI s))) (ok_eqB Try.underlying4 (.tmp 1 rfl) (.tmp 2 rfl)) (beq_self_eq_true _))) ?_
      refine .cons (.plain rfl (ok_pickT (.tmp 0 rfl) (.tmp 1 rfl))) ?_
      refine .cons (.plain rfl (ok_move (.tmp 0 rfl))) ?_
      refine .cons (.wanted 20 true rfl rfl rfl 0 rfl (ok_call (con_lives3) (.nil))) ?_
      refine .cons (.plain rfl (ok_pickT (.tmp 0 rfl) (.tmp 1 rfl))) ?_
      refine .cons (.plain rfl (ok_assign (.tmp 0 rfl))) ?_
      exact .nil
    clear H12 a12 w12 B12
    intro a13 w13 B13 H13
    refine any_done (by kernel_rfl) ?_
    refine then_normal ?_
    refine wp_ret ?_
    exact f_ret H13 rfl 0 rfl (fun _ _ _ h => h)

theorem walk_WholeTells (w : World) (ngx : Bool) (adx : Option Addr) (nx cx : Nat) (xx : List Int) (fx : Arg w adx nx cx xx) (yx : nx * 4 ≤ 140737488351232) (s : ByteArray) (hs : s.size ≤ 140737488351232) :
    Calls Try.prog 4 #[.agg #[.bool ngx, .slice adx nx cx], .string s] w (fun e w' => e = .returned (.bool true) ∧ Below w.heap.size w w') := by
  refine ((con_WholeTells ngx nx xx yx s hs).calls [.agg #[.bool ngx, .slice adx nx cx], .string s] w (fun _ => False) (fun _ h => h.elim) ⟨⟨adx, cx, rfl, fx⟩, rfl, trivial⟩).mono ?_
  rintro e w' ⟨v, rfl, h, hb⟩
  obtain rfl := h
  exact ⟨rfl, hb⟩
end Go.Proofs.Ytgnophflogmmaaa
