/- Contracts of functions, and plain facts, part 48. -/
import Derived.Test.YtgnophflogmmaaaPk47
set_option linter.unusedVariables false
set_option linter.unusedSimpArgs false
/- R3quo. (Printed by flowfn.py.) -/
namespace Go.Proofs.Ytgnophflogmmaaa
open Go Go.RowKit

theorem sI_quo (X Y : Int) (h : Y ≠ 0) : sI (decide (X < 0) != decide (Y < 0)) ((X.natAbs : Int) / (Y.natAbs : Int)) = X.tdiv Y := by
  have e : (X.natAbs : Int) / (Y.natAbs : Int) = ((X.tdiv Y).natAbs : Int) := by rw [Int.natAbs_tdiv]; rfl
  rw [e]
  generalize hq : X.tdiv Y = q
  have e2 := Int.mul_tdiv_add_tmod X Y
  rw [hq] at e2
  have e3 := Int.natAbs_tmod X Y
  have e4 := Nat.mod_lt X.natAbs (show 0 < Y.natAbs by omega)
  rw [← e3] at e4
  generalize X.tmod Y = r at *
  unfold sI
  rcases Int.lt_or_le X 0 with h1 | h1 <;> rcases Int.lt_or_le Y 0 with h2 | h2
  · rw [decide_eq_true h1, decide_eq_true h2]
    have : 0 ≤ q := by rw [← hq]; exact Int.tdiv_nonneg_of_nonpos_of_nonpos (by omega) (by omega)
    simp; omega
  · rw [decide_eq_true h1, decide_eq_false (by omega)]
    have : q ≤ 0 := by
      rw [← hq, show X = -(-X) by omega, Int.neg_tdiv]
      have := Int.tdiv_nonneg (show 0 ≤ -X by omega) h2
      omega
    simp; omega
  · rw [decide_eq_false (by omega), decide_eq_true h2]
    have : q ≤ 0 := by
      rw [← hq, show Y = -(-Y) by omega, Int.tdiv_neg]
      have := Int.tdiv_nonneg h1 (show 0 ≤ -Y by omega)
      omega
    simp; omega
  · rw [decide_eq_false (by omega), decide_eq_false (by omega)]
    have : 0 ≤ q := by rw [← hq]; exact Int.tdiv_nonneg h1 h2
    simp; omega
theorem quo_mul (X Y : Int) : (X.tdiv Y * Y).natAbs ≤ X.natAbs := by
  rw [Int.natAbs_mul, Int.natAbs_tdiv]
  exact Nat.div_mul_le_self _ _
theorem quo_rem (X Y : Int) (h : Y ≠ 0) : X - X.tdiv Y * Y = tremI X Y := by
  unfold tremI
  rw [if_neg h]
  have := Int.mul_tdiv_add_tmod X Y
  rw [Int.mul_comm] at this
  omega

set_option maxRecDepth 20000 in
set_option maxHeartbeats 2000000 in
theorem con_r3quo (X Y : Int) {k m : Nat} (hx : FitK k X) (hy : FitK m Y) (hk : k + m + 1 ≤ 274877906944) (hkk : k + k + 1 ≤ 274877906944) : Con Try.prog 17 [IsN X, IsN Y] (Tup [IsI (X.tdiv Y), IsI (tremI X Y), IsB (decide (Y ≠ 0))]) := by
  refine f_enter (N := 38) Try.ntmps17 (fun _ _ => by go_simp) Try.func17 rfl (by simp) ?_
  intro a0 w0 B0 H0
  replace H0 : St 38 w0 B0 a0 w0 B0 [(0, .val (IsN X)), (1, .val (IsN Y))] [] := H0
  refine wp_seq ?_
  refine flow_region (dsts := [some 2, some 3, some 4, some 5, some 6]) (refs := [[.pre 0], [.pre 1], [], [], []]) (outs := [.res 0, .res 1, .res 2, .res 3, .res 4]) (als := [true, true, true, true, false]) (posts := [.box 25 2 (IsN X), .box 25 2 (IsN Y), .box 25 2 (Zero2), .box 25 2 (Zero2), .val (IsB false)])
    (out := [(2, .box 25 2 (IsN X)), (3, .box 25 2 (IsN Y)), (4, .box 25 2 (Zero2)), (5, .box 25 2 (Zero2)), (6, .val (IsB false))]) (nb := [2, 3, 4, 5]) H0 5 [] rfl (by kernel_rfl) rfl rfl ?_ ?_
  · refine .cons (.plain rfl (ok_box (.tmp 0 rfl) shape_N.two)) ?_
    refine .cons (.plain rfl (ok_box (.tmp 0 rfl) shape_N.two)) ?_
    refine .cons (.plain rfl (ok_alloc (D := Zero2) zeroI rfl (fun _ _ => rfl))) ?_
    refine .cons (.plain rfl (ok_alloc (D := Zero2) zeroI rfl (fun _ _ => rfl))) ?_
    refine .cons (.plain rfl (ok_assign (.lit))) ?_
    exact .nil
  clear H0
  intro a1 w1 B1 H1
  simp only [List.cons_append, List.nil_append] at H1
  refine ops_done ?_
  refine then_normal ?_
  refine wp_seq ?_
  refine flow_region (dsts := [some 12, some 13, some 14, some 15, some 16, some 11, some 17, some 18, some 19, some 7, some 8, some 9]) (refs := [[.pre 0], [.res 0], [.pre 1], [.res 2], [.res 1, .res 3], [.res 4], [.res 5], [.res 5], [.res 5], [.res 6], [.res 7], [.res 8]]) (outs := [.res 9, .res 11, .pre 0, .pre 1, .pre 2, .pre 3, .pre 4]) (als := [false, false, false, false, false, false, false, false, false, false, false, false]) (posts := [.ptr 25 2 (IsN X) 1, .val (IsM ((X).natAbs : Int)), .ptr 25 2 (IsN Y) 1, .val (IsM ((Y).natAbs : Int)), .val (Tup [IsC (((X).natAbs : Int) / ((Y).natAbs : Int)), IsC (if ((Y).natAbs : Int) = 0 then 0 else ((X).natAbs : Int) % ((Y).natAbs : Int)), IsB (decide (((Y).natAbs : Int) ≠ 0))]), .val (Tup [IsC (((X).natAbs : Int) / ((Y).natAbs : Int)), IsC (if ((Y).natAbs : Int) = 0 then 0 else ((X).natAbs : Int) % ((Y).natAbs : Int)), IsB (decide (((Y).natAbs : Int) ≠ 0))]), .val (IsC (((X).natAbs : Int) / ((Y).natAbs : Int))), .val (IsC (if ((Y).natAbs : Int) = 0 then 0 else ((X).natAbs : Int) % ((Y).natAbs : Int))), .val (IsB (decide (((Y).natAbs : Int) ≠ 0))), .val (IsC (((X).natAbs : Int) / ((Y).natAbs : Int))), .val (IsC (if ((Y).natAbs : Int) = 0 then 0 else ((X).natAbs : Int) % ((Y).natAbs : Int))), .val (IsB (decide (((Y).natAbs : Int) ≠ 0)))])
    (out := [(7, .val (IsC (((X).natAbs : Int) / ((Y).natAbs : Int)))), (9, .val (IsB (decide (((Y).natAbs : Int) ≠ 0)))), (2, .box 25 2 (IsN X)), (3, .box 25 2 (IsN Y)), (4, .box 25 2 (Zero2)), (5, .box 25 2 (Zero2)), (6, .val (IsB false))]) (nb := []) H1 12 [] rfl (by kernel_rfl) rfl rfl ?_ ?_
  · refine .cons (.plain rfl (ok_addrI1 (.tmp 0 rfl))) ?_
    refine .cons (.plain rfl (ok_loadMagN (.tmp 0 rfl))) ?_
    refine .cons (.plain rfl (ok_addrI1 (.tmp 0 rfl))) ?_
    refine .cons (.plain rfl (ok_loadMagN (.tmp 0 rfl))) ?_
    refine .cons (.plain rfl (ok_call (con_r2div ((X).natAbs : Int) ((Y).natAbs : Int)) (.cons (.tmp 0 rfl) (.cons (.tmp 1 rfl) (.nil))))) ?_
    refine .cons (.plain rfl (ok_move (.tmp 0 rfl))) ?_
    refine .cons (.plain rfl (ok_extract 0 (.tmp 0 rfl) rfl)) ?_
    refine .cons (.plain rfl (ok_extract 1 (.tmp 0 rfl) rfl)) ?_
    refine .cons (.plain rfl (ok_extract 2 (.tmp 0 rfl) rfl)) ?_
    refine .cons (.plain rfl (ok_assign (.tmp 0 rfl))) ?_
    refine .cons (.plain rfl (ok_assign (.tmp 0 rfl))) ?_
    refine .cons (.plain rfl (ok_assign (.tmp 0 rfl))) ?_
    exact .nil
  clear H1 a1 w1 B1
  intro a2 w2 B2 H2
  refine ops_done ?_
  refine then_normal ?_
  refine wp_seq ?_
  refine wp_seq ?_
  rcases (Decidable.em (Y = 0)) with y0 | y0
  · have eb3 : (decide (((Y).natAbs : Int) ≠ 0)) = false := decide_eq_false (by omega)
    rw [eb3] at H2
    have e1 : 0 = X.tdiv Y := by rw [y0, Int.tdiv_zero]
    have e2 : 0 = tremI X Y := (if_pos y0).symm
    have e3 : false = decide (Y ≠ 0) := (decide_eq_false (fun h => h y0)).symm
    refine flow_region (dsts := [some 20, some 21]) (refs := [[.pre 1], [.res 0]]) (outs := [.res 1, .pre 0, .pre 2, .pre 3, .pre 4, .pre 5, .pre 6]) (als := [false, false]) (posts := [.val (IsB false), .val (IsB true)])
      (out := [(21, .val (IsB true)), (7, .val (IsC (((X).natAbs : Int) / ((Y).natAbs : Int)))), (2, .box 25 2 (IsN X)), (3, .box 25 2 (IsN Y)), (4, .box 25 2 (Zero2)), (5, .box 25 2 (Zero2)), (6, .val (IsB false))]) (nb := []) H2 2 [] rfl (by kernel_rfl) rfl rfl ?_ ?_
    · refine .cons (.plain rfl (ok_move (.tmp 0 rfl))) ?_
      refine .cons (.plain rfl (ok_not (b := false) (.tmp 0 rfl))) ?_
      exact .nil
    clear H2 a2 w2 B2
    intro a4 w4 B4 H4
    refine ops_done ?_
    refine then_normal ?_
    refine f_condT H4 (.tmp 0 rfl) ?_
    refine wp_seq ?_
    refine flow_region (dsts := [some 22, some 23]) (refs := [[], []]) (outs := [.res 0, .res 1, .pre 1, .pre 2, .pre 3, .pre 4, .pre 5, .pre 6]) (als := [false, false]) (posts := [.val (Zero2), .val (Zero2)])
      (out := [(22, .val (Zero2)), (23, .val (Zero2)), (7, .val (IsC (((X).natAbs : Int) / ((Y).natAbs : Int)))), (2, .box 25 2 (IsN X)), (3, .box 25 2 (IsN Y)), (4, .box 25 2 (Zero2)), (5, .box 25 2 (Zero2)), (6, .val (IsB false))]) (nb := []) H4 2 [2, 3, 4] rfl (by kernel_rfl) rfl rfl ?_ ?_
    · refine .cons (.plain rfl (ok_build0)) ?_
      refine .cons (.plain rfl (ok_build0)) ?_
      exact .nil
    clear H4 a4 w4 B4
    intro a5 w5 B5 H5
    refine ops_one ?_
    refine store_op (l' := [(22, .val (Zero2)), (23, .val (Zero2)), (7, .val (IsC (((X).natAbs : Int) / ((Y).natAbs : Int)))), (2, .box 25 2 (IsN X)), (3, .box 25 2 (IsN Y)), (4, .box 25 2 (Zero2)), (5, .box 25 2 (Zero2)), (6, .val (IsB false))]) 5 H5 rfl tyI rfl (.tmp 0 rfl) shape_Z shape_Z rfl rfl ?_
    clear H5 w5
    intro w6 H6
    refine ops_one ?_
    refine store_op (l' := [(22, .val (Zero2)), (23, .val (Zero2)), (7, .val (IsC (((X).natAbs : Int) / ((Y).natAbs : Int)))), (2, .box 25 2 (IsN X)), (3, .box 25 2 (IsN Y)), (4, .box 25 2 (Zero2)), (5, .box 25 2 (Zero2)), (6, .val (IsB false))]) 6 H6 rfl tyI rfl (.tmp 1 rfl) shape_Z shape_Z rfl rfl ?_
    clear H6 w6
    intro w7 H7
    refine ops_one ?_
    refine tail_op (D := .val (IsB false)) (l' := [(6, .val (IsB false)), (22, .val (Zero2)), (23, .val (Zero2)), (7, .val (IsC (((X).natAbs : Int) / ((Y).natAbs : Int)))), (2, .box 25 2 (IsN X)), (3, .box 25 2 (IsN Y)), (4, .box 25 2 (Zero2)), (5, .box 25 2 (Zero2))]) H7 rfl rfl rfl (.plain rfl (ok_assign (.lit))) rfl rfl ?_
    clear H7 a5 w7 B5
    intro a8 w8 B8 H8
    refine ops_done ?_
    refine then_normal ?_
    refine wp_ret ?_
    refine then_ret ?_
    exact f_retN H8 rfl rfl (.cell 6 tyI rfl (fun v w B h => isI_eq e1 (weakZI v w B h)) (.cell 7 tyI rfl (fun v w B h => isI_eq e2 (weakZI v w B h)) (.tmp 0 rfl (fun v w B h => isB_eq e3 h) (.nil))))
  · have eb9 : (decide (((Y).natAbs : Int) ≠ 0)) = true := decide_eq_true (by omega)
    rw [eb9] at H2
    have hz : sI ((decide (X < 0)) != (decide (Y < 0))) (((X).natAbs : Int) / ((Y).natAbs : Int)) = X.tdiv Y := sI_quo X Y y0
    have e1 := hz
    have e2 : X - (sI ((decide (X < 0)) != (decide (Y < 0))) (((X).natAbs : Int) / ((Y).natAbs : Int))) * Y = tremI X Y := by rw [hz]; exact quo_rem X Y y0
    have e3 : true = decide (Y ≠ 0) := (decide_eq_true y0).symm
    refine flow_region (dsts := [some 20, some 21]) (refs := [[.pre 1], [.res 0]]) (outs := [.res 1, .pre 0, .pre 2, .pre 3, .pre 4, .pre 5, .pre 6]) (als := [false, false]) (posts := [.val (IsB true), .val (IsB false)])
      (out := [(21, .val (IsB false)), (7, .val (IsC (((X).natAbs : Int) / ((Y).natAbs : Int)))), (2, .box 25 2 (IsN X)), (3, .box 25 2 (IsN Y)), (4, .box 25 2 (Zero2)), (5, .box 25 2 (Zero2)), (6, .val (IsB false))]) (nb := []) H2 2 [] rfl (by kernel_rfl) rfl rfl ?_ ?_
    · refine .cons (.plain rfl (ok_move (.tmp 0 rfl))) ?_
      refine .cons (.plain rfl (ok_not (b := true) (.tmp 0 rfl))) ?_
      exact .nil
    clear H2 a2 w2 B2
    intro a10 w10 B10 H10
    refine ops_done ?_
    refine then_normal ?_
    refine f_condF H10 (.tmp 0 rfl) ?_
    refine wp_skip ?_
    refine then_normal ?_
    refine wp_seq ?_
    refine flow_drawT (dsts := [some 24, some 25, some 26, some 27, some 28, some 29, some 30, some 31, some 10]) (refs := [[.pre 2], [.res 0], [.pre 3], [.res 2], [.res 1, .res 3], [.pre 1], [.res 4, .res 5], [.res 6], []]) (outs := [.res 7, .res 8, .pre 2, .pre 3, .pre 4, .pre 5, .pre 6]) (als := [false, false, false, false, false, false, false, false, true]) (posts := [.val (IsN X), .val (IsB (decide (X < 0))), .val (IsN Y), .val (IsB (decide (Y < 0))), .val (IsB ((decide (X < 0)) != (decide (Y < 0)))), .val (IsC (((X).natAbs : Int) / ((Y).natAbs : Int))), .val (IsN (sI ((decide (X < 0)) != (decide (Y < 0))) (((X).natAbs : Int) / ((Y).natAbs : Int)))), .val (IsI (sI ((decide (X < 0)) != (decide (Y < 0))) (((X).natAbs : Int) / ((Y).natAbs : Int)))), .box 25 2 (Zero2)])
      (out := [(31, .val (IsI (sI ((decide (X < 0)) != (decide (Y < 0))) (((X).natAbs : Int) / ((Y).natAbs : Int))))), (10, .box 25 2 (Zero2)), (2, .box 25 2 (IsN X)), (3, .box 25 2 (IsN Y)), (4, .box 25 2 (Zero2)), (5, .box 25 2 (Zero2)), (6, .val (IsB false))]) (nb := [10]) H10 (by kernel_rfl) 9 1 #[true, true, true, true, true, true, true, true, true, false] (by kernel_rfl) (by kernel_rfl) rfl rfl ?_ ?_
    · refine .cons (.plain rfl (ok_load tyI (.tmp 0 rfl))) ?_
      refine .cons (.plain rfl (ok_call (con_r3below X) (.cons (.tmp 0 rfl) (.nil)))) ?_
      refine .cons (.plain rfl (ok_load tyI (.tmp 0 rfl))) ?_
      refine .cons (.plain rfl (ok_call (con_r3below Y) (.cons (.tmp 0 rfl) (.nil)))) ?_
      refine .cons (.plain rfl (ok_neB Try.underlying4 (.tmp 0 rfl) (.tmp 1 rfl))) ?_
      refine .cons (.plain rfl (ok_move (.tmp 0 rfl))) ?_
      refine .cons (.plain rfl (ok_buildBN (.tmp 0 rfl) (.weak (.tmp 1 rfl) weakCM))) ?_
      refine .cons (.plain rfl (ok_call (con_r3norm (sI ((decide (X < 0)) != (decide (Y < 0))) (((X).natAbs : Int) / ((Y).natAbs : Int)))) (.cons (.tmp 0 rfl) (.nil)))) ?_
      refine .cons (.plain rfl (ok_alloc (D := Zero2) zeroI rfl (fun _ _ => rfl))) ?_
      exact .nil
    clear H10 a10 w10 B10
    intro a11 w11 B11 H11
    simp only [List.cons_append, List.nil_append] at H11
    refine any_oneT (l' := #[true, true, true, true, true, true, true, true, true, true]) 9 (by kernel_rfl) ?_
    refine store_op (l' := [(31, .val (IsI (sI ((decide (X < 0)) != (decide (Y < 0))) (((X).natAbs : Int) / ((Y).natAbs : Int))))), (10, .box 25 2 (IsI (sI ((decide (X < 0)) != (decide (Y < 0))) (((X).natAbs : Int) / ((Y).natAbs : Int))))), (2, .box 25 2 (IsN X)), (3, .box 25 2 (IsN Y)), (4, .box 25 2 (Zero2)), (5, .box 25 2 (Zero2)), (6, .val (IsB false))]) 1 H11 rfl tyI rfl (.tmp 0 rfl) shape_Z shape_I rfl rfl ?_
    clear H11 w11
    intro w12 H12
    refine any_done (by kernel_rfl) ?_
    refine then_normal ?_
    refine wp_seq ?_
    refine flow_drawT (dsts := [some 32, some 33, some 34, some 35, some 36, some 37]) (refs := [[.pre 1], [.pre 2], [.pre 1], [.pre 3], [.res 2, .res 3], [.res 1, .res 4]]) (outs := [.res 0, .res 5, .pre 4, .pre 5, .pre 6]) (als := [false, false, false, false, false, false]) (posts := [.val (IsI (sI ((decide (X < 0)) != (decide (Y < 0))) (((X).natAbs : Int) / ((Y).natAbs : Int)))), .val (IsN X), .val (IsI (sI ((decide (X < 0)) != (decide (Y < 0))) (((X).natAbs : Int) / ((Y).natAbs : Int)))), .val (IsN Y), .val (IsI ((sI ((decide (X < 0)) != (decide (Y < 0))) (((X).natAbs : Int) / ((Y).natAbs : Int))) * Y)), .val (IsI (X - ((sI ((decide (X < 0)) != (decide (Y < 0))) (((X).natAbs : Int) / ((Y).natAbs : Int))) * Y)))])
      (out := [(32, .val (IsI (sI ((decide (X < 0)) != (decide (Y < 0))) (((X).natAbs : Int) / ((Y).natAbs : Int))))), (37, .val (IsI (X - ((sI ((decide (X < 0)) != (decide (Y < 0))) (((X).natAbs : Int) / ((Y).natAbs : Int))) * Y)))), (4, .box 25 2 (Zero2)), (5, .box 25 2 (Zero2)), (6, .val (IsB false))]) (nb := []) H12 (by kernel_rfl) 6 3 #[true, true, true, true, true, true, false, false, false] (by kernel_rfl) (by kernel_rfl) rfl rfl ?_ ?_
    · refine .cons (.plain rfl (ok_load tyI (.tmp 0 rfl))) ?_
      refine .cons (.plain rfl (ok_load tyI (.tmp 0 rfl))) ?_
      refine .cons (.plain rfl (ok_load tyI (.tmp 0 rfl))) ?_
      refine .cons (.plain rfl (ok_load tyI (.tmp 0 rfl))) ?_
      refine .cons (.plain rfl (ok_call (con_r3mul (sI ((decide (X < 0)) != (decide (Y < 0))) (((X).natAbs : Int) / ((Y).natAbs : Int))) Y (show FitK k (sI ((decide (X < 0)) != (decide (Y < 0))) (((X).natAbs : Int) / ((Y).natAbs : Int))) by rw [hz]; exact hx.le (tdiv_abs _ _)) hy (by omega)) (.cons (.weak (.tmp 0 rfl) weakIN) (.cons (.tmp 1 rfl) (.nil))))) ?_
      refine .cons (.plain rfl (ok_call (con_r3sub X ((sI ((decide (X < 0)) != (decide (Y < 0))) (((X).natAbs : Int) / ((Y).natAbs : Int))) * Y) hx (show FitK k ((sI ((decide (X < 0)) != (decide (Y < 0))) (((X).natAbs : Int) / ((Y).natAbs : Int))) * Y) by rw [hz]; exact hx.le (quo_mul X Y)) (by omega)) (.cons (.tmp 0 rfl) (.cons (.weak (.tmp 1 rfl) weakIN) (.nil))))) ?_
      exact .nil
    clear H12 a11 w12 B11
    intro a13 w13 B13 H13
    refine any_oneT (l' := #[true, true, true, true, true, true, true, false, false]) 6 (by kernel_rfl) ?_
    refine store_op (l' := [(32, .val (IsI (sI ((decide (X < 0)) != (decide (Y < 0))) (((X).natAbs : Int) / ((Y).natAbs : Int))))), (37, .val (IsI (X - ((sI ((decide (X < 0)) != (decide (Y < 0))) (((X).natAbs : Int) / ((Y).natAbs : Int))) * Y)))), (4, .box 25 2 (IsI (sI ((decide (X < 0)) != (decide (Y < 0))) (((X).natAbs : Int) / ((Y).natAbs : Int))))), (5, .box 25 2 (Zero2)), (6, .val (IsB false))]) 2 H13 rfl tyI rfl (.tmp 0 rfl) shape_Z shape_I rfl rfl ?_
    clear H13 w13
    intro w14 H14
    refine any_oneT (l' := #[true, true, true, true, true, true, true, true, false]) 7 (by kernel_rfl) ?_
    refine store_op (l' := [(32, .val (IsI (sI ((decide (X < 0)) != (decide (Y < 0))) (((X).natAbs : Int) / ((Y).natAbs : Int))))), (37, .val (IsI (X - ((sI ((decide (X < 0)) != (decide (Y < 0))) (((X).natAbs : Int) / ((Y).natAbs : Int))) * Y)))), (4, .box 25 2 (IsI (sI ((decide (X < 0)) != (decide (Y < 0))) (((X).natAbs : Int) / ((Y).natAbs : Int))))), (5, .box 25 2 (IsI (X - ((sI ((decide (X < 0)) != (decide (Y < 0))) (((X).natAbs : Int) / ((Y).natAbs : Int))) * Y)))), (6, .val (IsB false))]) 3 H14 rfl tyI rfl (.tmp 1 rfl) shape_Z shape_I rfl rfl ?_
    clear H14 w14
    intro w15 H15
    refine any_oneT (l' := #[true, true, true, true, true, true, true, true, true]) 8 (by kernel_rfl) ?_
    refine tail_op (D := .val (IsB true)) (l' := [(6, .val (IsB true)), (32, .val (IsI (sI ((decide (X < 0)) != (decide (Y < 0))) (((X).natAbs : Int) / ((Y).natAbs : Int))))), (37, .val (IsI (X - ((sI ((decide (X < 0)) != (decide (Y < 0))) (((X).natAbs : Int) / ((Y).natAbs : Int))) * Y)))), (4, .box 25 2 (IsI (sI ((decide (X < 0)) != (decide (Y < 0))) (((X).natAbs : Int) / ((Y).natAbs : Int))))), (5, .box 25 2 (IsI (X - ((sI ((decide (X < 0)) != (decide (Y < 0))) (((X).natAbs : Int) / ((Y).natAbs : Int))) * Y))))]) H15 rfl rfl rfl (.plain rfl (ok_assign (.lit))) rfl rfl ?_
    clear H15 a13 w15 B13
    intro a16 w16 B16 H16
    refine any_done (by kernel_rfl) ?_
    refine then_normal ?_
    refine wp_ret ?_
    exact f_retN H16 rfl rfl (.cell 3 tyI rfl (fun v w B h => isI_eq e1 h) (.cell 4 tyI rfl (fun v w B h => isI_eq e2 h) (.tmp 0 rfl (fun v w B h => isB_eq e3 h) (.nil))))
end Go.Proofs.Ytgnophflogmmaaa
