/- Contracts of functions, and plain facts, part 26. -/
import Derived.Test.YtgnophflogmmaaaPk25
set_option linter.unusedVariables false
set_option linter.unusedSimpArgs false
/- crucibleref03: Neg Add Sub Mul. (Printed by flowfn.py.) -/
namespace Go.Proofs.Ytgnophflogmmaaa
open Go Go.RowKit

theorem FitK.abs {k : Nat} {N : Int} (h : FitK k N) : FitK k (N.natAbs : Int) := by unfold FitK at *; omega
theorem FitK.subM {k : Nat} {V U : Int} (h : FitK k V) (h0 : 0 ≤ V) (hU : 0 ≤ U) : FitK k (if U ≤ V then V - U else 0) := by unfold FitK at *; split <;> omega
theorem isI_eq {A N : Int} (e : A = N) {v : Value} {w : World} {B : Bx} (h : (IsI A).p v w B) : (IsI N).p v w B := e ▸ h
theorem sI_add (X Y : Int) (h : (decide (X < 0) == decide (Y < 0)) = true) : sI (decide (X < 0)) ((X.natAbs : Int) + (Y.natAbs : Int)) = X + Y := by
  unfold sI
  rcases Int.lt_or_le X 0 with h1 | h1 <;> rcases Int.lt_or_le Y 0 with h2 | h2
  · rw [decide_eq_true h1, decide_eq_true h2] at h
    rw [decide_eq_true h1]
    first | (cases h; done) | (simp only [if_true]; omega)
  · rw [decide_eq_true h1, decide_eq_false (by omega)] at h
    first | (cases h; done) | (rw [decide_eq_true h1]; simp only [if_true, Bool.false_eq_true, if_false]; omega)
  · rw [decide_eq_false (by omega), decide_eq_true h2] at h
    first | (cases h; done) | (rw [decide_eq_false (by omega)]; simp only [if_true, Bool.false_eq_true, if_false]; omega)
  · rw [decide_eq_false (by omega), decide_eq_false (by omega)] at h
    first | (cases h; done) | (rw [decide_eq_false (by omega)]; simp only [Bool.false_eq_true, if_false]; omega)
theorem sI_sub1 (X Y : Int) (h : (decide (X < 0) == decide (Y < 0)) = false) (hl : (Y.natAbs : Int) ≤ (X.natAbs : Int)) : sI (decide (X < 0)) (if (Y.natAbs : Int) ≤ (X.natAbs : Int) then (X.natAbs : Int) - (Y.natAbs : Int) else 0) = X + Y := by
  rw [if_pos hl]
  unfold sI
  rcases Int.lt_or_le X 0 with h1 | h1 <;> rcases Int.lt_or_le Y 0 with h2 | h2
  · rw [decide_eq_true h1, decide_eq_true h2] at h
    rw [decide_eq_true h1]
    first | (cases h; done) | (simp only [if_true]; omega)
  · rw [decide_eq_true h1, decide_eq_false (by omega)] at h
    first | (cases h; done) | (rw [decide_eq_true h1]; simp only [if_true, Bool.false_eq_true, if_false]; omega)
  · rw [decide_eq_false (by omega), decide_eq_true h2] at h
    first | (cases h; done) | (rw [decide_eq_false (by omega)]; simp only [if_true, Bool.false_eq_true, if_false]; omega)
  · rw [decide_eq_false (by omega), decide_eq_false (by omega)] at h
    first | (cases h; done) | (rw [decide_eq_false (by omega)]; simp only [Bool.false_eq_true, if_false]; omega)
theorem sI_sub2 (X Y : Int) (h : (decide (X < 0) == decide (Y < 0)) = false) (hl : ¬ (Y.natAbs : Int) ≤ (X.natAbs : Int)) : sI (decide (Y < 0)) (if (X.natAbs : Int) ≤ (Y.natAbs : Int) then (Y.natAbs : Int) - (X.natAbs : Int) else 0) = X + Y := by
  rw [if_pos (show (X.natAbs : Int) ≤ (Y.natAbs : Int) by omega)]
  unfold sI
  rcases Int.lt_or_le X 0 with h1 | h1 <;> rcases Int.lt_or_le Y 0 with h2 | h2
  · rw [decide_eq_true h1, decide_eq_true h2] at h
    rw [decide_eq_true h2]
    first | (cases h; done) | (simp only [if_true]; omega)
  · rw [decide_eq_true h1, decide_eq_false (by omega)] at h
    first | (cases h; done) | (rw [decide_eq_false (by omega)]; simp only [if_true, Bool.false_eq_true, if_false]; omega)
  · rw [decide_eq_false (by omega), decide_eq_true h2] at h
    first | (cases h; done) | (rw [decide_eq_true h2]; simp only [if_true, Bool.false_eq_true, if_false]; omega)
  · rw [decide_eq_false (by omega), decide_eq_false (by omega)] at h
    first | (cases h; done) | (rw [decide_eq_false (by omega)]; simp only [Bool.false_eq_true, if_false]; omega)
theorem sI_mul (X Y : Int) : sI (decide (X < 0) != decide (Y < 0)) ((X.natAbs : Int) * (Y.natAbs : Int)) = X * Y := by
  have e : (X.natAbs : Int) * (Y.natAbs : Int) = ((X * Y).natAbs : Int) := by rw [Int.natAbs_mul, Int.natCast_mul]
  rw [e]
  unfold sI
  rcases Int.lt_trichotomy X 0 with h1 | rfl | h1 <;> rcases Int.lt_trichotomy Y 0 with h2 | rfl | h2 <;> try (simp; done)
  · have := Int.mul_pos_of_neg_of_neg h1 h2
    rw [decide_eq_true h1, decide_eq_true h2]; simp; omega
  · have := Int.mul_neg_of_neg_of_pos h1 h2
    rw [decide_eq_true h1, decide_eq_false (by omega)]; simp; omega
  · have := Int.mul_neg_of_pos_of_neg h1 h2
    rw [decide_eq_false (by omega), decide_eq_true h2]; simp; omega
  · have := Int.mul_pos h1 h2
    rw [decide_eq_false (by omega), decide_eq_false (by omega)]; simp; omega

set_option maxRecDepth 20000 in
set_option maxHeartbeats 2000000 in
theorem con_r3neg (X : Int) : Con Try.prog 44 [IsN X] (IsI (-X)) := by
  refine f_enter (N := 10) Try.ntmps44 (fun _ _ => by go_simp) Try.func44 rfl (by simp) ?_
  intro a0 w0 B0 H0
  replace H0 : St 10 w0 B0 a0 w0 B0 [(0, .val (IsN X))] [] := H0
  refine wp_seq ?_
  refine flow_region (dsts := [some 1, some 2]) (refs := [[.pre 0], []]) (outs := [.res 0, .res 1]) (als := [true, true]) (posts := [.box 25 2 (IsN X), .box 25 2 (Zero2)])
    (out := [(1, .box 25 2 (IsN X)), (2, .box 25 2 (Zero2))]) (nb := [1, 2]) H0 2 [] rfl (by kernel_rfl) rfl rfl ?_ ?_
  · refine .cons (.plain rfl (ok_box (.tmp 0 rfl) shape_N.two)) ?_
    refine .cons (.plain rfl (ok_alloc (D := Zero2) zeroI rfl (fun _ _ => rfl))) ?_
    exact .nil
  clear H0
  intro a1 w1 B1 H1
  simp only [List.cons_append, List.nil_append] at H1
  refine ops_done ?_
  refine then_normal ?_
  refine wp_seq ?_
  refine flow_region (dsts := [some 3, some 4, some 5, some 6, some 7, some 8, some 9]) (refs := [[.pre 0], [.res 0], [.res 1], [.pre 0], [.res 3], [.res 2, .res 4], [.res 5]]) (outs := [.res 6, .pre 1]) (als := [false, false, false, false, false, false, false]) (posts := [.ptr 25 2 (IsN X) 0, .val (IsSg X), .val (IsSg (-X)), .ptr 25 2 (IsN X) 1, .val (IsM ((X).natAbs : Int)), .val (IsN (-X)), .val (IsI (-X))])
    (out := [(9, .val (IsI (-X))), (2, .box 25 2 (Zero2))]) (nb := []) H1 7 [7] rfl (by kernel_rfl) rfl rfl ?_ ?_
  · refine .cons (.plain rfl (ok_addrI0 (.tmp 0 rfl))) ?_
    refine .cons (.plain rfl (ok_loadNegN (.tmp 0 rfl))) ?_
    refine .cons (.plain rfl (ok_notSg (.tmp 0 rfl))) ?_
    refine .cons (.plain rfl (ok_addrI1 (.tmp 0 rfl))) ?_
    refine .cons (.plain rfl (ok_loadMagN (.tmp 0 rfl))) ?_
    refine .cons (.plain rfl (ok_buildSN (.tmp 0 rfl) (Opd.eqM (.tmp 1 rfl) (by rw [Int.natAbs_neg])))) ?_
    refine .cons (.plain rfl (ok_call (con_r3norm (-X)) (.cons (.tmp 0 rfl) (.nil)))) ?_
    exact .nil
  clear H1 a1 w1 B1
  intro a2 w2 B2 H2
  refine ops_one ?_
  refine store_op (l' := [(9, .val (IsI (-X))), (2, .box 25 2 (IsI (-X)))]) 1 H2 rfl tyI rfl (.tmp 0 rfl) shape_Z shape_I rfl rfl ?_
  clear H2 w2
  intro w3 H3
  refine ops_done ?_
  refine then_normal ?_
  refine wp_ret ?_
  exact f_retC H3 tyI rfl 1 rfl (fun _ _ _ h => h)

set_option maxRecDepth 20000 in
set_option maxHeartbeats 2000000 in
theorem con_r3add (X Y : Int) {k m : Nat} (hx : FitK k X) (hy : FitK m Y) (hk : k + m + 1 ≤ 274877906944) : Con Try.prog 45 [IsN X, IsN Y] (IsI (X + Y)) := by
  refine f_enter (N := 50) Try.ntmps45 (fun _ _ => by go_simp) Try.func45 rfl (by simp) ?_
  intro a0 w0 B0 H0
  replace H0 : St 50 w0 B0 a0 w0 B0 [(0, .val (IsN X)), (1, .val (IsN Y))] [] := H0
  refine wp_seq ?_
  refine flow_region (dsts := [some 2, some 3, some 4]) (refs := [[.pre 0], [.pre 1], []]) (outs := [.res 0, .res 1, .res 2]) (als := [true, true, true]) (posts := [.box 25 2 (IsN X), .box 25 2 (IsN Y), .box 25 2 (Zero2)])
    (out := [(2, .box 25 2 (IsN X)), (3, .box 25 2 (IsN Y)), (4, .box 25 2 (Zero2))]) (nb := [2, 3, 4]) H0 3 [] rfl (by kernel_rfl) rfl rfl ?_ ?_
  · refine .cons (.plain rfl (ok_box (.tmp 0 rfl) shape_N.two)) ?_
    refine .cons (.plain rfl (ok_box (.tmp 0 rfl) shape_N.two)) ?_
    refine .cons (.plain rfl (ok_alloc (D := Zero2) zeroI rfl (fun _ _ => rfl))) ?_
    exact .nil
  clear H0
  intro a1 w1 B1 H1
  simp only [List.cons_append, List.nil_append] at H1
  refine ops_done ?_
  refine then_normal ?_
  refine wp_seq ?_
  refine wp_seq ?_
  refine flow_drawT (dsts := [some 9, some 10, some 11, some 12, some 13]) (refs := [[.pre 0], [.res 0], [.pre 1], [.res 2], [.res 1, .res 3]]) (outs := [.res 4, .pre 0, .pre 1, .pre 2]) (als := [false, false, false, false, false]) (posts := [.val (IsN X), .val (IsB (decide (X < 0))), .val (IsN Y), .val (IsB (decide (Y < 0))), .val (IsB ((decide (X < 0)) == (decide (Y < 0))))])
    (out := [(13, .val (IsB ((decide (X < 0)) == (decide (Y < 0))))), (2, .box 25 2 (IsN X)), (3, .box 25 2 (IsN Y)), (4, .box 25 2 (Zero2))]) (nb := []) H1 (by kernel_rfl) 5 0 #[true, true, true, true, true] (by kernel_rfl) (by kernel_rfl) rfl rfl ?_ ?_
  · refine .cons (.plain rfl (ok_load tyI (.tmp 0 rfl))) ?_
    refine .cons (.plain rfl (ok_call (con_r3below X) (.cons (.tmp 0 rfl) (.nil)))) ?_
    refine .cons (.plain rfl (ok_load tyI (.tmp 0 rfl))) ?_
    refine .cons (.plain rfl (ok_call (con_r3below Y) (.cons (.tmp 0 rfl) (.nil)))) ?_
    refine .cons (.plain rfl (ok_eqB Try.underlying4 (.tmp 0 rfl) (.tmp 1 rfl))) ?_
    exact .nil
  clear H1 a1 w1 B1
  intro a2 w2 B2 H2
  refine any_done (by kernel_rfl) ?_
  refine then_normal ?_
  refine f_cond H2 (.tmp 0 rfl) ?_ ?_
  · intro hc3
    refine wp_seq ?_
    refine flow_drawT (dsts := [some 14, some 15, some 16, some 17, some 18, some 19, some 20, some 21, some 22]) (refs := [[.pre 1], [.res 0], [.pre 1], [.res 2], [.pre 2], [.res 4], [.res 3, .res 5], [.res 1, .res 6], [.res 7]]) (outs := [.res 8, .pre 1, .pre 2, .pre 3]) (als := [false, false, false, false, false, false, false, false, false]) (posts := [.val (IsN X), .val (IsB (decide (X < 0))), .ptr 25 2 (IsN X) 1, .val (IsM ((X).natAbs : Int)), .ptr 25 2 (IsN Y) 1, .val (IsM ((Y).natAbs : Int)), .val (IsC (((X).natAbs : Int) + ((Y).natAbs : Int))), .val (IsN (sI (decide (X < 0)) (((X).natAbs : Int) + ((Y).natAbs : Int)))), .val (IsI (sI (decide (X < 0)) (((X).natAbs : Int) + ((Y).natAbs : Int))))])
      (out := [(22, .val (IsI (sI (decide (X < 0)) (((X).natAbs : Int) + ((Y).natAbs : Int))))), (2, .box 25 2 (IsN X)), (3, .box 25 2 (IsN Y)), (4, .box 25 2 (Zero2))]) (nb := []) H2 (by kernel_rfl) 9 1 #[true, true, true, true, true, true, true, true, true, false] (by kernel_rfl) (by kernel_rfl) rfl rfl ?_ ?_
    · refine .cons (.plain rfl (ok_load tyI (.tmp 0 rfl))) ?_
      refine .cons (.plain rfl (ok_call (con_r3below X) (.cons (.tmp 0 rfl) (.nil)))) ?_
      refine .cons (.plain rfl (ok_addrI1 (.tmp 0 rfl))) ?_
      refine .cons (.plain rfl (ok_loadMagN (.tmp 0 rfl))) ?_
      refine .cons (.plain rfl (ok_addrI1 (.tmp 0 rfl))) ?_
      refine .cons (.plain rfl (ok_loadMagN (.tmp 0 rfl))) ?_
      refine .cons (.plain rfl (ok_call (con_radd ((X).natAbs : Int) ((Y).natAbs : Int) (((hx.abs.add hy.abs)).fits (by omega))) (.cons (.tmp 0 rfl) (.cons (.tmp 1 rfl) (.nil))))) ?_
      refine .cons (.plain rfl (ok_buildBN (.tmp 0 rfl) (.weak (.tmp 1 rfl) weakCM))) ?_
      refine .cons (.plain rfl (ok_call (con_r3norm (sI (decide (X < 0)) (((X).natAbs : Int) + ((Y).natAbs : Int)))) (.cons (.tmp 0 rfl) (.nil)))) ?_
      exact .nil
    clear H2 a2 w2 B2
    intro a4 w4 B4 H4
    refine any_oneT (l' := #[true, true, true, true, true, true, true, true, true, true]) 9 (by kernel_rfl) ?_
    refine store_op (l' := [(22, .val (IsI (sI (decide (X < 0)) (((X).natAbs : Int) + ((Y).natAbs : Int))))), (2, .box 25 2 (IsN X)), (3, .box 25 2 (IsN Y)), (4, .box 25 2 (IsI (sI (decide (X < 0)) (((X).natAbs : Int) + ((Y).natAbs : Int)))))]) 3 H4 rfl tyI rfl (.tmp 0 rfl) shape_Z shape_I rfl rfl ?_
    clear H4 w4
    intro w5 H5
    refine any_done (by kernel_rfl) ?_
    refine then_normal ?_
    refine wp_ret ?_
    refine then_ret ?_
    exact f_retC H5 tyI rfl 3 rfl (fun v w B h => by first | exact isI_eq (sI_add X Y (by assumption)) h | exact isI_eq (sI_sub1 X Y (by assumption) (by assumption)) h | exact isI_eq (sI_sub2 X Y (by assumption) (by assumption)) h)
  · intro hc3
    refine wp_skip ?_
    refine then_normal ?_
    refine wp_seq ?_
    refine wp_seq ?_
    refine flow_region (dsts := [some 24, some 25, some 26, some 27, some 28, some 23, some 29, some 30, some 5, some 6]) (refs := [[.pre 1], [.res 0], [.pre 2], [.res 2], [.res 1, .res 3], [.res 4], [.res 5], [.res 5], [.res 6], [.res 7]]) (outs := [.res 8, .res 9, .pre 1, .pre 2, .pre 3]) (als := [false, false, false, false, false, false, false, false, false, false]) (posts := [.ptr 25 2 (IsN X) 1, .val (IsM ((X).natAbs : Int)), .ptr 25 2 (IsN Y) 1, .val (IsM ((Y).natAbs : Int)), .val (Tup [IsC (if ((Y).natAbs : Int) ≤ ((X).natAbs : Int) then ((X).natAbs : Int) - ((Y).natAbs : Int) else 0), IsB (decide (((Y).natAbs : Int) ≤ ((X).natAbs : Int)))]), .val (Tup [IsC (if ((Y).natAbs : Int) ≤ ((X).natAbs : Int) then ((X).natAbs : Int) - ((Y).natAbs : Int) else 0), IsB (decide (((Y).natAbs : Int) ≤ ((X).natAbs : Int)))]), .val (IsC (if ((Y).natAbs : Int) ≤ ((X).natAbs : Int) then ((X).natAbs : Int) - ((Y).natAbs : Int) else 0)), .val (IsB (decide (((Y).natAbs : Int) ≤ ((X).natAbs : Int)))), .val (IsC (if ((Y).natAbs : Int) ≤ ((X).natAbs : Int) then ((X).natAbs : Int) - ((Y).natAbs : Int) else 0)), .val (IsB (decide (((Y).natAbs : Int) ≤ ((X).natAbs : Int))))])
      (out := [(5, .val (IsC (if ((Y).natAbs : Int) ≤ ((X).natAbs : Int) then ((X).natAbs : Int) - ((Y).natAbs : Int) else 0))), (6, .val (IsB (decide (((Y).natAbs : Int) ≤ ((X).natAbs : Int))))), (2, .box 25 2 (IsN X)), (3, .box 25 2 (IsN Y)), (4, .box 25 2 (Zero2))]) (nb := []) H2 10 [] rfl (by kernel_rfl) rfl rfl ?_ ?_
    · refine .cons (.plain rfl (ok_addrI1 (.tmp 0 rfl))) ?_
      refine .cons (.plain rfl (ok_loadMagN (.tmp 0 rfl))) ?_
      refine .cons (.plain rfl (ok_addrI1 (.tmp 0 rfl))) ?_
      refine .cons (.plain rfl (ok_loadMagN (.tmp 0 rfl))) ?_
      refine .cons (.plain rfl (ok_call (con_rsub ((X).natAbs : Int) ((Y).natAbs : Int)) (.cons (.tmp 0 rfl) (.cons (.tmp 1 rfl) (.nil))))) ?_
      refine .cons (.plain rfl (ok_move (.tmp 0 rfl))) ?_
      refine .cons (.plain rfl (ok_extract 0 (.tmp 0 rfl) rfl)) ?_
      refine .cons (.plain rfl (ok_extract 1 (.tmp 0 rfl) rfl)) ?_
      refine .cons (.plain rfl (ok_assign (.tmp 0 rfl))) ?_
      refine .cons (.plain rfl (ok_assign (.tmp 0 rfl))) ?_
      exact .nil
    clear H2 a2 w2 B2
    intro a6 w6 B6 H6
    refine ops_done ?_
    refine then_normal ?_
    refine wp_seq ?_
    refine flow_region (dsts := [some 31]) (refs := [[.pre 1]]) (outs := [.res 0, .pre 0, .pre 2, .pre 3, .pre 4]) (als := [false]) (posts := [.val (IsB (decide (((Y).natAbs : Int) ≤ ((X).natAbs : Int))))])
      (out := [(31, .val (IsB (decide (((Y).natAbs : Int) ≤ ((X).natAbs : Int))))), (5, .val (IsC (if ((Y).natAbs : Int) ≤ ((X).natAbs : Int) then ((X).natAbs : Int) - ((Y).natAbs : Int) else 0))), (2, .box 25 2 (IsN X)), (3, .box 25 2 (IsN Y)), (4, .box 25 2 (Zero2))]) (nb := []) H6 1 [] rfl (by kernel_rfl) rfl rfl ?_ ?_
    · refine .cons (.plain rfl (ok_move (.tmp 0 rfl))) ?_
      exact .nil
    clear H6 a6 w6 B6
    intro a7 w7 B7 H7
    refine ops_done ?_
    refine then_normal ?_
    refine f_cond H7 (.tmp 0 rfl) ?_ ?_
    · intro hc8
      replace hc8 := of_decide_eq_true hc8
      refine wp_seq ?_
      refine flow_region (dsts := [some 32, some 33, some 34, some 35, some 36]) (refs := [[.pre 2], [.res 0], [.pre 1], [.res 1, .res 2], [.res 3]]) (outs := [.res 4, .pre 2, .pre 3, .pre 4]) (als := [false, false, false, false, false]) (posts := [.val (IsN X), .val (IsB (decide (X < 0))), .val (IsC (if ((Y).natAbs : Int) ≤ ((X).natAbs : Int) then ((X).natAbs : Int) - ((Y).natAbs : Int) else 0)), .val (IsN (sI (decide (X < 0)) (if ((Y).natAbs : Int) ≤ ((X).natAbs : Int) then ((X).natAbs : Int) - ((Y).natAbs : Int) else 0))), .val (IsI (sI (decide (X < 0)) (if ((Y).natAbs : Int) ≤ ((X).natAbs : Int) then ((X).natAbs : Int) - ((Y).natAbs : Int) else 0)))])
        (out := [(36, .val (IsI (sI (decide (X < 0)) (if ((Y).natAbs : Int) ≤ ((X).natAbs : Int) then ((X).natAbs : Int) - ((Y).natAbs : Int) else 0)))), (2, .box 25 2 (IsN X)), (3, .box 25 2 (IsN Y)), (4, .box 25 2 (Zero2))]) (nb := []) H7 5 [5] rfl (by kernel_rfl) rfl rfl ?_ ?_
      · refine .cons (.plain rfl (ok_load tyI (.tmp 0 rfl))) ?_
        refine .cons (.plain rfl (ok_call (con_r3below X) (.cons (.tmp 0 rfl) (.nil)))) ?_
        refine .cons (.plain rfl (ok_move (.tmp 0 rfl))) ?_
        refine .cons (.plain rfl (ok_buildBN (.tmp 0 rfl) (.weak (.tmp 1 rfl) weakCM))) ?_
        refine .cons (.plain rfl (ok_call (con_r3norm (sI (decide (X < 0)) (if ((Y).natAbs : Int) ≤ ((X).natAbs : Int) then ((X).natAbs : Int) - ((Y).natAbs : Int) else 0))) (.cons (.tmp 0 rfl) (.nil)))) ?_
        exact .nil
      clear H7 a7 w7 B7
      intro a9 w9 B9 H9
      refine ops_one ?_
      refine store_op (l' := [(36, .val (IsI (sI (decide (X < 0)) (if ((Y).natAbs : Int) ≤ ((X).natAbs : Int) then ((X).natAbs : Int) - ((Y).natAbs : Int) else 0)))), (2, .box 25 2 (IsN X)), (3, .box 25 2 (IsN Y)), (4, .box 25 2 (IsI (sI (decide (X < 0)) (if ((Y).natAbs : Int) ≤ ((X).natAbs : Int) then ((X).natAbs : Int) - ((Y).natAbs : Int) else 0))))]) 3 H9 rfl tyI rfl (.tmp 0 rfl) shape_Z shape_I rfl rfl ?_
      clear H9 w9
      intro w10 H10
      refine ops_done ?_
      refine then_normal ?_
      refine wp_ret ?_
      refine then_ret ?_
      exact f_retC H10 tyI rfl 3 rfl (fun v w B h => by first | exact isI_eq (sI_add X Y (by assumption)) h | exact isI_eq (sI_sub1 X Y (by assumption) (by assumption)) h | exact isI_eq (sI_sub2 X Y (by assumption) (by assumption)) h)
    · intro hc8
      replace hc8 := of_decide_eq_false hc8
      refine wp_skip ?_
      refine then_normal ?_
      refine wp_seq ?_
      refine flow_region (dsts := [some 38, some 39, some 40, some 41, some 42, some 37, some 43, some 44, some 7, some 8]) (refs := [[.pre 3], [.res 0], [.pre 2], [.res 2], [.res 1, .res 3], [.res 4], [.res 5], [.res 5], [.res 6], [.res 7]]) (outs := [.res 8, .pre 3, .pre 4]) (als := [false, false, false, false, false, false, false, false, false, false]) (posts := [.ptr 25 2 (IsN Y) 1, .val (IsM ((Y).natAbs : Int)), .ptr 25 2 (IsN X) 1, .val (IsM ((X).natAbs : Int)), .val (Tup [IsC (if ((X).natAbs : Int) ≤ ((Y).natAbs : Int) then ((Y).natAbs : Int) - ((X).natAbs : Int) else 0), IsB (decide (((X).natAbs : Int) ≤ ((Y).natAbs : Int)))]), .val (Tup [IsC (if ((X).natAbs : Int) ≤ ((Y).natAbs : Int) then ((Y).natAbs : Int) - ((X).natAbs : Int) else 0), IsB (decide (((X).natAbs : Int) ≤ ((Y).natAbs : Int)))]), .val (IsC (if ((X).natAbs : Int) ≤ ((Y).natAbs : Int) then ((Y).natAbs : Int) - ((X).natAbs : Int) else 0)), .val (IsB (decide (((X).natAbs : Int) ≤ ((Y).natAbs : Int)))), .val (IsC (if ((X).natAbs : Int) ≤ ((Y).natAbs : Int) then ((Y).natAbs : Int) - ((X).natAbs : Int) else 0)), .val (IsB (decide (((X).natAbs : Int) ≤ ((Y).natAbs : Int))))])
        (out := [(7, .val (IsC (if ((X).natAbs : Int) ≤ ((Y).natAbs : Int) then ((Y).natAbs : Int) - ((X).natAbs : Int) else 0))), (3, .box 25 2 (IsN Y)), (4, .box 25 2 (Zero2))]) (nb := []) H7 10 [] rfl (by kernel_rfl) rfl rfl ?_ ?_
      · refine .cons (.plain rfl (ok_addrI1 (.tmp 0 rfl))) ?_
        refine .cons (.plain rfl (ok_loadMagN (.tmp 0 rfl))) ?_
        refine .cons (.plain rfl (ok_addrI1 (.tmp 0 rfl))) ?_
        refine .cons (.plain rfl (ok_loadMagN (.tmp 0 rfl))) ?_
        refine .cons (.plain rfl (ok_call (con_rsub ((Y).natAbs : Int) ((X).natAbs : Int)) (.cons (.tmp 0 rfl) (.cons (.tmp 1 rfl) (.nil))))) ?_
        refine .cons (.plain rfl (ok_move (.tmp 0 rfl))) ?_
        refine .cons (.plain rfl (ok_extract 0 (.tmp 0 rfl) rfl)) ?_
        refine .cons (.plain rfl (ok_extract 1 (.tmp 0 rfl) rfl)) ?_
        refine .cons (.plain rfl (ok_assign (.tmp 0 rfl))) ?_
        refine .cons (.plain rfl (ok_assign (.tmp 0 rfl))) ?_
        exact .nil
      clear H7 a7 w7 B7
      intro a11 w11 B11 H11
      refine ops_done ?_
      refine then_normal ?_
      refine wp_seq ?_
      refine flow_region (dsts := [some 45, some 46, some 47, some 48, some 49]) (refs := [[.pre 1], [.res 0], [.pre 0], [.res 1, .res 2], [.res 3]]) (outs := [.res 4, .pre 2]) (als := [false, false, false, false, false]) (posts := [.val (IsN Y), .val (IsB (decide (Y < 0))), .val (IsC (if ((X).natAbs : Int) ≤ ((Y).natAbs : Int) then ((Y).natAbs : Int) - ((X).natAbs : Int) else 0)), .val (IsN (sI (decide (Y < 0)) (if ((X).natAbs : Int) ≤ ((Y).natAbs : Int) then ((Y).natAbs : Int) - ((X).natAbs : Int) else 0))), .val (IsI (sI (decide (Y < 0)) (if ((X).natAbs : Int) ≤ ((Y).natAbs : Int) then ((Y).natAbs : Int) - ((X).natAbs : Int) else 0)))])
        (out := [(49, .val (IsI (sI (decide (Y < 0)) (if ((X).natAbs : Int) ≤ ((Y).natAbs : Int) then ((Y).natAbs : Int) - ((X).natAbs : Int) else 0)))), (4, .box 25 2 (Zero2))]) (nb := []) H11 5 [5] rfl (by kernel_rfl) rfl rfl ?_ ?_
      · refine .cons (.plain rfl (ok_load tyI (.tmp 0 rfl))) ?_
        refine .cons (.plain rfl (ok_call (con_r3below Y) (.cons (.tmp 0 rfl) (.nil)))) ?_
        refine .cons (.plain rfl (ok_move (.tmp 0 rfl))) ?_
        refine .cons (.plain rfl (ok_buildBN (.tmp 0 rfl) (.weak (.tmp 1 rfl) weakCM))) ?_
        refine .cons (.plain rfl (ok_call (con_r3norm (sI (decide (Y < 0)) (if ((X).natAbs : Int) ≤ ((Y).natAbs : Int) then ((Y).natAbs : Int) - ((X).natAbs : Int) else 0))) (.cons (.tmp 0 rfl) (.nil)))) ?_
        exact .nil
      clear H11 a11 w11 B11
      intro a12 w12 B12 H12
      refine ops_one ?_
      refine store_op (l' := [(49, .val (IsI (sI (decide (Y < 0)) (if ((X).natAbs : Int) ≤ ((Y).natAbs : Int) then ((Y).natAbs : Int) - ((X).natAbs : Int) else 0)))), (4, .box 25 2 (IsI (sI (decide (Y < 0)) (if ((X).natAbs : Int) ≤ ((Y).natAbs : Int) then ((Y).natAbs : Int) - ((X).natAbs : Int) else 0))))]) 1 H12 rfl tyI rfl (.tmp 0 rfl) shape_Z shape_I rfl rfl ?_
      clear H12 w12
      intro w13 H13
      refine ops_done ?_
      refine then_normal ?_
      refine wp_ret ?_
      exact f_retC H13 tyI rfl 1 rfl (fun v w B h => by first | exact isI_eq (sI_add X Y (by assumption)) h | exact isI_eq (sI_sub1 X Y (by assumption) (by assumption)) h | exact isI_eq (sI_sub2 X Y (by assumption) (by assumption)) h)

set_option maxRecDepth 20000 in
set_option maxHeartbeats 2000000 in
theorem con_r3sub (X Y : Int) {k m : Nat} (hx : FitK k X) (hy : FitK m Y) (hk : k + m + 1 ≤ 274877906944) : Con Try.prog 46 [IsN X, IsN Y] (IsI (X - Y)) := by
  refine f_enter (N := 9) Try.ntmps46 (fun _ _ => by go_simp) Try.func46 rfl (by simp) ?_
  intro a0 w0 B0 H0
  replace H0 : St 9 w0 B0 a0 w0 B0 [(0, .val (IsN X)), (1, .val (IsN Y))] [] := H0
  refine wp_seq ?_
  refine flow_region (dsts := [some 2, some 3, some 4]) (refs := [[.pre 0], [.pre 1], []]) (outs := [.res 0, .res 1, .res 2]) (als := [true, true, true]) (posts := [.box 25 2 (IsN X), .box 25 2 (IsN Y), .box 25 2 (Zero2)])
    (out := [(2, .box 25 2 (IsN X)), (3, .box 25 2 (IsN Y)), (4, .box 25 2 (Zero2))]) (nb := [2, 3, 4]) H0 3 [] rfl (by kernel_rfl) rfl rfl ?_ ?_
  · refine .cons (.plain rfl (ok_box (.tmp 0 rfl) shape_N.two)) ?_
    refine .cons (.plain rfl (ok_box (.tmp 0 rfl) shape_N.two)) ?_
    refine .cons (.plain rfl (ok_alloc (D := Zero2) zeroI rfl (fun _ _ => rfl))) ?_
    exact .nil
  clear H0
  intro a1 w1 B1 H1
  simp only [List.cons_append, List.nil_append] at H1
  refine ops_done ?_
  refine then_normal ?_
  refine wp_seq ?_
  refine flow_drawT (dsts := [some 5, some 6, some 7, some 8]) (refs := [[.pre 0], [.pre 1], [.res 1], [.res 0, .res 2]]) (outs := [.res 3, .pre 2]) (als := [false, false, false, false]) (posts := [.val (IsN X), .val (IsN Y), .val (IsI (-Y)), .val (IsI (X + (-Y)))])
    (out := [(8, .val (IsI (X + (-Y)))), (4, .box 25 2 (Zero2))]) (nb := []) H1 (by kernel_rfl) 4 1 #[true, true, true, true, false] (by kernel_rfl) (by kernel_rfl) rfl rfl ?_ ?_
  · refine .cons (.plain rfl (ok_load tyI (.tmp 0 rfl))) ?_
    refine .cons (.plain rfl (ok_load tyI (.tmp 0 rfl))) ?_
    refine .cons (.plain rfl (ok_call (con_r3neg Y) (.cons (.tmp 0 rfl) (.nil)))) ?_
    refine .cons (.plain rfl (ok_call (con_r3add X (-Y) hx hy.neg (by omega)) (.cons (.tmp 0 rfl) (.cons (.weak (.tmp 1 rfl) weakIN) (.nil))))) ?_
    exact .nil
  clear H1 a1 w1 B1
  intro a2 w2 B2 H2
  refine any_oneT (l' := #[true, true, true, true, true]) 4 (by kernel_rfl) ?_
  refine store_op (l' := [(8, .val (IsI (X + (-Y)))), (4, .box 25 2 (IsI (X + (-Y))))]) 1 H2 rfl tyI rfl (.tmp 0 rfl) shape_Z shape_I rfl rfl ?_
  clear H2 w2
  intro w3 H3
  refine any_done (by kernel_rfl) ?_
  refine then_normal ?_
  refine wp_ret ?_
  exact f_retC H3 tyI rfl 1 rfl (fun v w B h => by exact isI_eq (Int.sub_eq_add_neg).symm h)

set_option maxRecDepth 20000 in
set_option maxHeartbeats 2000000 in
theorem con_r3mul (X Y : Int) {k m : Nat} (hx : FitK k X) (hy : FitK m Y) (hk : k + m + 1 ≤ 274877906944) : Con Try.prog 47 [IsN X, IsN Y] (IsI (X * Y)) := by
  refine f_enter (N := 17) Try.ntmps47 (fun _ _ => by go_simp) Try.func47 rfl (by simp) ?_
  intro a0 w0 B0 H0
  replace H0 : St 17 w0 B0 a0 w0 B0 [(0, .val (IsN X)), (1, .val (IsN Y))] [] := H0
  refine wp_seq ?_
  refine flow_region (dsts := [some 2, some 3, some 4]) (refs := [[.pre 0], [.pre 1], []]) (outs := [.res 0, .res 1, .res 2]) (als := [true, true, true]) (posts := [.box 25 2 (IsN X), .box 25 2 (IsN Y), .box 25 2 (Zero2)])
    (out := [(2, .box 25 2 (IsN X)), (3, .box 25 2 (IsN Y)), (4, .box 25 2 (Zero2))]) (nb := [2, 3, 4]) H0 3 [] rfl (by kernel_rfl) rfl rfl ?_ ?_
  · refine .cons (.plain rfl (ok_box (.tmp 0 rfl) shape_N.two)) ?_
    refine .cons (.plain rfl (ok_box (.tmp 0 rfl) shape_N.two)) ?_
    refine .cons (.plain rfl (ok_alloc (D := Zero2) zeroI rfl (fun _ _ => rfl))) ?_
    exact .nil
  clear H0
  intro a1 w1 B1 H1
  simp only [List.cons_append, List.nil_append] at H1
  refine ops_done ?_
  refine then_normal ?_
  refine wp_seq ?_
  refine flow_drawT (dsts := [some 5, some 6, some 7, some 8, some 9, some 10, some 11, some 12, some 13, some 14, some 15, some 16]) (refs := [[.pre 0], [.res 0], [.pre 1], [.res 2], [.res 1, .res 3], [.pre 0], [.res 5], [.pre 1], [.res 7], [.res 6, .res 8], [.res 4, .res 9], [.res 10]]) (outs := [.res 11, .pre 2]) (als := [false, false, false, false, false, false, false, false, false, false, false, false]) (posts := [.val (IsN X), .val (IsB (decide (X < 0))), .val (IsN Y), .val (IsB (decide (Y < 0))), .val (IsB ((decide (X < 0)) != (decide (Y < 0)))), .ptr 25 2 (IsN X) 1, .val (IsM ((X).natAbs : Int)), .ptr 25 2 (IsN Y) 1, .val (IsM ((Y).natAbs : Int)), .val (IsC (((X).natAbs : Int) * ((Y).natAbs : Int))), .val (IsN (sI ((decide (X < 0)) != (decide (Y < 0))) (((X).natAbs : Int) * ((Y).natAbs : Int)))), .val (IsI (sI ((decide (X < 0)) != (decide (Y < 0))) (((X).natAbs : Int) * ((Y).natAbs : Int))))])
    (out := [(16, .val (IsI (sI ((decide (X < 0)) != (decide (Y < 0))) (((X).natAbs : Int) * ((Y).natAbs : Int))))), (4, .box 25 2 (Zero2))]) (nb := []) H1 (by kernel_rfl) 12 1 #[true, true, true, true, true, true, true, true, true, true, true, true, false] (by kernel_rfl) (by kernel_rfl) rfl rfl ?_ ?_
  · refine .cons (.plain rfl (ok_load tyI (.tmp 0 rfl))) ?_
    refine .cons (.plain rfl (ok_call (con_r3below X) (.cons (.tmp 0 rfl) (.nil)))) ?_
    refine .cons (.plain rfl (ok_load tyI (.tmp 0 rfl))) ?_
    refine .cons (.plain rfl (ok_call (con_r3below Y) (.cons (.tmp 0 rfl) (.nil)))) ?_
    refine .cons (.plain rfl (ok_neB Try.underlying4 (.tmp 0 rfl) (.tmp 1 rfl))) ?_
    refine .cons (.plain rfl (ok_addrI1 (.tmp 0 rfl))) ?_
    refine .cons (.plain rfl (ok_loadMagN (.tmp 0 rfl))) ?_
    refine .cons (.plain rfl (ok_addrI1 (.tmp 0 rfl))) ?_
    refine .cons (.plain rfl (ok_loadMagN (.tmp 0 rfl))) ?_
    refine .cons (.plain rfl (ok_call (con_rmul ((X).natAbs : Int) ((Y).natAbs : Int) (((hx.abs.mul hy.abs)).fits (by omega))) (.cons (.tmp 0 rfl) (.cons (.tmp 1 rfl) (.nil))))) ?_
    refine .cons (.plain rfl (ok_buildBN (.tmp 0 rfl) (.weak (.tmp 1 rfl) weakCM))) ?_
    refine .cons (.plain rfl (ok_call (con_r3norm (sI ((decide (X < 0)) != (decide (Y < 0))) (((X).natAbs : Int) * ((Y).natAbs : Int)))) (.cons (.tmp 0 rfl) (.nil)))) ?_
    exact .nil
  clear H1 a1 w1 B1
  intro a2 w2 B2 H2
  refine any_oneT (l' := #[true, true, true, true, true, true, true, true, true, true, true, true, true]) 12 (by kernel_rfl) ?_
  refine store_op (l' := [(16, .val (IsI (sI ((decide (X < 0)) != (decide (Y < 0))) (((X).natAbs : Int) * ((Y).natAbs : Int))))), (4, .box 25 2 (IsI (sI ((decide (X < 0)) != (decide (Y < 0))) (((X).natAbs : Int) * ((Y).natAbs : Int)))))]) 1 H2 rfl tyI rfl (.tmp 0 rfl) shape_Z shape_I rfl rfl ?_
  clear H2 w2
  intro w3 H3
  refine any_done (by kernel_rfl) ?_
  refine then_normal ?_
  refine wp_ret ?_
  exact f_retC H3 tyI rfl 1 rfl (fun v w B h => by exact isI_eq (sI_mul X Y) h)
end Go.Proofs.Ytgnophflogmmaaa
