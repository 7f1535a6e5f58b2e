/- Contracts of functions, and plain facts, part 27. -/
import Derived.Test.YtgnophflogmmaaaPk25
set_option linter.unusedVariables false
set_option linter.unusedSimpArgs false
/- R3cmp. (Printed by flowfn.py.) -/
namespace Go.Proofs.Ytgnophflogmmaaa
open Go Go.RowKit

theorem lit_int {A N : Int} {k : IntKind} (e : A = N) {v : Value} {w : World} {B : Bx} (h : (Lit (.int k A)).p v w B) : (Lit (.int k N)).p v w B := e ▸ h

set_option maxRecDepth 20000 in
set_option maxHeartbeats 2000000 in
theorem con_r3cmp (X Y : Int) : Con Try.prog 43 [IsN X, IsN Y] (Lit (.int .i64 (cmpI X Y))) := by
  refine f_enter (N := 34) Try.ntmps43 (fun _ _ => by go_simp) Try.func43 rfl (by simp) ?_
  intro a0 w0 B0 H0
  replace H0 : St 34 w0 B0 a0 w0 B0 [(0, .val (IsN X)), (1, .val (IsN Y))] [] := H0
  refine wp_seq ?_
  refine flow_region (dsts := [some 2, some 3, some 4]) (refs := [[.pre 0], [.pre 1], []]) (outs := [.res 0, .res 1, .res 2]) (als := [true, true, false]) (posts := [.box 25 2 (IsN X), .box 25 2 (IsN Y), .val (Lit (.int .i64 0))])
    (out := [(2, .box 25 2 (IsN X)), (3, .box 25 2 (IsN Y)), (4, .val (Lit (.int .i64 0)))]) (nb := [2, 3]) H0 3 [] rfl (by kernel_rfl) rfl rfl ?_ ?_
  · refine .cons (.plain rfl (ok_box (.tmp 0 rfl) shape_N.two)) ?_
    refine .cons (.plain rfl (ok_box (.tmp 0 rfl) shape_N.two)) ?_
    refine .cons (.plain rfl (ok_assign (.lit))) ?_
    exact .nil
  clear H0
  intro a1 w1 B1 H1
  simp only [List.cons_append, List.nil_append] at H1
  refine ops_done ?_
  refine then_normal ?_
  refine wp_seq ?_
  refine wp_block ?_
  refine wp_seq ?_
  refine flow_region (dsts := [some 6, some 7, some 8, some 9, some 10, some 11, some 12, some 5]) (refs := [[.pre 0], [.res 0], [.res 1], [.res 2, .pre 1], [.res 2, .res 3], [.res 2, .res 4], [.res 2, .res 5], [.res 6]]) (outs := [.res 7, .pre 0, .pre 1, .pre 2]) (als := [false, false, false, false, false, false, false, false]) (posts := [.val (IsN X), .val (IsB (decide (X < 0))), .val (IsB (decide (X < 0))), .val (Grd ((decide (X < 0)) == true) (IsN Y)), .val (Grd ((decide (X < 0)) == true) (IsB (decide (Y < 0)))), .val (Grd ((decide (X < 0)) == true) (IsB (!(decide (Y < 0))))), .val (IsB ((decide (X < 0)) && (!(decide (Y < 0))))), .val (IsB ((decide (X < 0)) && (!(decide (Y < 0)))))])
    (out := [(5, .val (IsB ((decide (X < 0)) && (!(decide (Y < 0)))))), (2, .box 25 2 (IsN X)), (3, .box 25 2 (IsN Y)), (4, .val (Lit (.int .i64 0)))]) (nb := []) H1 8 [] rfl (by kernel_rfl) rfl rfl ?_ ?_
  · refine .cons (.plain rfl (ok_load tyI (.tmp 0 rfl))) ?_
    refine .cons (.plain rfl (ok_call (con_r3below X) (.cons (.tmp 0 rfl) (.nil)))) ?_
    refine .cons (.plain rfl (ok_move (.tmp 0 rfl))) ?_
    refine .cons (.sym 2 true (decide (X < 0)) ((decide (X < 0)) == true) rfl rfl rfl 0 (need' := [(8, .val (IsB (decide (X < 0)))), (3, .box 25 2 (IsN Y))]) rfl rfl (fun a w B e h => ⟨h.1, h.2.1, trivial⟩) (fun e => ok_load tyI (.tmp 1 rfl))) ?_
    refine .cons (.sym 2 true (decide (X < 0)) ((decide (X < 0)) == true) rfl rfl rfl 0 (need' := [(8, .val (IsB (decide (X < 0)))), (9, .val (IsN Y))]) rfl rfl (fun a w B e h => ⟨h.1, h.2.1.1 (e), trivial⟩) (fun e => ok_call (con_r3below Y) (.cons (.tmp 1 rfl) (.nil)))) ?_
    refine .cons (.sym 2 true (decide (X < 0)) ((decide (X < 0)) == true) rfl rfl rfl 0 (need' := [(8, .val (IsB (decide (X < 0)))), (10, .val (IsB (decide (Y < 0))))]) rfl rfl (fun a w B e h => ⟨h.1, h.2.1.1 (e), trivial⟩) (fun e => ok_not (b := decide (Y < 0)) (.tmp 1 rfl))) ?_
    refine .cons (.plain rfl (ok_pickS (decide (X < 0)) (.tmp 0 rfl) (fun e => Opd.eqB (Opd.grd (.tmp 1 rfl) (by first | (rw [e]; rfl) | (simp only [e]; rfl) | (simp [*] at *; done))) (by rw [e]; rfl)) (fun e => Opd.eqB (.lit) (by rw [e]; rfl)))) ?_
    refine .cons (.plain rfl (ok_assign (.tmp 0 rfl))) ?_
    exact .nil
  clear H1 a1 w1 B1
  intro a2 w2 B2 H2
  refine ops_done ?_
  refine then_normal ?_
  refine f_cond H2 (.tmp 0 rfl) ?_ ?_
  · intro hc3
    refine wp_seq ?_
    refine flow_region (dsts := [some 4]) (refs := [[]]) (outs := [.res 0, .pre 1, .pre 2]) (als := [false]) (posts := [.val (Lit (.int .i64 (-1)))])
      (out := [(4, .val (Lit (.int .i64 (-1)))), (2, .box 25 2 (IsN X)), (3, .box 25 2 (IsN Y))]) (nb := []) H2 1 [] rfl (by kernel_rfl) rfl rfl ?_ ?_
    · refine .cons (.plain rfl (ok_assign (.lit))) ?_
      exact .nil
    clear H2 a2 w2 B2
    intro a4 w4 B4 H4
    refine ops_done ?_
    refine then_normal ?_
    refine wp_ret ?_
    refine block_ret ?_
    refine then_ret ?_
    exact f_ret H4 rfl 0 rfl (fun v w B h => by refine lit_int ?_ h; simp only [Bool.and_eq_true, Bool.and_eq_false_iff, Bool.not_eq_true', Bool.not_eq_false', decide_eq_true_eq, decide_eq_false_iff_not] at *; unfold cmpI; repeat' split; all_goals omega)
  · intro hc3
    refine wp_seq ?_
    refine flow_region (dsts := [some 14, some 15, some 16, some 17, some 18, some 19, some 20, some 13]) (refs := [[.pre 1], [.res 0], [.res 1], [.res 2], [.res 3, .pre 2], [.res 3, .res 4], [.res 3, .res 5], [.res 6]]) (outs := [.res 7, .pre 1, .pre 2, .pre 3]) (als := [false, false, false, false, false, false, false, false]) (posts := [.val (IsN X), .val (IsB (decide (X < 0))), .val (IsB (!(decide (X < 0)))), .val (IsB (!(decide (X < 0)))), .val (Grd ((!(decide (X < 0))) == true) (IsN Y)), .val (Grd ((!(decide (X < 0))) == true) (IsB (decide (Y < 0)))), .val (IsB ((!(decide (X < 0))) && (decide (Y < 0)))), .val (IsB ((!(decide (X < 0))) && (decide (Y < 0))))])
      (out := [(13, .val (IsB ((!(decide (X < 0))) && (decide (Y < 0))))), (2, .box 25 2 (IsN X)), (3, .box 25 2 (IsN Y)), (4, .val (Lit (.int .i64 0)))]) (nb := []) H2 8 [] rfl (by kernel_rfl) rfl rfl ?_ ?_
    · refine .cons (.plain rfl (ok_load tyI (.tmp 0 rfl))) ?_
      refine .cons (.plain rfl (ok_call (con_r3below X) (.cons (.tmp 0 rfl) (.nil)))) ?_
      refine .cons (.plain rfl (ok_not (b := decide (X < 0)) (.tmp 0 rfl))) ?_
      refine .cons (.plain rfl (ok_move (.tmp 0 rfl))) ?_
      refine .cons (.sym 3 true (!(decide (X < 0))) ((!(decide (X < 0))) == true) rfl rfl rfl 0 (need' := [(17, .val (IsB (!(decide (X < 0))))), (3, .box 25 2 (IsN Y))]) rfl rfl (fun a w B e h => ⟨h.1, h.2.1, trivial⟩) (fun e => ok_load tyI (.tmp 1 rfl))) ?_
      refine .cons (.sym 3 true (!(decide (X < 0))) ((!(decide (X < 0))) == true) rfl rfl rfl 0 (need' := [(17, .val (IsB (!(decide (X < 0))))), (18, .val (IsN Y))]) rfl rfl (fun a w B e h => ⟨h.1, h.2.1.1 (e), trivial⟩) (fun e => ok_call (con_r3below Y) (.cons (.tmp 1 rfl) (.nil)))) ?_
      refine .cons (.plain rfl (ok_pickS (!(decide (X < 0))) (.tmp 0 rfl) (fun e => Opd.eqB (Opd.grd (.tmp 1 rfl) (by first | (rw [e]; rfl) | (simp only [e]; rfl) | (simp [*] at *; done))) (by rw [e]; rfl)) (fun e => Opd.eqB (.lit) (by rw [e]; rfl)))) ?_
      refine .cons (.plain rfl (ok_assign (.tmp 0 rfl))) ?_
      exact .nil
    clear H2 a2 w2 B2
    intro a5 w5 B5 H5
    refine ops_done ?_
    refine then_normal ?_
    refine f_cond H5 (.tmp 0 rfl) ?_ ?_
    · intro hc6
      refine wp_seq ?_
      refine flow_region (dsts := [some 4]) (refs := [[]]) (outs := [.res 0, .pre 1, .pre 2]) (als := [false]) (posts := [.val (Lit (.int .i64 1))])
        (out := [(4, .val (Lit (.int .i64 1))), (2, .box 25 2 (IsN X)), (3, .box 25 2 (IsN Y))]) (nb := []) H5 1 [] rfl (by kernel_rfl) rfl rfl ?_ ?_
      · refine .cons (.plain rfl (ok_assign (.lit))) ?_
        exact .nil
      clear H5 a5 w5 B5
      intro a7 w7 B7 H7
      refine ops_done ?_
      refine then_normal ?_
      refine wp_ret ?_
      refine block_ret ?_
      refine then_ret ?_
      exact f_ret H7 rfl 0 rfl (fun v w B h => by refine lit_int ?_ h; simp only [Bool.and_eq_true, Bool.and_eq_false_iff, Bool.not_eq_true', Bool.not_eq_false', decide_eq_true_eq, decide_eq_false_iff_not] at *; unfold cmpI; repeat' split; all_goals omega)
    · intro hc6
      refine wp_seq ?_
      refine flow_region (dsts := [some 22, some 23, some 21]) (refs := [[.pre 1], [.res 0], [.res 1]]) (outs := [.res 2, .pre 1, .pre 2, .pre 3]) (als := [false, false, false]) (posts := [.val (IsN X), .val (IsB (decide (X < 0))), .val (IsB (decide (X < 0)))])
        (out := [(21, .val (IsB (decide (X < 0)))), (2, .box 25 2 (IsN X)), (3, .box 25 2 (IsN Y)), (4, .val (Lit (.int .i64 0)))]) (nb := []) H5 3 [] rfl (by kernel_rfl) rfl rfl ?_ ?_
      · refine .cons (.plain rfl (ok_load tyI (.tmp 0 rfl))) ?_
        refine .cons (.plain rfl (ok_call (con_r3below X) (.cons (.tmp 0 rfl) (.nil)))) ?_
        refine .cons (.plain rfl (ok_assign (.tmp 0 rfl))) ?_
        exact .nil
      clear H5 a5 w5 B5
      intro a8 w8 B8 H8
      refine ops_done ?_
      refine then_normal ?_
      refine f_cond H8 (.tmp 0 rfl) ?_ ?_
      · intro hc9
        replace hc9 := of_decide_eq_true hc9
        refine wp_seq ?_
        refine flow_region (dsts := [some 24, some 25, some 26, some 27, some 28, some 4]) (refs := [[.pre 2], [.res 0], [.pre 1], [.res 2], [.res 1, .res 3], [.res 4]]) (outs := [.res 5, .pre 1, .pre 2]) (als := [false, false, false, false, false, false]) (posts := [.ptr 25 2 (IsN Y) 1, .val (IsM ((Y).natAbs : Int)), .ptr 25 2 (IsN X) 1, .val (IsM ((X).natAbs : Int)), .val (Lit (.int .i64 (cmpI ((Y).natAbs : Int) ((X).natAbs : Int)))), .val (Lit (.int .i64 (cmpI ((Y).natAbs : Int) ((X).natAbs : Int))))])
          (out := [(4, .val (Lit (.int .i64 (cmpI ((Y).natAbs : Int) ((X).natAbs : Int))))), (2, .box 25 2 (IsN X)), (3, .box 25 2 (IsN Y))]) (nb := []) H8 6 [] rfl (by kernel_rfl) rfl rfl ?_ ?_
        · refine .cons (.plain rfl (ok_addrI1 (.tmp 0 rfl))) ?_
          refine .cons (.plain rfl (ok_loadMagN (.tmp 0 rfl))) ?_
          refine .cons (.plain rfl (ok_addrI1 (.tmp 0 rfl))) ?_
          refine .cons (.plain rfl (ok_loadMagN (.tmp 0 rfl))) ?_
          refine .cons (.plain rfl (ok_call (con_rcmp ((Y).natAbs : Int) ((X).natAbs : Int)) (.cons (.tmp 0 rfl) (.cons (.tmp 1 rfl) (.nil))))) ?_
          refine .cons (.plain rfl (ok_assign (.tmp 0 rfl))) ?_
          exact .nil
        clear H8 a8 w8 B8
        intro a10 w10 B10 H10
        refine ops_done ?_
        refine then_normal ?_
        refine wp_ret ?_
        refine block_ret ?_
        refine then_ret ?_
        exact f_ret H10 rfl 0 rfl (fun v w B h => by refine lit_int ?_ h; simp only [Bool.and_eq_true, Bool.and_eq_false_iff, Bool.not_eq_true', Bool.not_eq_false', decide_eq_true_eq, decide_eq_false_iff_not] at *; unfold cmpI; repeat' split; all_goals omega)
      · intro hc9
        replace hc9 := of_decide_eq_false hc9
        refine wp_skip ?_
        refine block_normal ?_
        refine then_normal ?_
        refine wp_seq ?_
        refine flow_region (dsts := [some 29, some 30, some 31, some 32, some 33, some 4]) (refs := [[.pre 1], [.res 0], [.pre 2], [.res 2], [.res 1, .res 3], [.res 4]]) (outs := [.res 5]) (als := [false, false, false, false, false, false]) (posts := [.ptr 25 2 (IsN X) 1, .val (IsM ((X).natAbs : Int)), .ptr 25 2 (IsN Y) 1, .val (IsM ((Y).natAbs : Int)), .val (Lit (.int .i64 (cmpI ((X).natAbs : Int) ((Y).natAbs : Int)))), .val (Lit (.int .i64 (cmpI ((X).natAbs : Int) ((Y).natAbs : Int))))])
          (out := [(4, .val (Lit (.int .i64 (cmpI ((X).natAbs : Int) ((Y).natAbs : Int)))))]) (nb := []) H8 6 [] rfl (by kernel_rfl) rfl rfl ?_ ?_
        · refine .cons (.plain rfl (ok_addrI1 (.tmp 0 rfl))) ?_
          refine .cons (.plain rfl (ok_loadMagN (.tmp 0 rfl))) ?_
          refine .cons (.plain rfl (ok_addrI1 (.tmp 0 rfl))) ?_
          refine .cons (.plain rfl (ok_loadMagN (.tmp 0 rfl))) ?_
          refine .cons (.plain rfl (ok_call (con_rcmp ((X).natAbs : Int) ((Y).natAbs : Int)) (.cons (.tmp 0 rfl) (.cons (.tmp 1 rfl) (.nil))))) ?_
          refine .cons (.plain rfl (ok_assign (.tmp 0 rfl))) ?_
          exact .nil
        clear H8 a8 w8 B8
        intro a11 w11 B11 H11
        refine ops_done ?_
        refine then_normal ?_
        refine wp_ret ?_
        exact f_ret H11 rfl 0 rfl (fun v w B h => by refine lit_int ?_ h; simp only [Bool.and_eq_true, Bool.and_eq_false_iff, Bool.not_eq_true', Bool.not_eq_false', decide_eq_true_eq, decide_eq_false_iff_not] at *; unfold cmpI; repeat' split; all_goals omega)
end Go.Proofs.Ytgnophflogmmaaa
