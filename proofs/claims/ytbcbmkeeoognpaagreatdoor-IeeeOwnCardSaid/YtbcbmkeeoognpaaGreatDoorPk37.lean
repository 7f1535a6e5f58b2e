/- Contracts of functions, and plain facts, part 37. -/
import Derived.Test.YtbcbmkeeoognpaaGreatDoorPk13
import Derived.Test.YtbcbmkeeoognpaaGreatDoorPk20
import Derived.Test.YtbcbmkeeoognpaaGreatDoorPk29
import Derived.Test.YtbcbmkeeoognpaaGreatDoorPk36
set_option linter.unusedVariables false
set_option linter.unusedSimpArgs false
/- WhO0. (Printed by flowfn.py.) -/
namespace Go.Proofs.YtbcbmkeeoognpaaGreatDoor
open Go Go.RowKit

theorem sg_ne {X : Int} (hX : X ≠ 0) {v : Value} {w : World} {B : Bx} (h : (IsSg X).p v w B) : (IsB (decide (X < 0))).p v w B := by
  obtain ⟨ng, e, h⟩ := h
  show v = .bool _
  rw [e]
  congr 1
  unfold sI at h
  cases ng
  · rw [if_neg (by simp)] at h
    exact (decide_eq_false (by omega)).symm
  · rw [if_pos rfl] at h
    exact (decide_eq_true (by omega)).symm
theorem made_bool {s V : Int} (hV : 0 ≤ V) : (decide (s = -1) && decide (0 < ((dg 4294967296 V).length : Int))) = decide ((if s = -1 then -V else V) < 0) := by
  have h := dg_len_zero hV
  by_cases h1 : s = -1
  · rw [decide_eq_true h1, if_pos h1, Bool.true_and]
    refine decide_eq_decide.2 ?_
    constructor
    · intro h2
      rcases Int.lt_or_eq_of_le hV with h3 | h3
      · omega
      · exact absurd (h.2 h3.symm) (by omega)
    · intro h2
      rcases Int.lt_or_eq_of_le (show (0 : Int) ≤ ((dg 4294967296 V).length : Int) by omega) with h3 | h3
      · exact h3
      · exact absurd (h.1 h3.symm) (by omega)
  · rw [decide_eq_false h1, if_neg h1, Bool.false_and]
    exact (decide_eq_false (by omega)).symm
theorem made_abs {s V : Int} (hV : 0 ≤ V) : V = ((if s = -1 then -V else V).natAbs : Int) := by split <;> omega
theorem made_sg (X : Int) : (if sgI X = -1 then -((X.natAbs : Int)) else (X.natAbs : Int)) = X := by
  unfold sgI
  by_cases h : X < 0
  · rw [if_pos h, if_pos rfl]; omega
  · rw [if_neg h]
    by_cases h0 : X = 0
    · subst h0; rfl
    · rw [if_neg h0, if_neg (by omega)]; omega

set_option maxRecDepth 20000 in
set_option maxHeartbeats 2000000 in
theorem con_signedO (X : Int) : Con Tryz.prog 205 [IsN X] (Tup [Lit (.int .i8 (sgI X)), IsCo ((X).natAbs : Int)]) := by
  refine f_enter (N := 17) Tryz.ntmps205 (fun _ _ => by go_simp) Tryz.func205 rfl (by simp) ?_
  intro a0 w0 B0 H0
  replace H0 : St 17 w0 B0 a0 w0 B0 [(0, .val (IsN X))] [] := H0
  refine wp_seq ?_
  refine flow_region (dsts := [some 1, some 2, some 3]) (refs := [[.pre 0], [], []]) (outs := [.res 0, .res 1, .res 2]) (als := [true, false, false]) (posts := [.box 52 2 (IsN X), .val (Lit (.int .i8 0)), .val (IsCo 0)])
    (out := [(1, .box 52 2 (IsN X)), (2, .val (Lit (.int .i8 0))), (3, .val (IsCo 0))]) (nb := [1]) H0 3 [] rfl (by kernel_rfl) rfl rfl ?_ ?_
  · refine .cons (.plain rfl (ok_box (.tmp 0 rfl) shape_N.two)) ?_
    refine .cons (.plain rfl (ok_assign (.lit))) ?_
    refine .cons (.plain rfl (ok_assign (.const (fun w B => weakNilCo _ w B rfl)))) ?_
    exact .nil
  clear H0
  intro a1 w1 B1 H1
  simp only [List.cons_append, List.nil_append] at H1
  refine ops_done ?_
  refine then_normal ?_
  refine wp_seq ?_
  refine flow_region (dsts := [some 5, some 6, some 7, some 4]) (refs := [[.pre 0], [.res 0], [.res 1], [.res 2]]) (outs := [.res 3, .pre 0, .pre 1, .pre 2]) (als := [false, false, false, false]) (posts := [.ptr 52 2 (IsN X) 1, .val (IsM ((X).natAbs : Int)), .val (IsCo ((X).natAbs : Int)), .val (IsCo ((X).natAbs : Int))])
    (out := [(4, .val (IsCo ((X).natAbs : Int))), (1, .box 52 2 (IsN X)), (2, .val (Lit (.int .i8 0))), (3, .val (IsCo 0))]) (nb := []) H1 4 [] rfl (by kernel_rfl) rfl rfl ?_ ?_
  · refine .cons (.plain rfl (ok_addrI1 (.tmp 0 rfl))) ?_
    refine .cons (.plain rfl (ok_loadMagN (.tmp 0 rfl))) ?_
    refine .cons (.plain rfl (ok_call (con_natnormO ((X).natAbs : Int)) (.cons (.tmp 0 rfl) (.nil)))) ?_
    refine .cons (.plain rfl (ok_assign (.tmp 0 rfl))) ?_
    exact .nil
  clear H1 a1 w1 B1
  intro a2 w2 B2 H2
  refine ops_done ?_
  refine then_normal ?_
  refine wp_seq ?_
  refine wp_block ?_
  refine wp_seq ?_
  rcases (Decidable.em (X = 0)) with c0 | c0
  · have c1 : ((dg 4294967296 ((X).natAbs : Int)).length : Int) = 0 := by rw [c0]; simp [dg_zero]
    have e1 : (0 : Int) = sgI X := by rw [c0]; rfl
    have e2 : (0 : Int) = ((X).natAbs : Int) := by rw [c0]; rfl
    refine flow_region (dsts := [some 9, some 10, some 11, some 8]) (refs := [[.pre 0], [.res 0], [.res 1], [.res 2]]) (outs := [.res 3, .pre 0, .pre 1, .pre 2, .pre 3]) (als := [false, false, false, false]) (posts := [.val (IsCo ((X).natAbs : Int)), .val (Lit (.int .i64 ((dg 4294967296 ((X).natAbs : Int)).length : Int))), .val (IsB true), .val (IsB true)])
      (out := [(8, .val (IsB true)), (4, .val (IsCo ((X).natAbs : Int))), (1, .box 52 2 (IsN X)), (2, .val (Lit (.int .i8 0))), (3, .val (IsCo 0))]) (nb := []) H2 4 [] rfl (by kernel_rfl) rfl rfl ?_ ?_
    · refine .cons (.plain rfl (ok_move (.tmp 0 rfl))) ?_
      refine .cons (.plain rfl (ok_lenC (.weak (.tmp 0 rfl) weakCoC))) ?_
      refine .cons (.plain rfl (ok_cmp (b := true) (.tmp 0 rfl) (.lit) ((decide_eq_true (c1)).symm))) ?_
      refine .cons (.plain rfl (ok_assign (.tmp 0 rfl))) ?_
      exact .nil
    clear H2 a2 w2 B2
    intro a3 w3 B3 H3
    refine ops_done ?_
    refine then_normal ?_
    refine f_condT H3 (.tmp 0 rfl) ?_
    refine wp_seq ?_
    refine flow_region (dsts := [some 2, some 3]) (refs := [[], []]) (outs := [.res 0, .res 1, .pre 1, .pre 2]) (als := [false, false]) (posts := [.val (Lit (.int .i8 0)), .val (IsCo 0)])
      (out := [(2, .val (Lit (.int .i8 0))), (3, .val (IsCo 0)), (4, .val (IsCo ((X).natAbs : Int))), (1, .box 52 2 (IsN X))]) (nb := []) H3 2 [] rfl (by kernel_rfl) rfl rfl ?_ ?_
    · refine .cons (.plain rfl (ok_assign (.lit))) ?_
      refine .cons (.plain rfl (ok_assign (.const (fun w B => weakNilCo _ w B rfl)))) ?_
      exact .nil
    clear H3 a3 w3 B3
    intro a4 w4 B4 H4
    refine ops_done ?_
    refine then_normal ?_
    refine wp_ret ?_
    refine block_ret ?_
    refine then_ret ?_
    exact f_retN H4 rfl rfl (.tmp 0 rfl (fun v w B h => by exact lit_int (by assumption) h) (.tmp 1 rfl (fun v w B h => by exact isCo_eq (by assumption) h) (.nil)))
  · have c1 : ¬ ((dg 4294967296 ((X).natAbs : Int)).length : Int) = 0 := fun h => c0 (by have := (dg_len_zero (V := ((X).natAbs : Int)) (by omega)).1 h; omega)
    refine flow_region (dsts := [some 9, some 10, some 11, some 8]) (refs := [[.pre 0], [.res 0], [.res 1], [.res 2]]) (outs := [.res 3, .pre 0, .pre 1, .pre 2, .pre 3]) (als := [false, false, false, false]) (posts := [.val (IsCo ((X).natAbs : Int)), .val (Lit (.int .i64 ((dg 4294967296 ((X).natAbs : Int)).length : Int))), .val (IsB false), .val (IsB false)])
      (out := [(8, .val (IsB false)), (4, .val (IsCo ((X).natAbs : Int))), (1, .box 52 2 (IsN X)), (2, .val (Lit (.int .i8 0))), (3, .val (IsCo 0))]) (nb := []) H2 4 [] rfl (by kernel_rfl) rfl rfl ?_ ?_
    · refine .cons (.plain rfl (ok_move (.tmp 0 rfl))) ?_
      refine .cons (.plain rfl (ok_lenC (.weak (.tmp 0 rfl) weakCoC))) ?_
      refine .cons (.plain rfl (ok_cmp (b := false) (.tmp 0 rfl) (.lit) ((decide_eq_false (c1)).symm))) ?_
      refine .cons (.plain rfl (ok_assign (.tmp 0 rfl))) ?_
      exact .nil
    clear H2 a2 w2 B2
    intro a5 w5 B5 H5
    refine ops_done ?_
    refine then_normal ?_
    refine f_condF H5 (.tmp 0 rfl) ?_
    refine wp_seq ?_
    refine flow_region (dsts := [some 13, some 14, some 12]) (refs := [[.pre 2], [.res 0], [.res 1]]) (outs := [.res 2, .pre 1, .pre 3, .pre 4]) (als := [false, false, false]) (posts := [.ptr 52 2 (IsN X) 0, .val (IsSg X), .val (IsSg X)])
      (out := [(12, .val (IsSg X)), (4, .val (IsCo ((X).natAbs : Int))), (2, .val (Lit (.int .i8 0))), (3, .val (IsCo 0))]) (nb := []) H5 3 [] rfl (by kernel_rfl) rfl rfl ?_ ?_
    · refine .cons (.plain rfl (ok_addrI0 (.tmp 0 rfl))) ?_
      refine .cons (.plain rfl (ok_loadNegN (.tmp 0 rfl))) ?_
      refine .cons (.plain rfl (ok_assign (.tmp 0 rfl))) ?_
      exact .nil
    clear H5 a5 w5 B5
    intro a6 w6 B6 H6
    refine ops_done ?_
    refine then_normal ?_
    have H7 := St.set1 H6 0 (D' := IsB (decide (X < 0))) rfl (fun v w B h => sg_ne c0 h) (l' := [(12, .val (IsB (decide (X < 0)))), (4, .val (IsCo ((X).natAbs : Int))), (2, .val (Lit (.int .i8 0))), (3, .val (IsCo 0))]) rfl
    clear H6
    refine f_cond H7 (.tmp 0 rfl) ?_ ?_
    · intro hc8
      replace hc8 := of_decide_eq_true hc8
      have e1 : (-1 : Int) = sgI X := by unfold sgI; rw [if_pos hc8]
      have e2 : ((X).natAbs : Int) = ((X).natAbs : Int) := rfl
      refine wp_seq ?_
      refine flow_region (dsts := [some 15, some 2, some 3]) (refs := [[.pre 1], [], [.res 0]]) (outs := [.res 1, .res 2, .pre 1]) (als := [false, false, false]) (posts := [.val (IsCo ((X).natAbs : Int)), .val (Lit (.int .i8 (-1))), .val (IsCo ((X).natAbs : Int))])
        (out := [(2, .val (Lit (.int .i8 (-1)))), (3, .val (IsCo ((X).natAbs : Int))), (4, .val (IsCo ((X).natAbs : Int)))]) (nb := []) H7 3 [] rfl (by kernel_rfl) rfl rfl ?_ ?_
      · refine .cons (.plain rfl (ok_move (.tmp 0 rfl))) ?_
        refine .cons (.plain rfl (ok_assign (.lit))) ?_
        refine .cons (.plain rfl (ok_assign (.tmp 0 rfl))) ?_
        exact .nil
      clear H7 a6 w6 B6
      intro a9 w9 B9 H9
      refine ops_done ?_
      refine then_normal ?_
      refine wp_ret ?_
      refine block_ret ?_
      refine then_ret ?_
      exact f_retN H9 rfl rfl (.tmp 0 rfl (fun v w B h => by exact lit_int (by assumption) h) (.tmp 1 rfl (fun v w B h => by exact isCo_eq (by assumption) h) (.nil)))
    · intro hc8
      replace hc8 := of_decide_eq_false hc8
      have e1 : (1 : Int) = sgI X := by unfold sgI; rw [if_neg hc8, if_neg c0]
      have e2 : ((X).natAbs : Int) = ((X).natAbs : Int) := rfl
      refine wp_skip ?_
      refine block_normal ?_
      refine then_normal ?_
      refine wp_seq ?_
      refine flow_region (dsts := [some 16, some 2, some 3]) (refs := [[.pre 1], [], [.res 0]]) (outs := [.res 1, .res 2]) (als := [false, false, false]) (posts := [.val (IsCo ((X).natAbs : Int)), .val (Lit (.int .i8 1)), .val (IsCo ((X).natAbs : Int))])
        (out := [(2, .val (Lit (.int .i8 1))), (3, .val (IsCo ((X).natAbs : Int)))]) (nb := []) H7 3 [] rfl (by kernel_rfl) rfl rfl ?_ ?_
      · refine .cons (.plain rfl (ok_move (.tmp 0 rfl))) ?_
        refine .cons (.plain rfl (ok_assign (.lit))) ?_
        refine .cons (.plain rfl (ok_assign (.tmp 0 rfl))) ?_
        exact .nil
      clear H7 a6 w6 B6
      intro a10 w10 B10 H10
      refine ops_done ?_
      refine then_normal ?_
      refine wp_ret ?_
      exact f_retN H10 rfl rfl (.tmp 0 rfl (fun v w B h => by exact lit_int (by assumption) h) (.tmp 1 rfl (fun v w B h => by exact isCo_eq (by assumption) h) (.nil)))

set_option maxRecDepth 20000 in
set_option maxHeartbeats 2000000 in
theorem con_madeH (k : Option Nat) (s V : Int) : Con Tryz.prog 206 [Lit (.int .i8 s), IsHd k (IsC V)] (IsHdI k (IsI (if s = -1 then -V else V))) := by
  refine f_enter (N := 14) Tryz.ntmps206 (fun _ _ => by go_simp) Tryz.func206 rfl (by simp) ?_
  intro a0 w0 B0 H0
  replace H0 : St 14 w0 B0 a0 w0 B0 [(0, .val (Lit (.int .i8 s))), (1, .val (IsHd k (IsC V)))] [] := H0
  have hV : 0 ≤ V := by obtain ⟨_, _, _, _, _, _, _, h⟩ := H0.fc.get 1 rfl; exact h
  refine wp_seq ?_
  refine flow_region (dsts := [some 4]) (refs := [[]]) (outs := [.res 0, .pre 0, .pre 1]) (als := [true]) (posts := [.box 52 2 (Zero2)])
    (out := [(4, .box 52 2 (Zero2)), (0, .val (Lit (.int .i8 s))), (1, .val (IsHd k (IsC V)))]) (nb := [4]) H0 1 [] rfl (by kernel_rfl) rfl rfl ?_ ?_
  · refine .cons (.plain rfl (ok_alloc (D := Zero2) zeroI rfl (fun _ _ => rfl))) ?_
    exact .nil
  clear H0
  intro a1 w1 B1 H1
  simp only [List.cons_append, List.nil_append] at H1
  refine ops_done ?_
  refine then_normal ?_
  refine wp_seq ?_
  refine flow_region (dsts := [some 5, some 6, some 7, some 8, some 9, some 10, some 11, some 12, some 13]) (refs := [[.pre 1], [.res 0], [.res 1], [.res 2, .pre 2], [.res 2, .res 3], [.res 2, .res 4], [.res 2, .res 5], [.pre 2], [.res 6, .res 7]]) (outs := [.res 8, .pre 0]) (als := [false, false, false, false, false, false, false, false, false]) (posts := [.val (Lit (.int .i8 s)), .val (IsB (decide (s = -1))), .val (IsB (decide (s = -1))), .val (Grd ((decide (s = -1)) == true) (IsHd k (IsC V))), .val (Grd ((decide (s = -1)) == true) (Lit (.int .i64 ((dg 4294967296 V).length : Int)))), .val (Grd ((decide (s = -1)) == true) (IsB (decide (0 < ((dg 4294967296 V).length : Int))))), .val (IsB ((decide (s = -1)) && (decide (0 < ((dg 4294967296 V).length : Int))))), .val (IsHd k (IsC V)), .val (IsHdI k (IsI (if s = -1 then -V else V)))])
    (out := [(13, .val (IsHdI k (IsI (if s = -1 then -V else V)))), (4, .box 52 2 (Zero2))]) (nb := []) H1 9 [9] rfl (by kernel_rfl) rfl rfl ?_ ?_
  · refine .cons (.plain rfl (ok_move (.tmp 0 rfl))) ?_
    refine .cons (.plain rfl (ok_cmp (.tmp 0 rfl) (.lit) rfl)) ?_
    refine .cons (.plain rfl (ok_move (.tmp 0 rfl))) ?_
    refine .cons (.sym 2 true (decide (s = -1)) ((decide (s = -1)) == true) rfl rfl rfl 0 (need' := [(7, .val (IsB (decide (s = -1)))), (1, .val (IsHd k (IsC V)))]) rfl rfl (fun a w B e h => ⟨h.1, h.2.1, trivial⟩) (fun e => ok_move (.tmp 1 rfl))) ?_
    refine .cons (.sym 2 true (decide (s = -1)) ((decide (s = -1)) == true) rfl rfl rfl 0 (need' := [(7, .val (IsB (decide (s = -1)))), (8, .val (IsHd k (IsC V)))]) rfl rfl (fun a w B e h => ⟨h.1, h.2.1.1 (e), trivial⟩) (fun e => ok_lenC (.weak (.tmp 1 rfl) weakHd))) ?_
    refine .cons (.sym 2 true (decide (s = -1)) ((decide (s = -1)) == true) rfl rfl rfl 0 (need' := [(7, .val (IsB (decide (s = -1)))), (9, .val (Lit (.int .i64 ((dg 4294967296 V).length : Int))))]) rfl rfl (fun a w B e h => ⟨h.1, h.2.1.1 (e), trivial⟩) (fun e => ok_cmp (.tmp 1 rfl) (.lit) rfl)) ?_
    refine .cons (.plain rfl (ok_pickS (decide (s = -1)) (.tmp 0 rfl) (fun e => Opd.eqB (Opd.grd (.tmp 1 rfl) (by first | (rw [e]; rfl) | (simp only [e]; rfl) | (simp [*] at *; done))) (by rw [e]; rfl)) (fun e => Opd.eqB (.lit) (by rw [e]; rfl)))) ?_
    refine .cons (.plain rfl (ok_move (.tmp 0 rfl))) ?_
    refine .cons (.plain rfl (ok_buildHdI (.tmp 0 rfl) (.tmp 1 rfl) (made_bool hV) (made_abs hV))) ?_
    exact .nil
  clear H1 a1 w1 B1
  intro a2 w2 B2 H2
  refine ops_one ?_
  refine store_op (l' := [(13, .val (IsHdI k (IsI (if s = -1 then -V else V)))), (4, .box 52 2 (IsHdI k (IsI (if s = -1 then -V else V))))]) 1 H2 rfl tyI rfl (.tmp 0 rfl) shape_Z shape_HdI rfl rfl ?_
  clear H2 w2
  intro w3 H3
  refine ops_done ?_
  refine then_normal ?_
  refine wp_ret ?_
  exact f_retC H3 tyI rfl 1 rfl (fun _ _ _ h => h)
theorem con_madeO (s V : Int) : Con Tryz.prog 206 [Lit (.int .i8 s), IsCo V] (IsIo (if s = -1 then -V else V)) := by
  refine ⟨fun _ _ => by go_simp, fun vs w B hB hV => ?_⟩
  match vs, hV with
  | [v, u], ⟨h1, ⟨h2, k, h3⟩, _⟩ => exact ((con_madeH k s V).calls [v, u] w B hB ⟨h1, ⟨h3, h2⟩, trivial⟩).mono fun e w' ⟨r, e1, h, hb⟩ => ⟨r, e1, weakHdIo _ _ _ h, hb⟩

set_option maxRecDepth 20000 in
set_option maxHeartbeats 2000000 in
theorem con_normO (X : Int) : Con Tryz.prog 144 [IsN X] (IsIo X) := by
  refine f_enter (N := 8) Tryz.ntmps144 (fun _ _ => by go_simp) Tryz.func144 rfl (by simp) ?_
  intro a0 w0 B0 H0
  replace H0 : St 8 w0 B0 a0 w0 B0 [(0, .val (IsN X))] [] := H0
  refine wp_seq ?_
  refine flow_region (dsts := [some 1, some 2]) (refs := [[.pre 0], []]) (outs := [.res 0, .res 1]) (als := [true, true]) (posts := [.box 52 2 (IsN X), .box 52 2 (Zero2)])
    (out := [(1, .box 52 2 (IsN X)), (2, .box 52 2 (Zero2))]) (nb := [1, 2]) H0 2 [] rfl (by kernel_rfl) rfl rfl ?_ ?_
  · refine .cons (.plain rfl (ok_box (.tmp 0 rfl) shape_N.two)) ?_
    refine .cons (.plain rfl (ok_alloc (D := Zero2) zeroI rfl (fun _ _ => rfl))) ?_
    exact .nil
  clear H0
  intro a1 w1 B1 H1
  simp only [List.cons_append, List.nil_append] at H1
  refine ops_done ?_
  refine then_normal ?_
  refine wp_seq ?_
  refine flow_region (dsts := [some 3, some 4, some 5, some 6, some 7]) (refs := [[.pre 0], [.res 0], [.res 1], [.res 1], [.res 2, .res 3]]) (outs := [.res 4, .pre 1]) (als := [false, false, false, false, false]) (posts := [.val (IsN X), .val (Tup [Lit (.int .i8 (sgI X)), IsCo ((X).natAbs : Int)]), .val (Lit (.int .i8 (sgI X))), .val (IsCo ((X).natAbs : Int)), .val (IsIo X)])
    (out := [(7, .val (IsIo X)), (2, .box 52 2 (Zero2))]) (nb := []) H1 5 [5] rfl (by kernel_rfl) rfl rfl ?_ ?_
  · refine .cons (.plain rfl (ok_load tyI (.tmp 0 rfl))) ?_
    refine .cons (.plain rfl (ok_call (con_signedO X) (.cons (.tmp 0 rfl) (.nil)))) ?_
    refine .cons (.plain rfl (ok_extract 0 (.tmp 0 rfl) rfl)) ?_
    refine .cons (.plain rfl (ok_extract 1 (.tmp 0 rfl) rfl)) ?_
    refine .cons (.plain rfl (ok_call ((con_madeO (sgI X) ((X).natAbs : Int)).weak (fun v w B h => isIo_eq (made_sg X) h)) (.cons (.tmp 0 rfl) (.cons (.tmp 1 rfl) (.nil))))) ?_
    exact .nil
  clear H1 a1 w1 B1
  intro a2 w2 B2 H2
  refine ops_one ?_
  refine store_op (l' := [(7, .val (IsIo X)), (2, .box 52 2 (IsIo X))]) 1 H2 rfl tyI rfl (.tmp 0 rfl) shape_Z shape_Io rfl rfl ?_
  clear H2 w2
  intro w3 H3
  refine ops_done ?_
  refine then_normal ?_
  refine wp_ret ?_
  exact f_retC H3 tyI rfl 1 rfl (fun _ _ _ h => h)

end Go.Proofs.YtbcbmkeeoognpaaGreatDoor


/- Contracts of functions that read the laid variables and answer memory of their own; a Book's Int. -/
set_option maxRecDepth 50000
namespace Go.Proofs.YtbcbmkeeoognpaaGreatDoor
open Go Go.RowKit

structure ConEF (P : Program) (f : FuncId) (Ds : List VP) (R : Nat → VP) : Prop where
  enters : ∀ (vs : Array Value) (w : World), (callFunc f vs).run P w = .ok (.enter f vs) w
  calls : ∀ (lo : Nat) (vs : List Value) (w : World) (B : Bx), lo ≤ w.heap.size → Own1 B w → EnvP w B → VAll vs Ds w B → Calls P f vs.toArray w (fun e w' => ∃ v, e = .returned v ∧ (R lo).p v w' B ∧ Below w.heap.size w w')
section
variable {P : Program} {need : List (Tmp × FD)} {d : Option Tmp} {ty : TypeId} {pos : String} {af : Array Edge} {g : Option (Nat × Bool)}
theorem ok_callEF {f : FuncId} {args : List Operand} {ts : Array TypeId} {Ds : List VP} {R : Nat → VP} {lo : Nat} {z y : Tmp} (kz ke : Nat) (C : ConEF P f Ds R) (hz : need[kz]? = some (z, .val (Sz lo))) (he : need[ke]? = some (y, .val EnvV)) (h : Opds need args Ds) : OpOk P ⟨d, .call { callee := .value (.func f), args := args.toArray, argTypes := ts }, ty, pos, af, g⟩ need (.val (R lo)) false := by
  intro Q K a w B hB hF hK
  have hr : (execOp a.eval ⟨d, .call { callee := .value (.func f), args := args.toArray, argTypes := ts }, ty, pos, af, g⟩).run P w = .ok (.enter f (args.map a.eval).toArray) w := by
    simp [execOp, resolve, Act.eval, Deferred.ofValue, invoke, Sem.run_bind, C.enters]
  unfold Oper.wp
  rw [hr]
  refine (C.calls lo (args.map a.eval) w B (hF.get kz hz) hB (hF.get ke he) (h.all hF)).mono ?_
  rintro e w' ⟨v, rfl, h1, h2⟩
  have hbl := Bl.of_below B h2
  exact hK v w' B h1 hbl h2 (fun k hk => Nat.lt_of_lt_of_le (hB k hk) h2.size) (by simp)
end
theorem f_enterEF {P : Program} {f : FuncId} {fn : Func} {c : Code} {Ds : List VP} {R : Nat → VP} {N : Nat} (hN : fn.ntmps = N) (he : ∀ (vs : Array Value) (w : World), (callFunc f vs).run P w = .ok (.enter f vs) w) (hf : P.funcs[f]? = some fn) (hb : fn.body = some c) (hn : Ds.length ≤ N)
    (h : ∀ (lo : Nat) (a : Act) (w : World) (B : Bx), St N w B a w B (Ds.zipIdx.map (fun x => (x.2, .val x.1)) ++ [(N, .val (Sz lo)), (N + 1, .val EnvV)]) [] → c.wp P (bodyPost P fn fun e w' => ∃ v, e = .returned v ∧ (R lo).p v w' B ∧ Below w.heap.size w w') a w) : ConEF P f Ds R := by
  refine ⟨he, fun lo vs w B hlo hB hE hV => calls_of_wp hf hb (h lo _ w B ⟨rfl, ?_, Fct.of_all fun x hx => ?_, by simp, by simp, Below.refl _ _, hB, fun _ h => h⟩)⟩
  · have hl : vs.length = Ds.length := by
      clear hn h hB hlo hE
      induction vs generalizing Ds with
      | nil => cases Ds with
        | nil => rfl
        | cons D Ds => exact hV.elim
      | cons v vs ih => cases Ds with
        | nil => exact hV.elim
        | cons D Ds => simp [ih hV.2]
    simp [hN]; omega
  · rcases List.mem_append.1 hx with hx | hx
    · obtain ⟨y, hy, rfl⟩ := List.mem_map.1 hx
      have h1 := List.mem_zipIdx_iff_getElem?.1 hy
      obtain ⟨v, h2, h3⟩ := hV.get y.2 y.1 h1
      have hlt : y.2 < vs.length := (List.getElem?_eq_some_iff.1 h2).1
      have e : (vs.toArray ++ Array.replicate (fn.ntmps - vs.toArray.size) undef).getD y.2 undef = v := by
        rw [Array.getD_eq_getD_getElem?, Array.getElem?_append_left (by simpa using hlt)]
        simp [h2]
      show y.1.p _ w B
      rw [e]
      exact h3
    · simp only [List.mem_cons, List.not_mem_nil, or_false] at hx
      rcases hx with rfl | rfl
      · exact hlo
      · exact hE
theorem weakZFrI {lo : Nat} (v : Value) (w : World) (B : Bx) (h : Zero2.p v w B) : (IsFrI lo (IsI 0)).p v w B := by
  have h2 := weakZI v w B h
  obtain rfl := h
  exact ⟨none, (fun b hb => by cases hb), ⟨false, _, rfl, nil_hd w B⟩, h2⟩
theorem isFrI_eq {lo : Nat} {A N : Int} (e : A = N) {v : Value} {w : World} {B : Bx} (h : (IsFrI lo (IsI A)).p v w B) : (IsFrI lo (IsI N)).p v w B := e ▸ h
def KeepFnI (P : Program) (f : FuncId) : Prop := ∀ (B b : Nat) (v : Value) (L : List Hd) (ng : Bool) (ad : Option Addr) (n c : Nat) (w : World), BookAt B w b v L → B ≤ w.heap.size → L.length < 1000000 →
  HdOk B w ⟨ad, n, c, none, 0, 0⟩ → (∀ h ∈ L, 0 < h.c → 0 < c → blkOf h.ad ≠ blkOf ad) →
    Calls P f #[.pointer (some ⟨b, 0, none⟩), .agg #[.bool ng, .slice ad n c]] w (fun e w' => e = .returned (.tuple #[]) ∧ Kp B b w w' ∧ ∃ v', BookAt B w' b v' (L ++ [⟨ad, n, c, none, 0, 0⟩]) ∧ ∀ x, v'.ownBlock = some x → v.ownBlock = some x ∨ w.heap.size ≤ x)
section
variable {P : Program} {ops : Array Oper} {Q : Exit → Act → World → Prop} {N : Nat} {w0 : World} {B0 : Bx} {a : Act} {w : World} {B : Bx} {l : List (Tmp × FD)} {bxs : List Tmp}
theorem keep_opI {i : Nat} {K : Act → World → Prop} {f : FuncId} {Ow : Nat → Prop} {lo hi cnt : Nat} {ex : List (Option Nat)} {g : Option Nat} {D : VP} {s p : Tmp} {y x : Operand} {ts : Array TypeId} {ty : TypeId} {pos : String} {af : Array Edge} (kp : Nat) (is : List Nat) {ks l' : List (Tmp × FD)}
    (H : St N w0 B0 a w B l bxs) (ho : ops[i]? = some ⟨some s, .call { callee := .value (.func f), args := #[y, x], argTypes := ts }, ty, pos, af, none⟩)
    (hent : ∀ (vs : Array Value) (w : World), (callFunc f vs).run P w = .ok (.enter f vs) w) (hf : KeepFnI P f)
    (hp : l[kp]? = some (p, .box 42 15 (IsBook w0.heap.size Ow lo hi ex cnt))) (hy : a.eval y = a.tmps.getD p undef) (hx : Opd l x (.val (IsHdI g D)))
    (hcnt : cnt < 1000000) (hOw : ∀ x, w.heap.size ≤ x → Ow x) (hg : ∀ b, g = some b → w0.heap.size ≤ b ∧ ¬ (lo ≤ b ∧ b < hi) ∧ some b ∉ ex)
    (hks : is.map (fun i => l[i]?) = ks.map some) (hc : (bxs.contains p && decide (s < N) && (!bxs.contains s) && ks.all fun y => y.1 != s && (y.2.isVal || (y.1 != p && y.2.isBox && bxs.contains y.1))) = true) (hk : KeepB w0.heap.size ks)
    (hps : s ≠ p) (hl : (p, FD.box 42 15 (IsBook w0.heap.size Ow lo hi (g :: ex) (cnt + 1))) :: ks = l')
    (hK : ∀ a w B, St N w0 B0 a w B l' bxs → K a w) : wpOp P ops Q i K a w := by
  simp only [Bool.and_eq_true, List.all_eq_true, Bool.or_eq_true, Bool.not_eq_true', decide_eq_true_eq, bne_iff_ne, ne_eq] at hc
  obtain ⟨⟨⟨hpb, hsN⟩, hsb⟩, hall⟩ := hc
  rw [List.contains_iff_mem] at hpb
  obtain ⟨b, rv, L, e1, hBb, hbs, hA, hL, hblk, hrow⟩ := H.book kp hp hpb (by omega)
  obtain ⟨⟨ng, sl, e0, ad, n, c, e2, g1, g2, g3, g4, g5⟩, hD⟩ := hx a w B H.fc
  subst e2
  have hB0 : w0.heap.size ≤ w.heap.size := H.bel.size
  have hho : HdOk w0.heap.size w ⟨ad, n, c, none, 0, 0⟩ := ⟨g1, g2, g3, fun h0 => by
    obtain ⟨x, cs, f1, f2, f3, f4, f5⟩ := g5 h0
    exact ⟨x, cs, f2, (hg x f1).1, f4, f5⟩⟩
  have hse : ∀ h ∈ L, 0 < h.c → 0 < c → blkOf h.ad ≠ blkOf ad := fun h hh h0 h1 e => by
    obtain ⟨x, k1, k2, k3⟩ := hblk h hh h0
    obtain ⟨x2, cs, f1, f2, f3, f4, f5⟩ := g5 h1
    rw [k1, f2] at e
    have e : x = x2 := by injection e
    subst e
    have := hg x f1
    rcases k3 with k3 | k3
    · exact this.2.1 k3
    · exact this.2.2 k3
  unfold wpOp
  simp only [ho]
  rw [if_pos (by simp [Region.wanted])]
  refine .inl ?_
  unfold Oper.wp
  have hr : (execOp a.eval ⟨some s, .call { callee := .value (.func f), args := #[y, x], argTypes := ts }, ty, pos, af, none⟩).run P w = .ok (.enter f #[.pointer (some ⟨b, 0, none⟩), .agg #[.bool ng, .slice ad n c]]) w := by
    simp [execOp, resolve, Act.eval, Deferred.ofValue, invoke, Sem.run_bind, hent]
    have q1 := hy
    rw [e1] at q1
    have q2 : a.eval x = .agg #[.bool ng, .slice ad n c] := e0
    simp only [Act.eval, Array.getD_eq_getD_getElem?] at q1 q2
    exact ⟨q1, q2⟩
  rw [hr]
  refine (hf w0.heap.size b rv L ng ad n c w hA hB0 (by omega) hho hse).mono ?_
  rintro e w' ⟨rfl, kk, v', hA', hrr⟩
  refine hK _ w' B ?_
  have hsz : ∀ d, (some s : Option Tmp) = some d → d < a.tmps.size := fun d hd => by injection hd with hd; subst hd; rw [H.sz]; exact hsN
  have hput : ∀ z v, (a.put (some s) v).tmps.getD z undef = if some s = some z then v else a.tmps.getD z undef := fun z v => put_getD hsz
  have hold : ∀ z v, z ≠ s → (a.put (some s) v).tmps.getD z undef = a.tmps.getD z undef := fun z v hz => by
    rw [hput, if_neg fun e => hz (by injection e with e; exact e.symm)]
  have hbx : ∀ z ∈ bxs, z ≠ s := fun z hz e => by
    subst e
    rw [← List.contains_iff_mem, hsb] at hz
    cases hz
  refine ⟨put_defers.trans H.df, put_size.trans H.sz, ?_, fun z hz => ?_, fun z hz t ht hzt => ?_, ?_, fun k hk2 => Nat.lt_of_lt_of_le (H.own k hk2) kk.size, H.own0⟩
  · rw [← hl]
    refine Fct.of_all fun z hz => ?_
    rcases List.mem_cons.1 hz with rfl | hz
    · have hrb : ∀ x, v'.ownBlock = some x → ¬ B x ∧ Ow x := by
        intro x hx
        rcases hrr x hx with e | e
        · exact hrow x e
        · exact ⟨fun hBx => (by have := H.own x hBx; omega), hOw x e⟩
      refine ⟨b, _, (hold p _ (Ne.symm hps)).trans e1, hBb, hA'.lt, hA'.hd, rfl, v', _, rfl, by simp; omega, hA'.row, hrb, hA'.sep, fun h hh => ⟨hA'.one h hh, fun h0 => ?_⟩⟩
      rcases List.mem_append.1 hh with hh | hh
      · obtain ⟨x, k1, k2, k3⟩ := hblk h hh h0
        refine ⟨x, k1, k2, ?_⟩
        rcases k3 with k3 | k3
        · exact .inl k3
        · exact .inr (List.mem_cons_of_mem _ k3)
      · rw [List.mem_singleton] at hh
        subst hh
        obtain ⟨x, cs, f1, f2, f3, f4, f5⟩ := g5 h0
        exact ⟨x, by rw [f2]; rfl, f3, .inr (by rw [f1]; exact List.mem_cons_self ..)⟩
    · have hm : z ∈ l := by
        have h2 : some z ∈ is.map (fun i => l[i]?) := by rw [hks]; exact List.mem_map.2 ⟨z, hz, rfl⟩
        obtain ⟨i, _, hi⟩ := List.mem_map.1 h2
        exact List.mem_of_getElem? hi
      obtain ⟨q1, q3⟩ := hall z hz
      rw [hold z.1 _ q1]
      refine (hk.all z hz).run hbs hBb (fun hb e => ?_) kk (H.fc.all z hm)
      rcases q3 with q3 | ⟨⟨q2, q4⟩, q5⟩
      · cases hf : z.2 with
        | val E => rw [hf] at hb; simp [FD.isBox] at hb
        | ptr t n E off => rw [hf] at q3; simp [FD.isVal] at q3
        | box t n E => rw [hf] at q3; simp [FD.isVal] at q3
      · exact H.ap z.1 (List.contains_iff_mem.1 q5) p hpb q2 (e.trans e1.symm)
  · obtain ⟨c2, k1, k2, k3⟩ := H.bx z hz
    exact ⟨c2, (hold z _ (hbx z hz)).trans k1, Nat.lt_of_lt_of_le k2 kk.size, k3⟩
  · rw [hold z _ (hbx z hz), hold t _ (hbx t ht)]; exact H.ap z hz t ht hzt
  · have := kk.below hbs hB0
    exact H.bel.trans this
theorem St.nameFIb (H : St N w0 B0 a w B l bxs) (i : Nat) {s : Tmp} {t : TypeId} {n : Nat} {lo : Nat} {D : VP} (hi : l[i]? = some (s, .box t n (IsFrI lo D))) {l' : Option Nat → List (Tmp × FD)} (hl : ∀ g, l.set i (s, .box t n (IsHdI g D)) = l' g) : ∃ g, (∀ b, g = some b → lo ≤ b ∧ b < w.heap.size) ∧ St N w0 B0 a w B (l' g) bxs := by
  obtain ⟨c, cs, k1, k2, k3, k4, k5, g, h1, h2, h3⟩ := H.fc.get i hi
  refine ⟨g, fun b hb => ⟨h1 b hb, ?_⟩, H.df, H.sz, Fct.of_all fun x hx => ?_, H.bx, H.ap, H.bel, H.own, H.own0⟩
  · obtain ⟨_, _, _, h4⟩ := h2
    exact h4.lt b hb
  · rw [← hl] at hx
    rcases List.mem_or_eq_of_mem_set hx with h | h
    · exact H.fc.all x h
    · subst h; exact ⟨c, cs, k1, k2, k3, k4, k5, h2, h3⟩
end
theorem keptB_hdI {Bs : Nat} {g : Option Nat} {N : Int} : KeptB Bs (.val (IsHdI g (IsI N))) := fun v w w' B b hbs hb k ⟨⟨c, sl, e, h1⟩, h2⟩ => by
  have h3 := h1.keptB hb k
  refine ⟨⟨c, sl, e, h3⟩, ?_⟩
  obtain ⟨ad, n, d, e2, k2, l⟩ := h2
  have e4 : sl = .slice ad n d := by
    rw [e] at e2
    injection e2 with e2
    have := congrArg (fun a : Array Value => a[1]?) e2
    simpa using this
  subst e4
  obtain ⟨ad', n', c', e', g1, g2, g3, g4, g5⟩ := h1
  injection e' with i1 i2 i3
  subst i1 i2 i3
  refine ⟨ad, n, d, e2, ⟨k2.le, k2.rds.kept fun hn x hx => ?_⟩, l⟩
  obtain ⟨y, cs, f1, f2, f3, f4, f5⟩ := g5 (by have := k2.le; omega)
  rw [f2] at hx
  have hx : y = x := by injection hx
  subst hx
  rw [f4]
  exact k.limbs f4 (fun h6 => f3 (h6 ▸ hb))
set_option maxRecDepth 50000 in
theorem keep_int : KeepFnI Tryz.prog 22 := fun B b v L ng ad n c w h hB hl ho hs => by
  have b1 : Below w.heap.size w (w.alloc (.cells #[.bool ng, .slice ad n c] 52)) := (Below.refl _ _).alloc (Nat.le_refl _) _
  have k0 : Cel (w.alloc (.cells #[.bool ng, .slice ad n c] 52)) w.heap.size 52 [.bool ng, .slice ad n c] := Cel.made _ _ _ _ rfl
  have F := Lib.hid (keep_calls B b v L ad n c (w.alloc (.cells #[.bool ng, .slice ad n c] 52)) (h.below b1 (Nat.le_refl _)) (Nat.le_trans hB b1.size) hl (ho.below b1 (Nat.le_refl _)) hs)
  have hlt := h.lt
  have hsz : (w.alloc (.cells #[.bool ng, .slice ad n c] 52)).heap.size = w.heap.size + 1 := by simp
  clear h ho hs
  have c1 := k0.cell 1 _ rfl
  go_enter Tryz.func22, Tryz.ntmps22
  go_wp2_with fail
  refine (F.out).mono ?_
  rintro e w1 ⟨rfl, h1, v', h2, h3⟩
  clear F c1
  go_wp2
  go_end0
  refine ⟨rfl, (Kp.of_below b1).trans h1, v', h2, fun x hx => ?_⟩
  rcases h3 x hx with h4 | h4
  · exact .inl h4
  · exact .inr (by omega)
end Go.Proofs.YtbcbmkeeoognpaaGreatDoor

