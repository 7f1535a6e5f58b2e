/- Contracts of functions, and plain facts, part 33. -/
import Derived.Test.YtgnophflogmmaaaPk32
set_option linter.unusedVariables false
set_option linter.unusedSimpArgs false
/- R3tell. (Printed by flowfn.py.) -/
namespace Go.Proofs.Ytgnophflogmmaaa
open Go Go.RowKit

set_option maxRecDepth 20000 in
set_option maxHeartbeats 2000000 in
theorem con_r2read (s : ByteArray) (hs : s.size ≤ 140737488351232) : Con Try.prog 58 [Lit (.string s)] (Tup [IsC (readNum (bytesI s)), IsB (readOk (bytesI s))]) := by
  refine f_enter (N := 56) Try.ntmps58 (fun _ _ => by go_simp) Try.func58 rfl (by simp) ?_
  intro a0 w0 B0 H0
  replace H0 : St 56 w0 B0 a0 w0 B0 [(0, .val (Lit (.string s)))] [] := H0
  refine wp_seq ?_
  refine flow_region (dsts := [some 2, some 3]) (refs := [[], []]) (outs := [.res 0, .res 1, .pre 0]) (als := [false, false]) (posts := [.val (IsC 0), .val (IsB false)])
    (out := [(2, .val (IsC 0)), (3, .val (IsB false)), (0, .val (Lit (.string s)))]) (nb := []) H0 2 [] rfl (by kernel_rfl) rfl rfl ?_ ?_
  · refine .cons (.plain rfl (ok_assign (.const (fun w B => weakNilM _ w B rfl)))) ?_
    refine .cons (.plain rfl (ok_assign (.lit))) ?_
    exact .nil
  clear H0
  intro a1 w1 B1 H1
  refine ops_done ?_
  refine then_normal ?_
  refine wp_seq ?_
  refine wp_seq ?_
  rcases (show ((s.size : Int) = 0) ∨ (¬ (s.size : Int) = 0 ∧ (bytesI s)[0]?.getD 0 = 48 ∧ 1 < (s.size : Int)) ∨ (¬ (s.size : Int) = 0 ∧ (bytesI s)[0]?.getD 0 = 48 ∧ ¬ 1 < (s.size : Int)) ∨ (¬ (s.size : Int) = 0 ∧ ¬ (bytesI s)[0]?.getD 0 = 48) by omega) with c0 | ⟨c0, c1, c2⟩ | ⟨c0, c1, c2⟩ | ⟨c0, c1⟩
  · have hno := readOk_nil
    rw [show ([] : List Int) = bytesI s from (List.length_eq_zero_iff.1 (by rw [bytesI_length]; omega)).symm] at hno
    have n0 := (readNum_no hno).symm
    refine flow_region (dsts := [some 7, some 8, some 9, some 10, some 11, some 12, some 13, some 14, some 15, some 16, some 17, some 18, some 19]) (refs := [[.pre 2], [.res 0], [.res 1], [.res 2], [.res 3], [.res 3], [.res 3], [.res 3], [.res 7], [.res 7], [.res 7], [.res 3], [.res 3]]) (outs := [.res 12, .pre 0, .pre 1, .pre 2]) (als := [false, false, false, false, false, false, false, false, false, false, false, false, false]) (posts := [.val (Lit (.string s)), .val (Lit (.int .i64 ((s).size : Int))), .val (IsB true), .val (IsB true), .val (IsUndef), .val (IsUndef), .val (IsUndef), .val (IsUndef), .val (IsUndef), .val (IsUndef), .val (IsUndef), .val (IsUndef), .val (IsB true)])
      (out := [(19, .val (IsB true)), (2, .val (IsC 0)), (3, .val (IsB false)), (0, .val (Lit (.string s)))]) (nb := []) H1 13 [] rfl (by kernel_rfl) rfl rfl ?_ ?_
    · refine .cons (.plain rfl (ok_move (.tmp 0 rfl))) ?_
      refine .cons (.plain rfl (ok_lenS Try.underlying9 (.tmp 0 rfl))) ?_
      refine .cons (.plain rfl (ok_cmp (b := true) (.tmp 0 rfl) (.lit) ((decide_eq_true (c0)).symm))) ?_
      refine .cons (.plain rfl (ok_move (.tmp 0 rfl))) ?_
      refine .cons (.unwanted 3 false rfl rfl rfl 0 rfl) ?_
      refine .cons (.unwanted 3 false rfl rfl rfl 0 rfl) ?_
      refine .cons (.unwanted 3 false rfl rfl rfl 0 rfl) ?_
      refine .cons (.unwanted 3 false rfl rfl rfl 0 rfl) ?_
      refine .cons (.unasked 7 true rfl rfl rfl 0 rfl) ?_
      refine .cons (.unasked 7 true rfl rfl rfl 0 rfl) ?_
      refine .cons (.unasked 7 true rfl rfl rfl 0 rfl) ?_
      refine .cons (.unwanted 3 false rfl rfl rfl 0 rfl) ?_
      refine .cons (.plain rfl (ok_pickT (.tmp 0 rfl) (.lit))) ?_
      exact .nil
    clear H1 a1 w1 B1
    intro a2 w2 B2 H2
    refine ops_done ?_
    refine then_normal ?_
    refine f_condT H2 (.tmp 0 rfl) ?_
    refine wp_seq ?_
    refine flow_region (dsts := [some 2, some 3]) (refs := [[], []]) (outs := [.res 0, .res 1, .pre 3]) (als := [false, false]) (posts := [.val (IsC 0), .val (IsB false)])
      (out := [(2, .val (IsC 0)), (3, .val (IsB false)), (0, .val (Lit (.string s)))]) (nb := []) H2 2 [] rfl (by kernel_rfl) rfl rfl ?_ ?_
    · refine .cons (.plain rfl (ok_assign (.const (fun w B => weakNilM _ w B rfl)))) ?_
      refine .cons (.plain rfl (ok_assign (.lit))) ?_
      exact .nil
    clear H2 a2 w2 B2
    intro a3 w3 B3 H3
    refine ops_done ?_
    refine then_normal ?_
    refine wp_ret ?_
    refine then_ret ?_
    exact f_retN H3 rfl rfl (.tmp 0 rfl (fun v w B h => by exact isC_eq (by assumption) h) (.tmp 1 rfl (fun v w B h => by exact isB_eq (by first | assumption | exact Eq.symm (by assumption)) h) (.nil)))
  · have hno := readOk_lead c1 (by rw [bytesI_length]; omega)
    have n0 := (readNum_no hno).symm
    refine flow_region (dsts := [some 7, some 8, some 9, some 10, some 11, some 12, some 13, some 14, some 15, some 16, some 17, some 18, some 19]) (refs := [[.pre 2], [.res 0], [.res 1], [.res 2], [.res 3, .pre 2], [.res 3, .res 4], [.res 3, .res 5], [.res 3, .res 6], [.res 7, .pre 2], [.res 7, .res 8], [.res 7, .res 9], [.res 3, .res 7, .res 10], [.res 3, .res 11]]) (outs := [.res 12, .pre 0, .pre 1, .pre 2]) (als := [false, false, false, false, false, false, false, false, false, false, false, false, false]) (posts := [.val (Lit (.string s)), .val (Lit (.int .i64 ((s).size : Int))), .val (IsB false), .val (IsB false), .val (Lit (.string s)), .val (Lit (.int .u8 ((bytesI s)[0]?.getD 0))), .val (IsB true), .val (IsB true), .val (Lit (.string s)), .val (Lit (.int .i64 ((s).size : Int))), .val (IsB true), .val (IsB true), .val (IsB true)])
      (out := [(19, .val (IsB true)), (2, .val (IsC 0)), (3, .val (IsB false)), (0, .val (Lit (.string s)))]) (nb := []) H1 13 [] rfl (by kernel_rfl) rfl rfl ?_ ?_
    · refine .cons (.plain rfl (ok_move (.tmp 0 rfl))) ?_
      refine .cons (.plain rfl (ok_lenS Try.underlying9 (.tmp 0 rfl))) ?_
      refine .cons (.plain rfl (ok_cmp (b := false) (.tmp 0 rfl) (.lit) ((decide_eq_false (c0)).symm))) ?_
      refine .cons (.plain rfl (ok_move (.tmp 0 rfl))) ?_
      refine .cons (.wanted 3 false rfl rfl rfl 0 rfl (ok_move (.tmp 1 rfl))) ?_
      refine .cons (.wanted 3 false rfl rfl rfl 0 rfl (ok_indexS (n := 0) (c := ((bytesI s)[0]?.getD 0)) Try.underlying9 (.tmp 1 rfl) (.lit) (rfl) (bytes_at s 0 (by omega)))) ?_
      refine .cons (.wanted 3 false rfl rfl rfl 0 rfl (ok_cmp (b := true) (.tmp 1 rfl) (.lit) ((decide_eq_true (c1)).symm))) ?_
      refine .cons (.wanted 3 false rfl rfl rfl 0 rfl (ok_move (.tmp 1 rfl))) ?_
      refine .cons (.wanted 7 true rfl rfl rfl 0 rfl (ok_move (.tmp 1 rfl))) ?_
      refine .cons (.wanted 7 true rfl rfl rfl 0 rfl (ok_lenS Try.underlying9 (.tmp 1 rfl))) ?_
      refine .cons (.wanted 7 true rfl rfl rfl 0 rfl (ok_cmp (b := true) (.tmp 1 rfl) (.lit) ((decide_eq_true (c2)).symm))) ?_
      refine .cons (.wanted 3 false rfl rfl rfl 0 rfl (ok_pickT (.tmp 1 rfl) (.tmp 2 rfl))) ?_
      refine .cons (.plain rfl (ok_pickF (.tmp 0 rfl) (.tmp 1 rfl))) ?_
      exact .nil
    clear H1 a1 w1 B1
    intro a4 w4 B4 H4
    refine ops_done ?_
    refine then_normal ?_
    refine f_condT H4 (.tmp 0 rfl) ?_
    refine wp_seq ?_
    refine flow_region (dsts := [some 2, some 3]) (refs := [[], []]) (outs := [.res 0, .res 1, .pre 3]) (als := [false, false]) (posts := [.val (IsC 0), .val (IsB false)])
      (out := [(2, .val (IsC 0)), (3, .val (IsB false)), (0, .val (Lit (.string s)))]) (nb := []) H4 2 [] rfl (by kernel_rfl) rfl rfl ?_ ?_
    · refine .cons (.plain rfl (ok_assign (.const (fun w B => weakNilM _ w B rfl)))) ?_
      refine .cons (.plain rfl (ok_assign (.lit))) ?_
      exact .nil
    clear H4 a4 w4 B4
    intro a5 w5 B5 H5
    refine ops_done ?_
    refine then_normal ?_
    refine wp_ret ?_
    refine then_ret ?_
    exact f_retN H5 rfl rfl (.tmp 0 rfl (fun v w B h => by exact isC_eq (by assumption) h) (.tmp 1 rfl (fun v w B h => by exact isB_eq (by first | assumption | exact Eq.symm (by assumption)) h) (.nil)))
  · have lead : (bytesI s)[0]?.getD 0 = 48 → (bytesI s).length = 1 := fun _ => by rw [bytesI_length]; omega
    refine flow_region (dsts := [some 7, some 8, some 9, some 10, some 11, some 12, some 13, some 14, some 15, some 16, some 17, some 18, some 19]) (refs := [[.pre 2], [.res 0], [.res 1], [.res 2], [.res 3, .pre 2], [.res 3, .res 4], [.res 3, .res 5], [.res 3, .res 6], [.res 7, .pre 2], [.res 7, .res 8], [.res 7, .res 9], [.res 3, .res 7, .res 10], [.res 3, .res 11]]) (outs := [.res 12, .pre 0, .pre 1, .pre 2]) (als := [false, false, false, false, false, false, false, false, false, false, false, false, false]) (posts := [.val (Lit (.string s)), .val (Lit (.int .i64 ((s).size : Int))), .val (IsB false), .val (IsB false), .val (Lit (.string s)), .val (Lit (.int .u8 ((bytesI s)[0]?.getD 0))), .val (IsB true), .val (IsB true), .val (Lit (.string s)), .val (Lit (.int .i64 ((s).size : Int))), .val (IsB false), .val (IsB false), .val (IsB false)])
      (out := [(19, .val (IsB false)), (2, .val (IsC 0)), (3, .val (IsB false)), (0, .val (Lit (.string s)))]) (nb := []) H1 13 [] rfl (by kernel_rfl) rfl rfl ?_ ?_
    · refine .cons (.plain rfl (ok_move (.tmp 0 rfl))) ?_
      refine .cons (.plain rfl (ok_lenS Try.underlying9 (.tmp 0 rfl))) ?_
      refine .cons (.plain rfl (ok_cmp (b := false) (.tmp 0 rfl) (.lit) ((decide_eq_false (c0)).symm))) ?_
      refine .cons (.plain rfl (ok_move (.tmp 0 rfl))) ?_
      refine .cons (.wanted 3 false rfl rfl rfl 0 rfl (ok_move (.tmp 1 rfl))) ?_
      refine .cons (.wanted 3 false rfl rfl rfl 0 rfl (ok_indexS (n := 0) (c := ((bytesI s)[0]?.getD 0)) Try.underlying9 (.tmp 1 rfl) (.lit) (rfl) (bytes_at s 0 (by omega)))) ?_
      refine .cons (.wanted 3 false rfl rfl rfl 0 rfl (ok_cmp (b := true) (.tmp 1 rfl) (.lit) ((decide_eq_true (c1)).symm))) ?_
      refine .cons (.wanted 3 false rfl rfl rfl 0 rfl (ok_move (.tmp 1 rfl))) ?_
      refine .cons (.wanted 7 true rfl rfl rfl 0 rfl (ok_move (.tmp 1 rfl))) ?_
      refine .cons (.wanted 7 true rfl rfl rfl 0 rfl (ok_lenS Try.underlying9 (.tmp 1 rfl))) ?_
      refine .cons (.wanted 7 true rfl rfl rfl 0 rfl (ok_cmp (b := false) (.tmp 1 rfl) (.lit) ((decide_eq_false (c2)).symm))) ?_
      refine .cons (.wanted 3 false rfl rfl rfl 0 rfl (ok_pickT (.tmp 1 rfl) (.tmp 2 rfl))) ?_
      refine .cons (.plain rfl (ok_pickF (.tmp 0 rfl) (.tmp 1 rfl))) ?_
      exact .nil
    clear H1 a1 w1 B1
    intro a6 w6 B6 H6
    refine ops_done ?_
    refine then_normal ?_
    refine f_condF H6 (.tmp 0 rfl) ?_
    refine wp_skip ?_
    refine then_normal ?_
    refine wp_seq ?_
    refine flow_region (dsts := [some 4]) (refs := [[]]) (outs := [.res 0, .pre 1, .pre 2, .pre 3]) (als := [false]) (posts := [.val (IsC 0)])
      (out := [(4, .val (IsC 0)), (2, .val (IsC 0)), (3, .val (IsB false)), (0, .val (Lit (.string s)))]) (nb := []) H6 1 [] rfl (by kernel_rfl) rfl rfl ?_ ?_
    · refine .cons (.plain rfl (ok_assign (.const (fun w B => weakNilM _ w B rfl)))) ?_
      exact .nil
    clear H6 a6 w6 B6
    intro a7 w7 B7 H7
    refine ops_done ?_
    refine then_normal ?_
    refine wp_seq ?_
    refine wp_seq ?_
    refine flow_region (dsts := [some 5]) (refs := [[]]) (outs := [.res 0, .pre 0, .pre 1, .pre 2, .pre 3]) (als := [false]) (posts := [.val (Lit (.int .i64 0))])
      (out := [(5, .val (Lit (.int .i64 0))), (4, .val (IsC 0)), (2, .val (IsC 0)), (3, .val (IsB false)), (0, .val (Lit (.string s)))]) (nb := []) H7 1 [] rfl (by kernel_rfl) rfl rfl ?_ ?_
    · refine .cons (.plain rfl (ok_assign (.lit))) ?_
      exact .nil
    clear H7 a7 w7 B7
    intro a8 w8 B8 H8
    refine ops_done ?_
    refine then_normal ?_
    refine wp_block ?_
    refine f_loop (fun (i : Int) => [(5, .val (Lit (.int .i64 i))), (4, .val (IsC 0)), (2, .val (IsC 0)), (3, .val (IsB false)), (0, .val (Lit (.string s)))]) (fun (i : Int) => 0 ≤ i ∧ i ≤ (s.size : Int) ∧ Dgs (bytesI s) i) (fun (i : Int) => ((s.size : Int) - i).toNat) (0) (St.pick H8 [0, 1, 2, 3, 4] rfl) (by exact ⟨by omega, by omega, dgs_zero _⟩) ?_
    clear H8 a8 w8 B8
    intro i a9 w9 B9 hI9 H9
    replace hI9 : 0 ≤ i ∧ i ≤ (s.size : Int) ∧ Dgs (bytesI s) i := hI9
    replace H9 : St 56 w0 B0 a9 w9 B9 [(5, .val (Lit (.int .i64 i))), (4, .val (IsC 0)), (2, .val (IsC 0)), (3, .val (IsB false)), (0, .val (Lit (.string s)))] [] := H9
    obtain ⟨i0, i1, hd⟩ := hI9
    refine wp_seq ?_
    refine wp_seq ?_
    refine flow_region (dsts := [some 20, some 21, some 22, some 23]) (refs := [[.pre 0], [.pre 4], [.res 1], [.res 0, .res 2]]) (outs := [.res 3, .pre 0, .pre 1, .pre 2, .pre 3, .pre 4]) (als := [false, false, false, false]) (posts := [.val (Lit (.int .i64 i)), .val (Lit (.string s)), .val (Lit (.int .i64 ((s).size : Int))), .val (IsB (decide (i < ((s).size : Int))))])
      (out := [(23, .val (IsB (decide (i < ((s).size : Int))))), (5, .val (Lit (.int .i64 i))), (4, .val (IsC 0)), (2, .val (IsC 0)), (3, .val (IsB false)), (0, .val (Lit (.string s)))]) (nb := []) H9 4 [] rfl (by kernel_rfl) rfl rfl ?_ ?_
    · refine .cons (.plain rfl (ok_move (.tmp 0 rfl))) ?_
      refine .cons (.plain rfl (ok_move (.tmp 0 rfl))) ?_
      refine .cons (.plain rfl (ok_lenS Try.underlying9 (.tmp 0 rfl))) ?_
      refine .cons (.plain rfl (ok_cmp (.tmp 0 rfl) (.tmp 1 rfl) rfl)) ?_
      exact .nil
    clear H9 a9 w9 B9
    intro a10 w10 B10 H10
    refine ops_done ?_
    refine then_normal ?_
    refine f_cond H10 (.tmp 0 rfl) ?_ ?_
    · intro hc11
      replace hc11 := of_decide_eq_true hc11
      refine wp_skip ?_
      refine then_normal ?_
      refine wp_seq ?_
      refine wp_block ?_
      refine wp_seq ?_
      refine flow_region (dsts := [some 26, some 27, some 28, some 29, some 30, some 31, some 32, some 33, some 34, some 35]) (refs := [[.pre 5], [.pre 1], [.res 0, .res 1], [.res 2], [.res 3], [.res 4, .pre 5], [.res 4, .pre 1], [.res 4, .res 5, .res 6], [.res 4, .res 7], [.res 4, .res 8]]) (outs := [.res 9, .pre 1, .pre 2, .pre 3, .pre 4, .pre 5]) (als := [false, false, false, false, false, false, false, false, false, false]) (posts := [.val (Lit (.string s)), .val (Lit (.int .i64 i)), .val (Lit (.int .u8 ((bytesI s)[i.toNat]?.getD 0))), .val (IsB (decide ((bytesI s)[i.toNat]?.getD 0 < 48))), .val (IsB (decide ((bytesI s)[i.toNat]?.getD 0 < 48))), .val (Grd ((decide ((bytesI s)[i.toNat]?.getD 0 < 48)) == false) (Lit (.string s))), .val (Grd ((decide ((bytesI s)[i.toNat]?.getD 0 < 48)) == false) (Lit (.int .i64 i))), .val (Grd ((decide ((bytesI s)[i.toNat]?.getD 0 < 48)) == false) (Lit (.int .u8 ((bytesI s)[i.toNat]?.getD 0)))), .val (Grd ((decide ((bytesI s)[i.toNat]?.getD 0 < 48)) == false) (IsB (decide (57 < (bytesI s)[i.toNat]?.getD 0)))), .val (IsB ((decide ((bytesI s)[i.toNat]?.getD 0 < 48)) || (decide (57 < (bytesI s)[i.toNat]?.getD 0))))])
        (out := [(35, .val (IsB ((decide ((bytesI s)[i.toNat]?.getD 0 < 48)) || (decide (57 < (bytesI s)[i.toNat]?.getD 0))))), (5, .val (Lit (.int .i64 i))), (4, .val (IsC 0)), (2, .val (IsC 0)), (3, .val (IsB false)), (0, .val (Lit (.string s)))]) (nb := []) H10 10 [] rfl (by kernel_rfl) rfl rfl ?_ ?_
      · refine .cons (.plain rfl (ok_move (.tmp 0 rfl))) ?_
        refine .cons (.plain rfl (ok_move (.tmp 0 rfl))) ?_
        refine .cons (.plain rfl (ok_indexS (n := i.toNat) (c := ((bytesI s)[i.toNat]?.getD 0)) Try.underlying9 (.tmp 0 rfl) (.tmp 1 rfl) (by omega) (bytes_at s i.toNat (by omega)))) ?_
        refine .cons (.plain rfl (ok_cmp (.tmp 0 rfl) (.lit) rfl)) ?_
        refine .cons (.plain rfl (ok_move (.tmp 0 rfl))) ?_
        refine .cons (.sym 4 false (decide ((bytesI s)[i.toNat]?.getD 0 < 48)) ((decide ((bytesI s)[i.toNat]?.getD 0 < 48)) == false) rfl rfl rfl 0 (need' := [(30, .val (IsB (decide ((bytesI s)[i.toNat]?.getD 0 < 48)))), (0, .val (Lit (.string s)))]) rfl rfl (fun a w B e h => ⟨h.1, h.2.1, trivial⟩) (fun e => ok_move (.tmp 1 rfl))) ?_
        refine .cons (.sym 4 false (decide ((bytesI s)[i.toNat]?.getD 0 < 48)) ((decide ((bytesI s)[i.toNat]?.getD 0 < 48)) == false) rfl rfl rfl 0 (need' := [(30, .val (IsB (decide ((bytesI s)[i.toNat]?.getD 0 < 48)))), (5, .val (Lit (.int .i64 i)))]) rfl rfl (fun a w B e h => ⟨h.1, h.2.1, trivial⟩) (fun e => ok_move (.tmp 1 rfl))) ?_
        refine .cons (.sym 4 false (decide ((bytesI s)[i.toNat]?.getD 0 < 48)) ((decide ((bytesI s)[i.toNat]?.getD 0 < 48)) == false) rfl rfl rfl 0 (need' := [(30, .val (IsB (decide ((bytesI s)[i.toNat]?.getD 0 < 48)))), (31, .val (Lit (.string s))), (32, .val (Lit (.int .i64 i)))]) rfl rfl (fun a w B e h => ⟨h.1, h.2.1.1 (e), h.2.2.1.1 (e), trivial⟩) (fun e => ok_indexS (n := i.toNat) (c := ((bytesI s)[i.toNat]?.getD 0)) Try.underlying9 (.tmp 1 rfl) (.tmp 2 rfl) (by omega) (bytes_at s i.toNat (by omega)))) ?_
        refine .cons (.sym 4 false (decide ((bytesI s)[i.toNat]?.getD 0 < 48)) ((decide ((bytesI s)[i.toNat]?.getD 0 < 48)) == false) rfl rfl rfl 0 (need' := [(30, .val (IsB (decide ((bytesI s)[i.toNat]?.getD 0 < 48)))), (33, .val (Lit (.int .u8 ((bytesI s)[i.toNat]?.getD 0))))]) rfl rfl (fun a w B e h => ⟨h.1, h.2.1.1 (e), trivial⟩) (fun e => ok_cmp (.tmp 1 rfl) (.lit) rfl)) ?_
        refine .cons (.plain rfl (ok_pickS (decide ((bytesI s)[i.toNat]?.getD 0 < 48)) (.tmp 0 rfl) (fun e => Opd.eqB (.lit) (by rw [e]; rfl)) (fun e => Opd.eqB (Opd.grd (.tmp 1 rfl) (by first | (rw [e]; rfl) | (simp only [e]; rfl) | (simp [*] at *; done))) (by rw [e]; rfl)))) ?_
        exact .nil
      clear H10 a10 w10 B10
      intro a12 w12 B12 H12
      refine ops_done ?_
      refine then_normal ?_
      refine f_cond H12 (.tmp 0 rfl) ?_ ?_
      · intro hc13
        have hno : readOk (bytesI s) = false := readOk_not (i := i.toNat) (by rw [bytesI_length]; omega) (by rw [Bool.or_eq_true, decide_eq_true_eq, decide_eq_true_eq] at hc13; exact hc13)
        have n0 := (readNum_no hno).symm
        refine wp_seq ?_
        refine flow_region (dsts := [some 2, some 3]) (refs := [[], []]) (outs := [.res 0, .res 1, .pre 1, .pre 2, .pre 5]) (als := [false, false]) (posts := [.val (IsC 0), .val (IsB false)])
          (out := [(2, .val (IsC 0)), (3, .val (IsB false)), (5, .val (Lit (.int .i64 i))), (4, .val (IsC 0)), (0, .val (Lit (.string s)))]) (nb := []) H12 2 [] rfl (by kernel_rfl) rfl rfl ?_ ?_
        · refine .cons (.plain rfl (ok_assign (.const (fun w B => weakNilM _ w B rfl)))) ?_
          refine .cons (.plain rfl (ok_assign (.lit))) ?_
          exact .nil
        clear H12 a12 w12 B12
        intro a14 w14 B14 H14
        refine ops_done ?_
        refine then_normal ?_
        refine wp_ret ?_
        refine block_ret ?_
        refine then_ret ?_
        refine then_ret ?_
        refine block_ret ?_
        refine then_ret ?_
        exact f_retN H14 rfl rfl (.tmp 0 rfl (fun v w B h => by exact isC_eq (by assumption) h) (.tmp 1 rfl (fun v w B h => by exact isB_eq (by first | assumption | exact Eq.symm (by assumption)) h) (.nil)))
      · intro hc13
        rw [Bool.or_eq_false_iff, decide_eq_false_iff_not, decide_eq_false_iff_not] at hc13
        have dg1 := dgs_step i0 hd hc13.1 hc13.2
        refine wp_skip ?_
        refine block_normal ?_
        refine then_normal ?_
        refine flow_region (dsts := [some 24, some 25]) (refs := [[.pre 1], [.res 0]]) (outs := [.res 1, .pre 1, .pre 2, .pre 3, .pre 4, .pre 5]) (als := [false, false]) (posts := [.val (Lit (.int .i64 i)), .val (Lit (.int .i64 (i + 1)))])
          (out := [(25, .val (Lit (.int .i64 (i + 1)))), (5, .val (Lit (.int .i64 i))), (4, .val (IsC 0)), (2, .val (IsC 0)), (3, .val (IsB false)), (0, .val (Lit (.string s)))]) (nb := []) H12 2 [2] rfl (by kernel_rfl) rfl rfl ?_ ?_
        · refine .cons (.plain rfl (ok_move (.tmp 0 rfl))) ?_
          refine .cons (.plain rfl (ok_add (r := (i + 1)) (.tmp 0 rfl) (.lit) (w_i64 (by omega)))) ?_
          exact .nil
        clear H12 a12 w12 B12
        intro a15 w15 B15 H15
        refine ops_one ?_
        refine tail_op (D := .val (Lit (.int .i64 (i + 1)))) (l' := [(5, .val (Lit (.int .i64 (i + 1)))), (25, .val (Lit (.int .i64 (i + 1)))), (4, .val (IsC 0)), (2, .val (IsC 0)), (3, .val (IsB false)), (0, .val (Lit (.string s)))]) H15 rfl rfl rfl (.plain rfl (ok_assign (.tmp 0 rfl))) rfl rfl ?_
        clear H15 a15 w15 B15
        intro a16 w16 B16 H16
        refine ops_done ?_
        exact ⟨i + 1, B16, by exact ⟨by omega, by omega, dg1⟩, St.pick H16 [0, 2, 3, 4, 5] rfl, by omega⟩
    · intro hc11
      replace hc11 := of_decide_eq_false hc11
      have hi : i = ((bytesI s).length : Int) := by rw [bytesI_length]; omega
      rw [hi] at hd
      have hD := dgs_all hd
      have ne0 : bytesI s ≠ [] := fun e => by have := bytesI_length s; rw [e] at this; simp at this; omega
      refine wp_exit ?_
      refine then_exit ?_
      refine then_exit ?_
      refine block_exit ?_
      refine then_normal ?_
      refine wp_seq ?_
      refine wp_seq ?_
      refine flow_region (dsts := [some 6]) (refs := [[]]) (outs := [.res 0, .pre 1, .pre 2, .pre 3, .pre 4, .pre 5]) (als := [false]) (posts := [.val (Lit (.int .i64 0))])
        (out := [(6, .val (Lit (.int .i64 0))), (5, .val (Lit (.int .i64 i))), (4, .val (IsC 0)), (2, .val (IsC 0)), (3, .val (IsB false)), (0, .val (Lit (.string s)))]) (nb := []) H10 1 [] rfl (by kernel_rfl) rfl rfl ?_ ?_
      · refine .cons (.plain rfl (ok_assign (.lit))) ?_
        exact .nil
      clear H10 a10 w10 B10
      intro a17 w17 B17 H17
      refine ops_done ?_
      refine then_normal ?_
      refine wp_block ?_
      refine f_loop (fun (j : Int) => [(6, .val (Lit (.int .i64 j))), (5, .val (Lit (.int .i64 i))), (4, .val (IsC (readV ((bytesI s).take j.toNat)))), (2, .val (IsC 0)), (3, .val (IsB false)), (0, .val (Lit (.string s)))]) (fun (j : Int) => 0 ≤ j ∧ j ≤ (s.size : Int) ∧ (dg 4294967296 (readV ((bytesI s).take j.toNat))).length ≤ 262144) (fun (j : Int) => ((s.size : Int) - j).toNat) (0) (St.pick H17 [0, 1, 2, 3, 4, 5] rfl) (by exact ⟨by omega, by omega, by show (dg 4294967296 0).length ≤ _; rw [dg_zero]; exact Nat.zero_le _⟩) ?_
      clear H17 a17 w17 B17
      intro j a18 w18 B18 hI18 H18
      replace hI18 : 0 ≤ j ∧ j ≤ (s.size : Int) ∧ (dg 4294967296 (readV ((bytesI s).take j.toNat))).length ≤ 262144 := hI18
      replace H18 : St 56 w0 B0 a18 w18 B18 [(6, .val (Lit (.int .i64 j))), (5, .val (Lit (.int .i64 i))), (4, .val (IsC (readV ((bytesI s).take j.toNat)))), (2, .val (IsC 0)), (3, .val (IsB false)), (0, .val (Lit (.string s)))] [] := H18
      obtain ⟨j0, j1, hl⟩ := hI18
      have hv := readV_nonneg (bytesI s) hD j.toNat
      have hf := fit_nat hv hl
      refine wp_seq ?_
      refine wp_seq ?_
      refine flow_region (dsts := [some 36, some 37, some 38, some 39]) (refs := [[.pre 0], [.pre 5], [.res 1], [.res 0, .res 2]]) (outs := [.res 3, .pre 0, .pre 1, .pre 2, .pre 3, .pre 4, .pre 5]) (als := [false, false, false, false]) (posts := [.val (Lit (.int .i64 j)), .val (Lit (.string s)), .val (Lit (.int .i64 ((s).size : Int))), .val (IsB (decide (j < ((s).size : Int))))])
        (out := [(39, .val (IsB (decide (j < ((s).size : Int))))), (6, .val (Lit (.int .i64 j))), (5, .val (Lit (.int .i64 i))), (4, .val (IsC (readV ((bytesI s).take j.toNat)))), (2, .val (IsC 0)), (3, .val (IsB false)), (0, .val (Lit (.string s)))]) (nb := []) H18 4 [] rfl (by kernel_rfl) rfl rfl ?_ ?_
      · refine .cons (.plain rfl (ok_move (.tmp 0 rfl))) ?_
        refine .cons (.plain rfl (ok_move (.tmp 0 rfl))) ?_
        refine .cons (.plain rfl (ok_lenS Try.underlying9 (.tmp 0 rfl))) ?_
        refine .cons (.plain rfl (ok_cmp (.tmp 0 rfl) (.tmp 1 rfl) rfl)) ?_
        exact .nil
      clear H18 a18 w18 B18
      intro a19 w19 B19 H19
      refine ops_done ?_
      refine then_normal ?_
      refine f_cond H19 (.tmp 0 rfl) ?_ ?_
      · intro hc20
        replace hc20 := of_decide_eq_true hc20
        have dgi := hD.get (i := j.toNat) (by rw [bytesI_length]; omega)
        refine wp_skip ?_
        refine then_normal ?_
        refine wp_seq ?_
        refine wp_block ?_
        refine wp_seq ?_
        refine flow_drawT (dsts := [some 42, some 43, some 44, some 45, some 46, some 47, some 48, some 49, some 50, some 51]) (refs := [[.pre 3], [], [.res 0, .res 1], [.pre 6], [.pre 1], [.res 3, .res 4], [.res 5], [.res 6], [.res 7], [.res 2, .res 8]]) (outs := [.res 9, .pre 1, .pre 2, .pre 3, .pre 4, .pre 5, .pre 6]) (als := [false, false, false, false, false, false, false, false, false, false]) (posts := [.val (IsC (readV ((bytesI s).take j.toNat))), .val (IsM 10), .val (IsC ((readV ((bytesI s).take j.toNat)) * 10)), .val (Lit (.string s)), .val (Lit (.int .i64 j)), .val (Lit (.int .u8 ((bytesI s)[j.toNat]?.getD 0))), .val (Lit (.int .u8 (((bytesI s)[j.toNat]?.getD 0) - 48))), .val (Lit (.int .u32 (((bytesI s)[j.toNat]?.getD 0) - 48))), .val (IsM (((bytesI s)[j.toNat]?.getD 0) - 48)), .val (IsC (((readV ((bytesI s).take j.toNat)) * 10) + (((bytesI s)[j.toNat]?.getD 0) - 48)))])
          (out := [(51, .val (IsC (((readV ((bytesI s).take j.toNat)) * 10) + (((bytesI s)[j.toNat]?.getD 0) - 48)))), (6, .val (Lit (.int .i64 j))), (5, .val (Lit (.int .i64 i))), (4, .val (IsC (readV ((bytesI s).take j.toNat)))), (2, .val (IsC 0)), (3, .val (IsB false)), (0, .val (Lit (.string s)))]) (nb := []) H19 (by kernel_rfl) 10 1 #[true, true, true, true, true, true, true, true, true, true, false] (by kernel_rfl) (by kernel_rfl) rfl rfl ?_ ?_
        · refine .cons (.plain rfl (ok_move (.tmp 0 rfl))) ?_
          refine .cons (.plain rfl (ok_nat1 (by omega) (.lit))) ?_
          refine .cons (.plain rfl (ok_call (con_rmul (readV ((bytesI s).take j.toNat)) 10 (((hf.mul (FitK.small (N := 10) (by decide)))).fits (by omega))) (.cons (.weak (.tmp 0 rfl) weakCM) (.cons (.tmp 1 rfl) (.nil))))) ?_
          refine .cons (.plain rfl (ok_move (.tmp 0 rfl))) ?_
          refine .cons (.plain rfl (ok_move (.tmp 0 rfl))) ?_
          refine .cons (.plain rfl (ok_indexS (n := j.toNat) (c := ((bytesI s)[j.toNat]?.getD 0)) Try.underlying9 (.tmp 0 rfl) (.tmp 1 rfl) (by omega) (bytes_at s j.toNat (by omega)))) ?_
          refine .cons (.plain rfl (ok_sub (r := (((bytesI s)[j.toNat]?.getD 0) - 48)) (.tmp 0 rfl) (.lit) (w_u8 (by omega)))) ?_
          refine .cons (.plain rfl (ok_conv Try.underlying5 Try.underlying78 (r := (((bytesI s)[j.toNat]?.getD 0) - 48)) (.tmp 0 rfl) (w_u32 (by omega)))) ?_
          refine .cons (.plain rfl (ok_nat1 (by omega) (.tmp 0 rfl))) ?_
          refine .cons (.plain rfl (ok_call (con_radd ((readV ((bytesI s).take j.toNat)) * 10) (((bytesI s)[j.toNat]?.getD 0) - 48) ((((hf.mul (FitK.small (N := 10) (by decide))).add (FitK.small (N := ((bytesI s)[j.toNat]?.getD 0) - 48) (by omega)))).fits (by omega))) (.cons (.weak (.tmp 0 rfl) weakCM) (.cons (.tmp 1 rfl) (.nil))))) ?_
          exact .nil
        clear H19 a19 w19 B19
        intro a21 w21 B21 H21
        refine any_oneT (l' := #[true, true, true, true, true, true, true, true, true, true, true]) 10 (by kernel_rfl) ?_
        refine tail_op (D := .val (IsC (((readV ((bytesI s).take j.toNat)) * 10) + (((bytesI s)[j.toNat]?.getD 0) - 48)))) (l' := [(4, .val (IsC (((readV ((bytesI s).take j.toNat)) * 10) + (((bytesI s)[j.toNat]?.getD 0) - 48)))), (51, .val (IsC (((readV ((bytesI s).take j.toNat)) * 10) + (((bytesI s)[j.toNat]?.getD 0) - 48)))), (6, .val (Lit (.int .i64 j))), (5, .val (Lit (.int .i64 i))), (2, .val (IsC 0)), (3, .val (IsB false)), (0, .val (Lit (.string s)))]) H21 rfl rfl rfl (.plain rfl (ok_assign (.tmp 0 rfl))) rfl rfl ?_
        clear H21 a21 w21 B21
        intro a22 w22 B22 H22
        refine any_done (by kernel_rfl) ?_
        refine then_normal ?_
        refine wp_seq ?_
        have H23 := St.set1 H22 0 (D' := IsC (readV ((bytesI s).take (j + 1).toNat))) rfl (fun v w B h => isC_eq (readV_one j0 (by rw [bytesI_length]; omega)) h) (l' := [(4, .val (IsC (readV ((bytesI s).take (j + 1).toNat)))), (51, .val (IsC (((readV ((bytesI s).take j.toNat)) * 10) + (((bytesI s)[j.toNat]?.getD 0) - 48)))), (6, .val (Lit (.int .i64 j))), (5, .val (Lit (.int .i64 i))), (2, .val (IsC 0)), (3, .val (IsB false)), (0, .val (Lit (.string s)))]) rfl
        clear H22
        refine flow_region (dsts := [some 52, some 53, some 54]) (refs := [[.pre 0], [.res 0], [.res 1]]) (outs := [.res 2, .pre 0, .pre 2, .pre 3, .pre 4, .pre 5, .pre 6]) (als := [false, false, false]) (posts := [.val (IsC (readV ((bytesI s).take (j + 1).toNat))), .val (Lit (.int .i64 ((dg 4294967296 (readV ((bytesI s).take (j + 1).toNat))).length : Int))), .val (IsB (decide (262144 < ((dg 4294967296 (readV ((bytesI s).take (j + 1).toNat))).length : Int))))])
          (out := [(54, .val (IsB (decide (262144 < ((dg 4294967296 (readV ((bytesI s).take (j + 1).toNat))).length : Int))))), (4, .val (IsC (readV ((bytesI s).take (j + 1).toNat)))), (6, .val (Lit (.int .i64 j))), (5, .val (Lit (.int .i64 i))), (2, .val (IsC 0)), (3, .val (IsB false)), (0, .val (Lit (.string s)))]) (nb := []) H23 3 [] rfl (by kernel_rfl) rfl rfl ?_ ?_
        · refine .cons (.plain rfl (ok_move (.tmp 0 rfl))) ?_
          refine .cons (.plain rfl (ok_lenC (.tmp 0 rfl))) ?_
          refine .cons (.plain rfl (ok_cmp (.tmp 0 rfl) (.lit) rfl)) ?_
          exact .nil
        clear H23 a22 w22 B22
        intro a24 w24 B24 H24
        refine ops_done ?_
        refine then_normal ?_
        refine f_cond H24 (.tmp 0 rfl) ?_ ?_
        · intro hc25
          replace hc25 := of_decide_eq_true hc25
          have hno := readOk_long hD _ hc25
          have n0 := (readNum_no hno).symm
          refine wp_seq ?_
          refine flow_region (dsts := [some 2, some 3]) (refs := [[], []]) (outs := [.res 0, .res 1, .pre 1, .pre 2, .pre 3, .pre 6]) (als := [false, false]) (posts := [.val (IsC 0), .val (IsB false)])
            (out := [(2, .val (IsC 0)), (3, .val (IsB false)), (4, .val (IsC (readV ((bytesI s).take (j + 1).toNat)))), (6, .val (Lit (.int .i64 j))), (5, .val (Lit (.int .i64 i))), (0, .val (Lit (.string s)))]) (nb := []) H24 2 [] rfl (by kernel_rfl) rfl rfl ?_ ?_
          · refine .cons (.plain rfl (ok_assign (.const (fun w B => weakNilM _ w B rfl)))) ?_
            refine .cons (.plain rfl (ok_assign (.lit))) ?_
            exact .nil
          clear H24 a24 w24 B24
          intro a26 w26 B26 H26
          refine ops_done ?_
          refine then_normal ?_
          refine wp_ret ?_
          refine block_ret ?_
          refine then_ret ?_
          refine then_ret ?_
          refine block_ret ?_
          refine then_ret ?_
          exact f_retN H26 rfl rfl (.tmp 0 rfl (fun v w B h => by exact isC_eq (by assumption) h) (.tmp 1 rfl (fun v w B h => by exact isB_eq (by first | assumption | exact Eq.symm (by assumption)) h) (.nil)))
        · intro hc25
          replace hc25 := of_decide_eq_false hc25
          refine wp_skip ?_
          refine block_normal ?_
          refine then_normal ?_
          refine flow_region (dsts := [some 40, some 41]) (refs := [[.pre 2], [.res 0]]) (outs := [.res 1, .pre 1, .pre 2, .pre 3, .pre 4, .pre 5, .pre 6]) (als := [false, false]) (posts := [.val (Lit (.int .i64 j)), .val (Lit (.int .i64 (j + 1)))])
            (out := [(41, .val (Lit (.int .i64 (j + 1)))), (4, .val (IsC (readV ((bytesI s).take (j + 1).toNat)))), (6, .val (Lit (.int .i64 j))), (5, .val (Lit (.int .i64 i))), (2, .val (IsC 0)), (3, .val (IsB false)), (0, .val (Lit (.string s)))]) (nb := []) H24 2 [2] rfl (by kernel_rfl) rfl rfl ?_ ?_
          · refine .cons (.plain rfl (ok_move (.tmp 0 rfl))) ?_
            refine .cons (.plain rfl (ok_add (r := (j + 1)) (.tmp 0 rfl) (.lit) (w_i64 (by omega)))) ?_
            exact .nil
          clear H24 a24 w24 B24
          intro a27 w27 B27 H27
          refine ops_one ?_
          refine tail_op (D := .val (Lit (.int .i64 (j + 1)))) (l' := [(6, .val (Lit (.int .i64 (j + 1)))), (41, .val (Lit (.int .i64 (j + 1)))), (4, .val (IsC (readV ((bytesI s).take (j + 1).toNat)))), (5, .val (Lit (.int .i64 i))), (2, .val (IsC 0)), (3, .val (IsB false)), (0, .val (Lit (.string s)))]) H27 rfl rfl rfl (.plain rfl (ok_assign (.tmp 0 rfl))) rfl rfl ?_
          clear H27 a27 w27 B27
          intro a28 w28 B28 H28
          refine ops_done ?_
          exact ⟨j + 1, B28, by exact ⟨by omega, by omega, by omega⟩, St.pick H28 [0, 3, 2, 4, 5, 6] rfl, by omega⟩
      · intro hc20
        replace hc20 := of_decide_eq_false hc20
        have hj : j = ((bytesI s).length : Int) := by rw [bytesI_length]; omega
        have hyes := readOk_yes hD ne0 lead (by rw [hj, Int.toNat_natCast, List.take_length] at hl; exact hl)
        have nyes : readV ((bytesI s).take j.toNat) = readNum (bytesI s) := by rw [hj, Int.toNat_natCast, List.take_length]; exact (readNum_yes hyes).symm
        refine wp_exit ?_
        refine then_exit ?_
        refine then_exit ?_
        refine block_exit ?_
        refine then_normal ?_
        refine wp_seq ?_
        refine flow_region (dsts := [some 55, some 2, some 3]) (refs := [[.pre 3], [.res 0], []]) (outs := [.res 1, .res 2, .pre 1, .pre 2, .pre 3, .pre 6]) (als := [false, false, false]) (posts := [.val (IsC (readV ((bytesI s).take j.toNat))), .val (IsC (readV ((bytesI s).take j.toNat))), .val (IsB true)])
          (out := [(2, .val (IsC (readV ((bytesI s).take j.toNat)))), (3, .val (IsB true)), (6, .val (Lit (.int .i64 j))), (5, .val (Lit (.int .i64 i))), (4, .val (IsC (readV ((bytesI s).take j.toNat)))), (0, .val (Lit (.string s)))]) (nb := []) H19 3 [] rfl (by kernel_rfl) rfl rfl ?_ ?_
        · refine .cons (.plain rfl (ok_move (.tmp 0 rfl))) ?_
          refine .cons (.plain rfl (ok_assign (.tmp 0 rfl))) ?_
          refine .cons (.plain rfl (ok_assign (.lit))) ?_
          exact .nil
        clear H19 a19 w19 B19
        intro a29 w29 B29 H29
        refine ops_done ?_
        refine then_normal ?_
        refine wp_ret ?_
        exact f_retN H29 rfl rfl (.tmp 0 rfl (fun v w B h => by exact isC_eq (by assumption) h) (.tmp 1 rfl (fun v w B h => by exact isB_eq (by first | assumption | exact Eq.symm (by assumption)) h) (.nil)))
  · have lead : (bytesI s)[0]?.getD 0 = 48 → (bytesI s).length = 1 := fun h => absurd h c1
    refine flow_region (dsts := [some 7, some 8, some 9, some 10, some 11, some 12, some 13, some 14, some 15, some 16, some 17, some 18, some 19]) (refs := [[.pre 2], [.res 0], [.res 1], [.res 2], [.res 3, .pre 2], [.res 3, .res 4], [.res 3, .res 5], [.res 3, .res 6], [.res 7], [.res 7], [.res 7], [.res 3, .res 7], [.res 3, .res 11]]) (outs := [.res 12, .pre 0, .pre 1, .pre 2]) (als := [false, false, false, false, false, false, false, false, false, false, false, false, false]) (posts := [.val (Lit (.string s)), .val (Lit (.int .i64 ((s).size : Int))), .val (IsB false), .val (IsB false), .val (Lit (.string s)), .val (Lit (.int .u8 ((bytesI s)[0]?.getD 0))), .val (IsB false), .val (IsB false), .val (IsUndef), .val (IsUndef), .val (IsUndef), .val (IsB false), .val (IsB false)])
      (out := [(19, .val (IsB false)), (2, .val (IsC 0)), (3, .val (IsB false)), (0, .val (Lit (.string s)))]) (nb := []) H1 13 [] rfl (by kernel_rfl) rfl rfl ?_ ?_
    · refine .cons (.plain rfl (ok_move (.tmp 0 rfl))) ?_
      refine .cons (.plain rfl (ok_lenS Try.underlying9 (.tmp 0 rfl))) ?_
      refine .cons (.plain rfl (ok_cmp (b := false) (.tmp 0 rfl) (.lit) ((decide_eq_false (c0)).symm))) ?_
      refine .cons (.plain rfl (ok_move (.tmp 0 rfl))) ?_
      refine .cons (.wanted 3 false rfl rfl rfl 0 rfl (ok_move (.tmp 1 rfl))) ?_
      refine .cons (.wanted 3 false rfl rfl rfl 0 rfl (ok_indexS (n := 0) (c := ((bytesI s)[0]?.getD 0)) Try.underlying9 (.tmp 1 rfl) (.lit) (rfl) (bytes_at s 0 (by omega)))) ?_
      refine .cons (.wanted 3 false rfl rfl rfl 0 rfl (ok_cmp (b := false) (.tmp 1 rfl) (.lit) ((decide_eq_false (c1)).symm))) ?_
      refine .cons (.wanted 3 false rfl rfl rfl 0 rfl (ok_move (.tmp 1 rfl))) ?_
      refine .cons (.unwanted 7 true rfl rfl rfl 0 rfl) ?_
      refine .cons (.unwanted 7 true rfl rfl rfl 0 rfl) ?_
      refine .cons (.unwanted 7 true rfl rfl rfl 0 rfl) ?_
      refine .cons (.wanted 3 false rfl rfl rfl 0 rfl (ok_pickF (.tmp 1 rfl) (.lit))) ?_
      refine .cons (.plain rfl (ok_pickF (.tmp 0 rfl) (.tmp 1 rfl))) ?_
      exact .nil
    clear H1 a1 w1 B1
    intro a30 w30 B30 H30
    refine ops_done ?_
    refine then_normal ?_
    refine f_condF H30 (.tmp 0 rfl) ?_
    refine wp_skip ?_
    refine then_normal ?_
    refine wp_seq ?_
    refine flow_region (dsts := [some 4]) (refs := [[]]) (outs := [.res 0, .pre 1, .pre 2, .pre 3]) (als := [false]) (posts := [.val (IsC 0)])
      (out := [(4, .val (IsC 0)), (2, .val (IsC 0)), (3, .val (IsB false)), (0, .val (Lit (.string s)))]) (nb := []) H30 1 [] rfl (by kernel_rfl) rfl rfl ?_ ?_
    · refine .cons (.plain rfl (ok_assign (.const (fun w B => weakNilM _ w B rfl)))) ?_
      exact .nil
    clear H30 a30 w30 B30
    intro a31 w31 B31 H31
    refine ops_done ?_
    refine then_normal ?_
    refine wp_seq ?_
    refine wp_seq ?_
    refine flow_region (dsts := [some 5]) (refs := [[]]) (outs := [.res 0, .pre 0, .pre 1, .pre 2, .pre 3]) (als := [false]) (posts := [.val (Lit (.int .i64 0))])
      (out := [(5, .val (Lit (.int .i64 0))), (4, .val (IsC 0)), (2, .val (IsC 0)), (3, .val (IsB false)), (0, .val (Lit (.string s)))]) (nb := []) H31 1 [] rfl (by kernel_rfl) rfl rfl ?_ ?_
    · refine .cons (.plain rfl (ok_assign (.lit))) ?_
      exact .nil
    clear H31 a31 w31 B31
    intro a32 w32 B32 H32
    refine ops_done ?_
    refine then_normal ?_
    refine wp_block ?_
    refine f_loop (fun (i : Int) => [(5, .val (Lit (.int .i64 i))), (4, .val (IsC 0)), (2, .val (IsC 0)), (3, .val (IsB false)), (0, .val (Lit (.string s)))]) (fun (i : Int) => 0 ≤ i ∧ i ≤ (s.size : Int) ∧ Dgs (bytesI s) i) (fun (i : Int) => ((s.size : Int) - i).toNat) (0) (St.pick H32 [0, 1, 2, 3, 4] rfl) (by exact ⟨by omega, by omega, dgs_zero _⟩) ?_
    clear H32 a32 w32 B32
    intro i a33 w33 B33 hI33 H33
    replace hI33 : 0 ≤ i ∧ i ≤ (s.size : Int) ∧ Dgs (bytesI s) i := hI33
    replace H33 : St 56 w0 B0 a33 w33 B33 [(5, .val (Lit (.int .i64 i))), (4, .val (IsC 0)), (2, .val (IsC 0)), (3, .val (IsB false)), (0, .val (Lit (.string s)))] [] := H33
    obtain ⟨i0, i1, hd⟩ := hI33
    refine wp_seq ?_
    refine wp_seq ?_
    refine flow_region (dsts := [some 20, some 21, some 22, some 23]) (refs := [[.pre 0], [.pre 4], [.res 1], [.res 0, .res 2]]) (outs := [.res 3, .pre 0, .pre 1, .pre 2, .pre 3, .pre 4]) (als := [false, false, false, false]) (posts := [.val (Lit (.int .i64 i)), .val (Lit (.string s)), .val (Lit (.int .i64 ((s).size : Int))), .val (IsB (decide (i < ((s).size : Int))))])
      (out := [(23, .val (IsB (decide (i < ((s).size : Int))))), (5, .val (Lit (.int .i64 i))), (4, .val (IsC 0)), (2, .val (IsC 0)), (3, .val (IsB false)), (0, .val (Lit (.string s)))]) (nb := []) H33 4 [] rfl (by kernel_rfl) rfl rfl ?_ ?_
    · refine .cons (.plain rfl (ok_move (.tmp 0 rfl))) ?_
      refine .cons (.plain rfl (ok_move (.tmp 0 rfl))) ?_
      refine .cons (.plain rfl (ok_lenS Try.underlying9 (.tmp 0 rfl))) ?_
      refine .cons (.plain rfl (ok_cmp (.tmp 0 rfl) (.tmp 1 rfl) rfl)) ?_
      exact .nil
    clear H33 a33 w33 B33
    intro a34 w34 B34 H34
    refine ops_done ?_
    refine then_normal ?_
    refine f_cond H34 (.tmp 0 rfl) ?_ ?_
    · intro hc35
      replace hc35 := of_decide_eq_true hc35
      refine wp_skip ?_
      refine then_normal ?_
      refine wp_seq ?_
      refine wp_block ?_
      refine wp_seq ?_
      refine flow_region (dsts := [some 26, some 27, some 28, some 29, some 30, some 31, some 32, some 33, some 34, some 35]) (refs := [[.pre 5], [.pre 1], [.res 0, .res 1], [.res 2], [.res 3], [.res 4, .pre 5], [.res 4, .pre 1], [.res 4, .res 5, .res 6], [.res 4, .res 7], [.res 4, .res 8]]) (outs := [.res 9, .pre 1, .pre 2, .pre 3, .pre 4, .pre 5]) (als := [false, false, false, false, false, false, false, false, false, false]) (posts := [.val (Lit (.string s)), .val (Lit (.int .i64 i)), .val (Lit (.int .u8 ((bytesI s)[i.toNat]?.getD 0))), .val (IsB (decide ((bytesI s)[i.toNat]?.getD 0 < 48))), .val (IsB (decide ((bytesI s)[i.toNat]?.getD 0 < 48))), .val (Grd ((decide ((bytesI s)[i.toNat]?.getD 0 < 48)) == false) (Lit (.string s))), .val (Grd ((decide ((bytesI s)[i.toNat]?.getD 0 < 48)) == false) (Lit (.int .i64 i))), .val (Grd ((decide ((bytesI s)[i.toNat]?.getD 0 < 48)) == false) (Lit (.int .u8 ((bytesI s)[i.toNat]?.getD 0)))), .val (Grd ((decide ((bytesI s)[i.toNat]?.getD 0 < 48)) == false) (IsB (decide (57 < (bytesI s)[i.toNat]?.getD 0)))), .val (IsB ((decide ((bytesI s)[i.toNat]?.getD 0 < 48)) || (decide (57 < (bytesI s)[i.toNat]?.getD 0))))])
        (out := [(35, .val (IsB ((decide ((bytesI s)[i.toNat]?.getD 0 < 48)) || (decide (57 < (bytesI s)[i.toNat]?.getD 0))))), (5, .val (Lit (.int .i64 i))), (4, .val (IsC 0)), (2, .val (IsC 0)), (3, .val (IsB false)), (0, .val (Lit (.string s)))]) (nb := []) H34 10 [] rfl (by kernel_rfl) rfl rfl ?_ ?_
      · refine .cons (.plain rfl (ok_move (.tmp 0 rfl))) ?_
        refine .cons (.plain rfl (ok_move (.tmp 0 rfl))) ?_
        refine .cons (.plain rfl (ok_indexS (n := i.toNat) (c := ((bytesI s)[i.toNat]?.getD 0)) Try.underlying9 (.tmp 0 rfl) (.tmp 1 rfl) (by omega) (bytes_at s i.toNat (by omega)))) ?_
        refine .cons (.plain rfl (ok_cmp (.tmp 0 rfl) (.lit) rfl)) ?_
        refine .cons (.plain rfl (ok_move (.tmp 0 rfl))) ?_
        refine .cons (.sym 4 false (decide ((bytesI s)[i.toNat]?.getD 0 < 48)) ((decide ((bytesI s)[i.toNat]?.getD 0 < 48)) == false) rfl rfl rfl 0 (need' := [(30, .val (IsB (decide ((bytesI s)[i.toNat]?.getD 0 < 48)))), (0, .val (Lit (.string s)))]) rfl rfl (fun a w B e h => ⟨h.1, h.2.1, trivial⟩) (fun e => ok_move (.tmp 1 rfl))) ?_
        refine .cons (.sym 4 false (decide ((bytesI s)[i.toNat]?.getD 0 < 48)) ((decide ((bytesI s)[i.toNat]?.getD 0 < 48)) == false) rfl rfl rfl 0 (need' := [(30, .val (IsB (decide ((bytesI s)[i.toNat]?.getD 0 < 48)))), (5, .val (Lit (.int .i64 i)))]) rfl rfl (fun a w B e h => ⟨h.1, h.2.1, trivial⟩) (fun e => ok_move (.tmp 1 rfl))) ?_
        refine .cons (.sym 4 false (decide ((bytesI s)[i.toNat]?.getD 0 < 48)) ((decide ((bytesI s)[i.toNat]?.getD 0 < 48)) == false) rfl rfl rfl 0 (need' := [(30, .val (IsB (decide ((bytesI s)[i.toNat]?.getD 0 < 48)))), (31, .val (Lit (.string s))), (32, .val (Lit (.int .i64 i)))]) rfl rfl (fun a w B e h => ⟨h.1, h.2.1.1 (e), h.2.2.1.1 (e), trivial⟩) (fun e => ok_indexS (n := i.toNat) (c := ((bytesI s)[i.toNat]?.getD 0)) Try.underlying9 (.tmp 1 rfl) (.tmp 2 rfl) (by omega) (bytes_at s i.toNat (by omega)))) ?_
        refine .cons (.sym 4 false (decide ((bytesI s)[i.toNat]?.getD 0 < 48)) ((decide ((bytesI s)[i.toNat]?.getD 0 < 48)) == false) rfl rfl rfl 0 (need' := [(30, .val (IsB (decide ((bytesI s)[i.toNat]?.getD 0 < 48)))), (33, .val (Lit (.int .u8 ((bytesI s)[i.toNat]?.getD 0))))]) rfl rfl (fun a w B e h => ⟨h.1, h.2.1.1 (e), trivial⟩) (fun e => ok_cmp (.tmp 1 rfl) (.lit) rfl)) ?_
        refine .cons (.plain rfl (ok_pickS (decide ((bytesI s)[i.toNat]?.getD 0 < 48)) (.tmp 0 rfl) (fun e => Opd.eqB (.lit) (by rw [e]; rfl)) (fun e => Opd.eqB (Opd.grd (.tmp 1 rfl) (by first | (rw [e]; rfl) | (simp only [e]; rfl) | (simp [*] at *; done))) (by rw [e]; rfl)))) ?_
        exact .nil
      clear H34 a34 w34 B34
      intro a36 w36 B36 H36
      refine ops_done ?_
      refine then_normal ?_
      refine f_cond H36 (.tmp 0 rfl) ?_ ?_
      · intro hc37
        have hno : readOk (bytesI s) = false := readOk_not (i := i.toNat) (by rw [bytesI_length]; omega) (by rw [Bool.or_eq_true, decide_eq_true_eq, decide_eq_true_eq] at hc37; exact hc37)
        have n0 := (readNum_no hno).symm
        refine wp_seq ?_
        refine flow_region (dsts := [some 2, some 3]) (refs := [[], []]) (outs := [.res 0, .res 1, .pre 1, .pre 2, .pre 5]) (als := [false, false]) (posts := [.val (IsC 0), .val (IsB false)])
          (out := [(2, .val (IsC 0)), (3, .val (IsB false)), (5, .val (Lit (.int .i64 i))), (4, .val (IsC 0)), (0, .val (Lit (.string s)))]) (nb := []) H36 2 [] rfl (by kernel_rfl) rfl rfl ?_ ?_
        · refine .cons (.plain rfl (ok_assign (.const (fun w B => weakNilM _ w B rfl)))) ?_
          refine .cons (.plain rfl (ok_assign (.lit))) ?_
          exact .nil
        clear H36 a36 w36 B36
        intro a38 w38 B38 H38
        refine ops_done ?_
        refine then_normal ?_
        refine wp_ret ?_
        refine block_ret ?_
        refine then_ret ?_
        refine then_ret ?_
        refine block_ret ?_
        refine then_ret ?_
        exact f_retN H38 rfl rfl (.tmp 0 rfl (fun v w B h => by exact isC_eq (by assumption) h) (.tmp 1 rfl (fun v w B h => by exact isB_eq (by first | assumption | exact Eq.symm (by assumption)) h) (.nil)))
      · intro hc37
        rw [Bool.or_eq_false_iff, decide_eq_false_iff_not, decide_eq_false_iff_not] at hc37
        have dg1 := dgs_step i0 hd hc37.1 hc37.2
        refine wp_skip ?_
        refine block_normal ?_
        refine then_normal ?_
        refine flow_region (dsts := [some 24, some 25]) (refs := [[.pre 1], [.res 0]]) (outs := [.res 1, .pre 1, .pre 2, .pre 3, .pre 4, .pre 5]) (als := [false, false]) (posts := [.val (Lit (.int .i64 i)), .val (Lit (.int .i64 (i + 1)))])
          (out := [(25, .val (Lit (.int .i64 (i + 1)))), (5, .val (Lit (.int .i64 i))), (4, .val (IsC 0)), (2, .val (IsC 0)), (3, .val (IsB false)), (0, .val (Lit (.string s)))]) (nb := []) H36 2 [2] rfl (by kernel_rfl) rfl rfl ?_ ?_
        · refine .cons (.plain rfl (ok_move (.tmp 0 rfl))) ?_
          refine .cons (.plain rfl (ok_add (r := (i + 1)) (.tmp 0 rfl) (.lit) (w_i64 (by omega)))) ?_
          exact .nil
        clear H36 a36 w36 B36
        intro a39 w39 B39 H39
        refine ops_one ?_
        refine tail_op (D := .val (Lit (.int .i64 (i + 1)))) (l' := [(5, .val (Lit (.int .i64 (i + 1)))), (25, .val (Lit (.int .i64 (i + 1)))), (4, .val (IsC 0)), (2, .val (IsC 0)), (3, .val (IsB false)), (0, .val (Lit (.string s)))]) H39 rfl rfl rfl (.plain rfl (ok_assign (.tmp 0 rfl))) rfl rfl ?_
        clear H39 a39 w39 B39
        intro a40 w40 B40 H40
        refine ops_done ?_
        exact ⟨i + 1, B40, by exact ⟨by omega, by omega, dg1⟩, St.pick H40 [0, 2, 3, 4, 5] rfl, by omega⟩
    · intro hc35
      replace hc35 := of_decide_eq_false hc35
      have hi : i = ((bytesI s).length : Int) := by rw [bytesI_length]; omega
      rw [hi] at hd
      have hD := dgs_all hd
      have ne0 : bytesI s ≠ [] := fun e => by have := bytesI_length s; rw [e] at this; simp at this; omega
      refine wp_exit ?_
      refine then_exit ?_
      refine then_exit ?_
      refine block_exit ?_
      refine then_normal ?_
      refine wp_seq ?_
      refine wp_seq ?_
      refine flow_region (dsts := [some 6]) (refs := [[]]) (outs := [.res 0, .pre 1, .pre 2, .pre 3, .pre 4, .pre 5]) (als := [false]) (posts := [.val (Lit (.int .i64 0))])
        (out := [(6, .val (Lit (.int .i64 0))), (5, .val (Lit (.int .i64 i))), (4, .val (IsC 0)), (2, .val (IsC 0)), (3, .val (IsB false)), (0, .val (Lit (.string s)))]) (nb := []) H34 1 [] rfl (by kernel_rfl) rfl rfl ?_ ?_
      · refine .cons (.plain rfl (ok_assign (.lit))) ?_
        exact .nil
      clear H34 a34 w34 B34
      intro a41 w41 B41 H41
      refine ops_done ?_
      refine then_normal ?_
      refine wp_block ?_
      refine f_loop (fun (j : Int) => [(6, .val (Lit (.int .i64 j))), (5, .val (Lit (.int .i64 i))), (4, .val (IsC (readV ((bytesI s).take j.toNat)))), (2, .val (IsC 0)), (3, .val (IsB false)), (0, .val (Lit (.string s)))]) (fun (j : Int) => 0 ≤ j ∧ j ≤ (s.size : Int) ∧ (dg 4294967296 (readV ((bytesI s).take j.toNat))).length ≤ 262144) (fun (j : Int) => ((s.size : Int) - j).toNat) (0) (St.pick H41 [0, 1, 2, 3, 4, 5] rfl) (by exact ⟨by omega, by omega, by show (dg 4294967296 0).length ≤ _; rw [dg_zero]; exact Nat.zero_le _⟩) ?_
      clear H41 a41 w41 B41
      intro j a42 w42 B42 hI42 H42
      replace hI42 : 0 ≤ j ∧ j ≤ (s.size : Int) ∧ (dg 4294967296 (readV ((bytesI s).take j.toNat))).length ≤ 262144 := hI42
      replace H42 : St 56 w0 B0 a42 w42 B42 [(6, .val (Lit (.int .i64 j))), (5, .val (Lit (.int .i64 i))), (4, .val (IsC (readV ((bytesI s).take j.toNat)))), (2, .val (IsC 0)), (3, .val (IsB false)), (0, .val (Lit (.string s)))] [] := H42
      obtain ⟨j0, j1, hl⟩ := hI42
      have hv := readV_nonneg (bytesI s) hD j.toNat
      have hf := fit_nat hv hl
      refine wp_seq ?_
      refine wp_seq ?_
      refine flow_region (dsts := [some 36, some 37, some 38, some 39]) (refs := [[.pre 0], [.pre 5], [.res 1], [.res 0, .res 2]]) (outs := [.res 3, .pre 0, .pre 1, .pre 2, .pre 3, .pre 4, .pre 5]) (als := [false, false, false, false]) (posts := [.val (Lit (.int .i64 j)), .val (Lit (.string s)), .val (Lit (.int .i64 ((s).size : Int))), .val (IsB (decide (j < ((s).size : Int))))])
        (out := [(39, .val (IsB (decide (j < ((s).size : Int))))), (6, .val (Lit (.int .i64 j))), (5, .val (Lit (.int .i64 i))), (4, .val (IsC (readV ((bytesI s).take j.toNat)))), (2, .val (IsC 0)), (3, .val (IsB false)), (0, .val (Lit (.string s)))]) (nb := []) H42 4 [] rfl (by kernel_rfl) rfl rfl ?_ ?_
      · refine .cons (.plain rfl (ok_move (.tmp 0 rfl))) ?_
        refine .cons (.plain rfl (ok_move (.tmp 0 rfl))) ?_
        refine .cons (.plain rfl (ok_lenS Try.underlying9 (.tmp 0 rfl))) ?_
        refine .cons (.plain rfl (ok_cmp (.tmp 0 rfl) (.tmp 1 rfl) rfl)) ?_
        exact .nil
      clear H42 a42 w42 B42
      intro a43 w43 B43 H43
      refine ops_done ?_
      refine then_normal ?_
      refine f_cond H43 (.tmp 0 rfl) ?_ ?_
      · intro hc44
        replace hc44 := of_decide_eq_true hc44
        have dgi := hD.get (i := j.toNat) (by rw [bytesI_length]; omega)
        refine wp_skip ?_
        refine then_normal ?_
        refine wp_seq ?_
        refine wp_block ?_
        refine wp_seq ?_
        refine flow_drawT (dsts := [some 42, some 43, some 44, some 45, some 46, some 47, some 48, some 49, some 50, some 51]) (refs := [[.pre 3], [], [.res 0, .res 1], [.pre 6], [.pre 1], [.res 3, .res 4], [.res 5], [.res 6], [.res 7], [.res 2, .res 8]]) (outs := [.res 9, .pre 1, .pre 2, .pre 3, .pre 4, .pre 5, .pre 6]) (als := [false, false, false, false, false, false, false, false, false, false]) (posts := [.val (IsC (readV ((bytesI s).take j.toNat))), .val (IsM 10), .val (IsC ((readV ((bytesI s).take j.toNat)) * 10)), .val (Lit (.string s)), .val (Lit (.int .i64 j)), .val (Lit (.int .u8 ((bytesI s)[j.toNat]?.getD 0))), .val (Lit (.int .u8 (((bytesI s)[j.toNat]?.getD 0) - 48))), .val (Lit (.int .u32 (((bytesI s)[j.toNat]?.getD 0) - 48))), .val (IsM (((bytesI s)[j.toNat]?.getD 0) - 48)), .val (IsC (((readV ((bytesI s).take j.toNat)) * 10) + (((bytesI s)[j.toNat]?.getD 0) - 48)))])
          (out := [(51, .val (IsC (((readV ((bytesI s).take j.toNat)) * 10) + (((bytesI s)[j.toNat]?.getD 0) - 48)))), (6, .val (Lit (.int .i64 j))), (5, .val (Lit (.int .i64 i))), (4, .val (IsC (readV ((bytesI s).take j.toNat)))), (2, .val (IsC 0)), (3, .val (IsB false)), (0, .val (Lit (.string s)))]) (nb := []) H43 (by kernel_rfl) 10 1 #[true, true, true, true, true, true, true, true, true, true, false] (by kernel_rfl) (by kernel_rfl) rfl rfl ?_ ?_
        · refine .cons (.plain rfl (ok_move (.tmp 0 rfl))) ?_
          refine .cons (.plain rfl (ok_nat1 (by omega) (.lit))) ?_
          refine .cons (.plain rfl (ok_call (con_rmul (readV ((bytesI s).take j.toNat)) 10 (((hf.mul (FitK.small (N := 10) (by decide)))).fits (by omega))) (.cons (.weak (.tmp 0 rfl) weakCM) (.cons (.tmp 1 rfl) (.nil))))) ?_
          refine .cons (.plain rfl (ok_move (.tmp 0 rfl))) ?_
          refine .cons (.plain rfl (ok_move (.tmp 0 rfl))) ?_
          refine .cons (.plain rfl (ok_indexS (n := j.toNat) (c := ((bytesI s)[j.toNat]?.getD 0)) Try.underlying9 (.tmp 0 rfl) (.tmp 1 rfl) (by omega) (bytes_at s j.toNat (by omega)))) ?_
          refine .cons (.plain rfl (ok_sub (r := (((bytesI s)[j.toNat]?.getD 0) - 48)) (.tmp 0 rfl) (.lit) (w_u8 (by omega)))) ?_
          refine .cons (.plain rfl (ok_conv Try.underlying5 Try.underlying78 (r := (((bytesI s)[j.toNat]?.getD 0) - 48)) (.tmp 0 rfl) (w_u32 (by omega)))) ?_
          refine .cons (.plain rfl (ok_nat1 (by omega) (.tmp 0 rfl))) ?_
          refine .cons (.plain rfl (ok_call (con_radd ((readV ((bytesI s).take j.toNat)) * 10) (((bytesI s)[j.toNat]?.getD 0) - 48) ((((hf.mul (FitK.small (N := 10) (by decide))).add (FitK.small (N := ((bytesI s)[j.toNat]?.getD 0) - 48) (by omega)))).fits (by omega))) (.cons (.weak (.tmp 0 rfl) weakCM) (.cons (.tmp 1 rfl) (.nil))))) ?_
          exact .nil
        clear H43 a43 w43 B43
        intro a45 w45 B45 H45
        refine any_oneT (l' := #[true, true, true, true, true, true, true, true, true, true, true]) 10 (by kernel_rfl) ?_
        refine tail_op (D := .val (IsC (((readV ((bytesI s).take j.toNat)) * 10) + (((bytesI s)[j.toNat]?.getD 0) - 48)))) (l' := [(4, .val (IsC (((readV ((bytesI s).take j.toNat)) * 10) + (((bytesI s)[j.toNat]?.getD 0) - 48)))), (51, .val (IsC (((readV ((bytesI s).take j.toNat)) * 10) + (((bytesI s)[j.toNat]?.getD 0) - 48)))), (6, .val (Lit (.int .i64 j))), (5, .val (Lit (.int .i64 i))), (2, .val (IsC 0)), (3, .val (IsB false)), (0, .val (Lit (.string s)))]) H45 rfl rfl rfl (.plain rfl (ok_assign (.tmp 0 rfl))) rfl rfl ?_
        clear H45 a45 w45 B45
        intro a46 w46 B46 H46
        refine any_done (by kernel_rfl) ?_
        refine then_normal ?_
        refine wp_seq ?_
        have H47 := St.set1 H46 0 (D' := IsC (readV ((bytesI s).take (j + 1).toNat))) rfl (fun v w B h => isC_eq (readV_one j0 (by rw [bytesI_length]; omega)) h) (l' := [(4, .val (IsC (readV ((bytesI s).take (j + 1).toNat)))), (51, .val (IsC (((readV ((bytesI s).take j.toNat)) * 10) + (((bytesI s)[j.toNat]?.getD 0) - 48)))), (6, .val (Lit (.int .i64 j))), (5, .val (Lit (.int .i64 i))), (2, .val (IsC 0)), (3, .val (IsB false)), (0, .val (Lit (.string s)))]) rfl
        clear H46
        refine flow_region (dsts := [some 52, some 53, some 54]) (refs := [[.pre 0], [.res 0], [.res 1]]) (outs := [.res 2, .pre 0, .pre 2, .pre 3, .pre 4, .pre 5, .pre 6]) (als := [false, false, false]) (posts := [.val (IsC (readV ((bytesI s).take (j + 1).toNat))), .val (Lit (.int .i64 ((dg 4294967296 (readV ((bytesI s).take (j + 1).toNat))).length : Int))), .val (IsB (decide (262144 < ((dg 4294967296 (readV ((bytesI s).take (j + 1).toNat))).length : Int))))])
          (out := [(54, .val (IsB (decide (262144 < ((dg 4294967296 (readV ((bytesI s).take (j + 1).toNat))).length : Int))))), (4, .val (IsC (readV ((bytesI s).take (j + 1).toNat)))), (6, .val (Lit (.int .i64 j))), (5, .val (Lit (.int .i64 i))), (2, .val (IsC 0)), (3, .val (IsB false)), (0, .val (Lit (.string s)))]) (nb := []) H47 3 [] rfl (by kernel_rfl) rfl rfl ?_ ?_
        · refine .cons (.plain rfl (ok_move (.tmp 0 rfl))) ?_
          refine .cons (.plain rfl (ok_lenC (.tmp 0 rfl))) ?_
          refine .cons (.plain rfl (ok_cmp (.tmp 0 rfl) (.lit) rfl)) ?_
          exact .nil
        clear H47 a46 w46 B46
        intro a48 w48 B48 H48
        refine ops_done ?_
        refine then_normal ?_
        refine f_cond H48 (.tmp 0 rfl) ?_ ?_
        · intro hc49
          replace hc49 := of_decide_eq_true hc49
          have hno := readOk_long hD _ hc49
          have n0 := (readNum_no hno).symm
          refine wp_seq ?_
          refine flow_region (dsts := [some 2, some 3]) (refs := [[], []]) (outs := [.res 0, .res 1, .pre 1, .pre 2, .pre 3, .pre 6]) (als := [false, false]) (posts := [.val (IsC 0), .val (IsB false)])
            (out := [(2, .val (IsC 0)), (3, .val (IsB false)), (4, .val (IsC (readV ((bytesI s).take (j + 1).toNat)))), (6, .val (Lit (.int .i64 j))), (5, .val (Lit (.int .i64 i))), (0, .val (Lit (.string s)))]) (nb := []) H48 2 [] rfl (by kernel_rfl) rfl rfl ?_ ?_
          · refine .cons (.plain rfl (ok_assign (.const (fun w B => weakNilM _ w B rfl)))) ?_
            refine .cons (.plain rfl (ok_assign (.lit))) ?_
            exact .nil
          clear H48 a48 w48 B48
          intro a50 w50 B50 H50
          refine ops_done ?_
          refine then_normal ?_
          refine wp_ret ?_
          refine block_ret ?_
          refine then_ret ?_
          refine then_ret ?_
          refine block_ret ?_
          refine then_ret ?_
          exact f_retN H50 rfl rfl (.tmp 0 rfl (fun v w B h => by exact isC_eq (by assumption) h) (.tmp 1 rfl (fun v w B h => by exact isB_eq (by first | assumption | exact Eq.symm (by assumption)) h) (.nil)))
        · intro hc49
          replace hc49 := of_decide_eq_false hc49
          refine wp_skip ?_
          refine block_normal ?_
          refine then_normal ?_
          refine flow_region (dsts := [some 40, some 41]) (refs := [[.pre 2], [.res 0]]) (outs := [.res 1, .pre 1, .pre 2, .pre 3, .pre 4, .pre 5, .pre 6]) (als := [false, false]) (posts := [.val (Lit (.int .i64 j)), .val (Lit (.int .i64 (j + 1)))])
            (out := [(41, .val (Lit (.int .i64 (j + 1)))), (4, .val (IsC (readV ((bytesI s).take (j + 1).toNat)))), (6, .val (Lit (.int .i64 j))), (5, .val (Lit (.int .i64 i))), (2, .val (IsC 0)), (3, .val (IsB false)), (0, .val (Lit (.string s)))]) (nb := []) H48 2 [2] rfl (by kernel_rfl) rfl rfl ?_ ?_
          · refine .cons (.plain rfl (ok_move (.tmp 0 rfl))) ?_
            refine .cons (.plain rfl (ok_add (r := (j + 1)) (.tmp 0 rfl) (.lit) (w_i64 (by omega)))) ?_
            exact .nil
          clear H48 a48 w48 B48
          intro a51 w51 B51 H51
          refine ops_one ?_
          refine tail_op (D := .val (Lit (.int .i64 (j + 1)))) (l' := [(6, .val (Lit (.int .i64 (j + 1)))), (41, .val (Lit (.int .i64 (j + 1)))), (4, .val (IsC (readV ((bytesI s).take (j + 1).toNat)))), (5, .val (Lit (.int .i64 i))), (2, .val (IsC 0)), (3, .val (IsB false)), (0, .val (Lit (.string s)))]) H51 rfl rfl rfl (.plain rfl (ok_assign (.tmp 0 rfl))) rfl rfl ?_
          clear H51 a51 w51 B51
          intro a52 w52 B52 H52
          refine ops_done ?_
          exact ⟨j + 1, B52, by exact ⟨by omega, by omega, by omega⟩, St.pick H52 [0, 3, 2, 4, 5, 6] rfl, by omega⟩
      · intro hc44
        replace hc44 := of_decide_eq_false hc44
        have hj : j = ((bytesI s).length : Int) := by rw [bytesI_length]; omega
        have hyes := readOk_yes hD ne0 lead (by rw [hj, Int.toNat_natCast, List.take_length] at hl; exact hl)
        have nyes : readV ((bytesI s).take j.toNat) = readNum (bytesI s) := by rw [hj, Int.toNat_natCast, List.take_length]; exact (readNum_yes hyes).symm
        refine wp_exit ?_
        refine then_exit ?_
        refine then_exit ?_
        refine block_exit ?_
        refine then_normal ?_
        refine wp_seq ?_
        refine flow_region (dsts := [some 55, some 2, some 3]) (refs := [[.pre 3], [.res 0], []]) (outs := [.res 1, .res 2, .pre 1, .pre 2, .pre 3, .pre 6]) (als := [false, false, false]) (posts := [.val (IsC (readV ((bytesI s).take j.toNat))), .val (IsC (readV ((bytesI s).take j.toNat))), .val (IsB true)])
          (out := [(2, .val (IsC (readV ((bytesI s).take j.toNat)))), (3, .val (IsB true)), (6, .val (Lit (.int .i64 j))), (5, .val (Lit (.int .i64 i))), (4, .val (IsC (readV ((bytesI s).take j.toNat)))), (0, .val (Lit (.string s)))]) (nb := []) H43 3 [] rfl (by kernel_rfl) rfl rfl ?_ ?_
        · refine .cons (.plain rfl (ok_move (.tmp 0 rfl))) ?_
          refine .cons (.plain rfl (ok_assign (.tmp 0 rfl))) ?_
          refine .cons (.plain rfl (ok_assign (.lit))) ?_
          exact .nil
        clear H43 a43 w43 B43
        intro a53 w53 B53 H53
        refine ops_done ?_
        refine then_normal ?_
        refine wp_ret ?_
        exact f_retN H53 rfl rfl (.tmp 0 rfl (fun v w B h => by exact isC_eq (by assumption) h) (.tmp 1 rfl (fun v w B h => by exact isB_eq (by first | assumption | exact Eq.symm (by assumption)) h) (.nil)))

set_option maxRecDepth 20000 in
set_option maxHeartbeats 2000000 in
theorem con_r3show (X : Int) : Con Try.prog 24 [IsN X] (Lit (.string (strB (showL X)))) := by
  refine f_enter (N := 12) Try.ntmps24 (fun _ _ => by go_simp) Try.func24 rfl (by simp) ?_
  intro a0 w0 B0 H0
  replace H0 : St 12 w0 B0 a0 w0 B0 [(0, .val (IsN X))] [] := H0
  obtain ⟨k, hk, hf⟩ : Fits X := PN.fit (H0.fc.get 0 rfl)
  refine wp_seq ?_
  refine flow_region (dsts := [some 1, some 2]) (refs := [[.pre 0], []]) (outs := [.res 0, .res 1]) (als := [true, false]) (posts := [.box 25 2 (IsN X), .val (Lit (.string (strB [])))])
    (out := [(1, .box 25 2 (IsN X)), (2, .val (Lit (.string (strB []))))]) (nb := [1]) H0 2 [] rfl (by kernel_rfl) rfl rfl ?_ ?_
  · refine .cons (.plain rfl (ok_box (.tmp 0 rfl) shape_N.two)) ?_
    refine .cons (.plain rfl (ok_assign (.const (fun _ _ => by rfl)))) ?_
    exact .nil
  clear H0
  intro a1 w1 B1 H1
  simp only [List.cons_append, List.nil_append] at H1
  refine ops_done ?_
  refine then_normal ?_
  refine wp_seq ?_
  refine wp_seq ?_
  refine flow_region (dsts := [some 3, some 4]) (refs := [[.pre 0], [.res 0]]) (outs := [.res 1, .pre 0, .pre 1]) (als := [false, false]) (posts := [.val (IsN X), .val (IsB (decide (X < 0)))])
    (out := [(4, .val (IsB (decide (X < 0)))), (1, .box 25 2 (IsN X)), (2, .val (Lit (.string (strB []))))]) (nb := []) H1 2 [] rfl (by kernel_rfl) rfl rfl ?_ ?_
  · refine .cons (.plain rfl (ok_load tyI (.tmp 0 rfl))) ?_
    refine .cons (.plain rfl (ok_call (con_r3below X) (.cons (.tmp 0 rfl) (.nil)))) ?_
    exact .nil
  clear H1 a1 w1 B1
  intro a2 w2 B2 H2
  refine ops_done ?_
  refine then_normal ?_
  refine f_cond H2 (.tmp 0 rfl) ?_ ?_
  · intro hc3
    replace hc3 := of_decide_eq_true hc3
    refine wp_seq ?_
    refine flow_region (dsts := [some 5, some 6, some 7, some 8, some 2]) (refs := [[.pre 1], [.res 0], [.res 1], [.res 2], [.res 3]]) (outs := [.res 4, .pre 1]) (als := [false, false, false, false, false]) (posts := [.ptr 25 2 (IsN X) 1, .val (IsM ((X).natAbs : Int)), .val (Lit (.string (strB (decL ((X).natAbs : Int))))), .val (Lit (.string (strB [45] ++ strB (decL ((X).natAbs : Int))))), .val (Lit (.string (strB [45] ++ strB (decL ((X).natAbs : Int)))))])
      (out := [(2, .val (Lit (.string (strB [45] ++ strB (decL ((X).natAbs : Int)))))), (1, .box 25 2 (IsN X))]) (nb := []) H2 5 [] rfl (by kernel_rfl) rfl rfl ?_ ?_
    · refine .cons (.plain rfl (ok_addrI1 (.tmp 0 rfl))) ?_
      refine .cons (.plain rfl (ok_loadMagN (.tmp 0 rfl))) ?_
      refine .cons (.plain rfl (ok_call (con_r2digits ((X).natAbs : Int)) (.cons (.tmp 0 rfl) (.nil)))) ?_
      refine .cons (.plain rfl (ok_catS (v := strB [45] ++ strB (decL ((X).natAbs : Int))) (.const (fun _ _ => by rfl)) (.tmp 0 rfl) (by rw [strB_size, strB_size]; have := decL_le (X.natAbs : Int) (by omega) k hf.abs; have := lim_eq; simp; omega) (rfl))) ?_
      refine .cons (.plain rfl (ok_assign (.tmp 0 rfl))) ?_
      exact .nil
    clear H2 a2 w2 B2
    intro a4 w4 B4 H4
    refine ops_done ?_
    refine then_normal ?_
    refine wp_ret ?_
    refine then_ret ?_
    exact f_ret H4 rfl 0 rfl (fun v w B h => by refine str_eq ?_ h; unfold showL; first | (rw [if_pos (by assumption)]; exact (strB_append [45] _).symm) | rw [if_neg (by assumption)])
  · intro hc3
    replace hc3 := of_decide_eq_false hc3
    refine wp_skip ?_
    refine then_normal ?_
    refine wp_seq ?_
    refine flow_region (dsts := [some 9, some 10, some 11, some 2]) (refs := [[.pre 1], [.res 0], [.res 1], [.res 2]]) (outs := [.res 3]) (als := [false, false, false, false]) (posts := [.ptr 25 2 (IsN X) 1, .val (IsM ((X).natAbs : Int)), .val (Lit (.string (strB (decL ((X).natAbs : Int))))), .val (Lit (.string (strB (decL ((X).natAbs : Int)))))])
      (out := [(2, .val (Lit (.string (strB (decL ((X).natAbs : Int))))))]) (nb := []) H2 4 [] rfl (by kernel_rfl) rfl rfl ?_ ?_
    · refine .cons (.plain rfl (ok_addrI1 (.tmp 0 rfl))) ?_
      refine .cons (.plain rfl (ok_loadMagN (.tmp 0 rfl))) ?_
      refine .cons (.plain rfl (ok_call (con_r2digits ((X).natAbs : Int)) (.cons (.tmp 0 rfl) (.nil)))) ?_
      refine .cons (.plain rfl (ok_assign (.tmp 0 rfl))) ?_
      exact .nil
    clear H2 a2 w2 B2
    intro a5 w5 B5 H5
    refine ops_done ?_
    refine then_normal ?_
    refine wp_ret ?_
    exact f_ret H5 rfl 0 rfl (fun v w B h => by refine str_eq ?_ h; unfold showL; first | (rw [if_pos (by assumption)]; exact (strB_append [45] _).symm) | rw [if_neg (by assumption)])

set_option maxRecDepth 20000 in
set_option maxHeartbeats 2000000 in
theorem con_r3read (s : ByteArray) (hs : s.size ≤ 140737488351232) : Con Try.prog 22 [Lit (.string s)] (Tup [IsI (wreadNum (bytesI s)), IsB (wreadOk (bytesI s))]) := by
  refine f_enter (N := 41) Try.ntmps22 (fun _ _ => by go_simp) Try.func22 rfl (by simp) ?_
  intro a0 w0 B0 H0
  replace H0 : St 41 w0 B0 a0 w0 B0 [(0, .val (Lit (.string s)))] [] := H0
  refine wp_seq ?_
  refine flow_region (dsts := [some 2, some 3]) (refs := [[], []]) (outs := [.res 0, .res 1, .pre 0]) (als := [true, false]) (posts := [.box 25 2 (Zero2), .val (IsB false)])
    (out := [(2, .box 25 2 (Zero2)), (3, .val (IsB false)), (0, .val (Lit (.string s)))]) (nb := [2]) H0 2 [] rfl (by kernel_rfl) rfl rfl ?_ ?_
  · refine .cons (.plain rfl (ok_alloc (D := Zero2) zeroI rfl (fun _ _ => rfl))) ?_
    refine .cons (.plain rfl (ok_assign (.lit))) ?_
    exact .nil
  clear H0
  intro a1 w1 B1 H1
  simp only [List.cons_append, List.nil_append] at H1
  refine ops_done ?_
  refine then_normal ?_
  refine wp_seq ?_
  rcases (show (¬ 0 < (s.size : Int)) ∨ (0 < (s.size : Int) ∧ (bytesI s)[0]?.getD 0 = 45) ∨ (0 < (s.size : Int) ∧ ¬ (bytesI s)[0]?.getD 0 = 45) by omega) with c0 | ⟨c0, c1⟩ | ⟨c0, c1⟩
  · have wp := wread_plain (cs := bytesI s) (.inl (by rw [bytesI_length]; omega))
    refine flow_region (dsts := [some 9, some 10, some 11, some 12, some 13, some 14, some 15, some 16, some 4]) (refs := [[.pre 2], [.res 0], [.res 1], [.res 2], [.res 3], [.res 3], [.res 3], [.res 3], [.res 7]]) (outs := [.res 8, .pre 0, .pre 1, .pre 2]) (als := [false, false, false, false, false, false, false, false, false]) (posts := [.val (Lit (.string s)), .val (Lit (.int .i64 ((s).size : Int))), .val (IsB false), .val (IsB false), .val (IsUndef), .val (IsUndef), .val (IsUndef), .val (IsB false), .val (IsB false)])
      (out := [(4, .val (IsB false)), (2, .box 25 2 (Zero2)), (3, .val (IsB false)), (0, .val (Lit (.string s)))]) (nb := []) H1 9 [] rfl (by kernel_rfl) rfl rfl ?_ ?_
    · refine .cons (.plain rfl (ok_move (.tmp 0 rfl))) ?_
      refine .cons (.plain rfl (ok_lenS Try.underlying9 (.tmp 0 rfl))) ?_
      refine .cons (.plain rfl (ok_cmp (b := false) (.tmp 0 rfl) (.lit) ((decide_eq_false (c0)).symm))) ?_
      refine .cons (.plain rfl (ok_move (.tmp 0 rfl))) ?_
      refine .cons (.unwanted 3 true rfl rfl rfl 0 rfl) ?_
      refine .cons (.unwanted 3 true rfl rfl rfl 0 rfl) ?_
      refine .cons (.unwanted 3 true rfl rfl rfl 0 rfl) ?_
      refine .cons (.plain rfl (ok_pickF (.tmp 0 rfl) (.lit))) ?_
      refine .cons (.plain rfl (ok_assign (.tmp 0 rfl))) ?_
      exact .nil
    clear H1 a1 w1 B1
    intro a2 w2 B2 H2
    refine ops_done ?_
    refine then_normal ?_
    refine wp_seq ?_
    refine flow_region (dsts := [some 17, some 5]) (refs := [[.pre 3], [.res 0]]) (outs := [.res 1, .pre 0, .pre 1, .pre 2, .pre 3]) (als := [false, false]) (posts := [.val (Lit (.string s)), .val (Lit (.string s))])
      (out := [(5, .val (Lit (.string s))), (4, .val (IsB false)), (2, .box 25 2 (Zero2)), (3, .val (IsB false)), (0, .val (Lit (.string s)))]) (nb := []) H2 2 [] rfl (by kernel_rfl) rfl rfl ?_ ?_
    · refine .cons (.plain rfl (ok_move (.tmp 0 rfl))) ?_
      refine .cons (.plain rfl (ok_assign (.tmp 0 rfl))) ?_
      exact .nil
    clear H2 a2 w2 B2
    intro a3 w3 B3 H3
    refine ops_done ?_
    refine then_normal ?_
    refine wp_seq ?_
    refine wp_seq ?_
    refine flow_region (dsts := [some 18]) (refs := [[.pre 1]]) (outs := [.res 0, .pre 0, .pre 1, .pre 2, .pre 3, .pre 4]) (als := [false]) (posts := [.val (IsB false)])
      (out := [(18, .val (IsB false)), (5, .val (Lit (.string s))), (4, .val (IsB false)), (2, .box 25 2 (Zero2)), (3, .val (IsB false)), (0, .val (Lit (.string s)))]) (nb := []) H3 1 [] rfl (by kernel_rfl) rfl rfl ?_ ?_
    · refine .cons (.plain rfl (ok_move (.tmp 0 rfl))) ?_
      exact .nil
    clear H3 a3 w3 B3
    intro a4 w4 B4 H4
    refine ops_done ?_
    refine then_normal ?_
    refine f_condF H4 (.tmp 0 rfl) ?_
    refine wp_skip ?_
    refine then_normal ?_
    refine wp_seq ?_
    refine flow_region (dsts := [some 22, some 23, some 21, some 24, some 25, some 6, some 7]) (refs := [[.pre 1], [.res 0], [.res 1], [.res 2], [.res 2], [.res 3], [.res 4]]) (outs := [.res 5, .res 6, .pre 2, .pre 3, .pre 4]) (als := [false, false, false, false, false, false, false]) (posts := [.val (Lit (.string s)), .val (Tup [IsC (readNum (bytesI s)), IsB (readOk (bytesI s))]), .val (Tup [IsC (readNum (bytesI s)), IsB (readOk (bytesI s))]), .val (IsC (readNum (bytesI s))), .val (IsB (readOk (bytesI s))), .val (IsC (readNum (bytesI s))), .val (IsB (readOk (bytesI s)))])
      (out := [(6, .val (IsC (readNum (bytesI s)))), (7, .val (IsB (readOk (bytesI s)))), (4, .val (IsB false)), (2, .box 25 2 (Zero2)), (3, .val (IsB false))]) (nb := []) H4 7 [] rfl (by kernel_rfl) rfl rfl ?_ ?_
    · refine .cons (.plain rfl (ok_move (.tmp 0 rfl))) ?_
      refine .cons (.plain rfl (ok_call (con_r2read s (by omega)) (.cons (.tmp 0 rfl) (.nil)))) ?_
      refine .cons (.plain rfl (ok_move (.tmp 0 rfl))) ?_
      refine .cons (.plain rfl (ok_extract 0 (.tmp 0 rfl) rfl)) ?_
      refine .cons (.plain rfl (ok_extract 1 (.tmp 0 rfl) rfl)) ?_
      refine .cons (.plain rfl (ok_assign (.tmp 0 rfl))) ?_
      refine .cons (.plain rfl (ok_assign (.tmp 0 rfl))) ?_
      exact .nil
    clear H4 a4 w4 B4
    intro a5 w5 B5 H5
    refine ops_done ?_
    refine then_normal ?_
    refine wp_seq ?_
    rcases three_ways (readOk (bytesI s)) (readNum (bytesI s)) with k0 | ⟨k0, k1⟩ | ⟨k0, k1⟩
    · have v0 := readNum_nonneg (bytesI s)
      have eb6 : (readOk (bytesI s)) = false := k0
      rw [eb6] at H5
      have e1 := (wp.1.trans k0).symm
      have e2 := (wp.2.trans (readNum_no k0)).symm
      refine flow_region (dsts := [some 26, some 27, some 28, some 8]) (refs := [[.pre 2], [.pre 0], [.res 0, .res 1], []]) (outs := [.res 2, .res 3, .pre 0, .pre 1, .pre 2, .pre 3, .pre 4]) (als := [false, false, false, true]) (posts := [.val (IsB false), .val (IsC (readNum (bytesI s))), .val (IsI (readNum (bytesI s))), .box 25 2 (Zero2)])
        (out := [(28, .val (IsI (readNum (bytesI s)))), (8, .box 25 2 (Zero2)), (6, .val (IsC (readNum (bytesI s)))), (7, .val (IsB false)), (4, .val (IsB false)), (2, .box 25 2 (Zero2)), (3, .val (IsB false))]) (nb := [8]) H5 4 [4] rfl (by kernel_rfl) rfl rfl ?_ ?_
      · refine .cons (.plain rfl (ok_move (.tmp 0 rfl))) ?_
        refine .cons (.plain rfl (ok_move (.tmp 0 rfl))) ?_
        refine .cons (.plain rfl (ok_buildI (N := readNum (bytesI s)) (decide_eq_false (by omega)).symm (.tmp 0 rfl) (Opd.weak (.tmp 1 rfl) (fun _ _ _ h => isC_eq (by omega) h)))) ?_
        refine .cons (.plain rfl (ok_alloc (D := Zero2) zeroI rfl (fun _ _ => rfl))) ?_
        exact .nil
      clear H5 a5 w5 B5
      intro a7 w7 B7 H7
      simp only [List.cons_append, List.nil_append] at H7
      refine ops_one ?_
      refine store_op (l' := [(28, .val (IsI (readNum (bytesI s)))), (8, .box 25 2 (IsI (readNum (bytesI s)))), (6, .val (IsC (readNum (bytesI s)))), (7, .val (IsB false)), (4, .val (IsB false)), (2, .box 25 2 (Zero2)), (3, .val (IsB false))]) 1 H7 rfl tyI rfl (.tmp 0 rfl) shape_Z shape_I rfl rfl ?_
      clear H7 w7
      intro w8 H8
      refine ops_done ?_
      refine then_normal ?_
      refine wp_seq ?_
      refine wp_seq ?_
      refine flow_region (dsts := [some 29, some 30, some 31, some 32, some 33, some 34, some 35, some 36, some 37, some 38]) (refs := [[.pre 3], [.res 0], [.res 1], [.res 2], [.res 2], [.res 4], [.res 4], [.res 4], [.res 2], [.res 2]]) (outs := [.res 9, .pre 1, .pre 5, .pre 6]) (als := [false, false, false, false, false, false, false, false, false, false]) (posts := [.val (IsB false), .val (IsB true), .val (IsB true), .val (IsUndef), .val (IsUndef), .val (IsUndef), .val (IsUndef), .val (IsUndef), .val (IsUndef), .val (IsB true)])
        (out := [(38, .val (IsB true)), (8, .box 25 2 (IsI (readNum (bytesI s)))), (2, .box 25 2 (Zero2)), (3, .val (IsB false))]) (nb := []) H8 10 [] rfl (by kernel_rfl) rfl rfl ?_ ?_
      · refine .cons (.plain rfl (ok_move (.tmp 0 rfl))) ?_
        refine .cons (.plain rfl (ok_not (b := false) (.tmp 0 rfl))) ?_
        refine .cons (.plain rfl (ok_move (.tmp 0 rfl))) ?_
        refine .cons (.unwanted 2 false rfl rfl rfl 0 rfl) ?_
        refine .cons (.unwanted 2 false rfl rfl rfl 0 rfl) ?_
        refine .cons (.unasked 4 true rfl rfl rfl 0 rfl) ?_
        refine .cons (.unasked 4 true rfl rfl rfl 0 rfl) ?_
        refine .cons (.unasked 4 true rfl rfl rfl 0 rfl) ?_
        refine .cons (.unwanted 2 false rfl rfl rfl 0 rfl) ?_
        refine .cons (.plain rfl (ok_pickT (.tmp 0 rfl) (.lit))) ?_
        exact .nil
      clear H8 a7 w8 B7
      intro a9 w9 B9 H9
      refine ops_done ?_
      refine then_normal ?_
      refine f_condT H9 (.tmp 0 rfl) ?_
      refine wp_seq ?_
      refine flow_region (dsts := [some 39]) (refs := [[]]) (outs := [.res 0, .pre 1, .pre 2, .pre 3]) (als := [false]) (posts := [.val (Zero2)])
        (out := [(39, .val (Zero2)), (8, .box 25 2 (IsI (readNum (bytesI s)))), (2, .box 25 2 (Zero2)), (3, .val (IsB false))]) (nb := []) H9 1 [1, 2] rfl (by kernel_rfl) rfl rfl ?_ ?_
      · refine .cons (.plain rfl (ok_build0)) ?_
        exact .nil
      clear H9 a9 w9 B9
      intro a10 w10 B10 H10
      refine ops_one ?_
      refine store_op (l' := [(39, .val (Zero2)), (8, .box 25 2 (IsI (readNum (bytesI s)))), (2, .box 25 2 (Zero2)), (3, .val (IsB false))]) 2 H10 rfl tyI rfl (.tmp 0 rfl) shape_Z shape_Z rfl rfl ?_
      clear H10 w10
      intro w11 H11
      refine ops_one ?_
      refine tail_op (D := .val (IsB false)) (l' := [(3, .val (IsB false)), (39, .val (Zero2)), (8, .box 25 2 (IsI (readNum (bytesI s)))), (2, .box 25 2 (Zero2))]) H11 rfl rfl rfl (.plain rfl (ok_assign (.lit))) rfl rfl ?_
      clear H11 a10 w11 B10
      intro a12 w12 B12 H12
      refine ops_done ?_
      refine then_normal ?_
      refine wp_ret ?_
      refine then_ret ?_
      exact f_retN H12 rfl rfl (.cell 3 tyI rfl (fun v w B h => isI_eq (by assumption) (weakZI v w B h)) (.tmp 0 rfl (fun v w B h => by exact isB_eq (by assumption) h) (.nil)))
    · have v0 := readNum_nonneg (bytesI s)
      have eb13 : (readOk (bytesI s)) = true := k0
      rw [eb13] at H5
      have e1 := (wp.1.trans k0).symm
      have e2 := wp.2.symm
      refine flow_region (dsts := [some 26, some 27, some 28, some 8]) (refs := [[.pre 2], [.pre 0], [.res 0, .res 1], []]) (outs := [.res 2, .res 3, .pre 0, .pre 1, .pre 2, .pre 3, .pre 4]) (als := [false, false, false, true]) (posts := [.val (IsB false), .val (IsC (readNum (bytesI s))), .val (IsI (readNum (bytesI s))), .box 25 2 (Zero2)])
        (out := [(28, .val (IsI (readNum (bytesI s)))), (8, .box 25 2 (Zero2)), (6, .val (IsC (readNum (bytesI s)))), (7, .val (IsB true)), (4, .val (IsB false)), (2, .box 25 2 (Zero2)), (3, .val (IsB false))]) (nb := [8]) H5 4 [4] rfl (by kernel_rfl) rfl rfl ?_ ?_
      · refine .cons (.plain rfl (ok_move (.tmp 0 rfl))) ?_
        refine .cons (.plain rfl (ok_move (.tmp 0 rfl))) ?_
        refine .cons (.plain rfl (ok_buildI (N := readNum (bytesI s)) (decide_eq_false (by omega)).symm (.tmp 0 rfl) (Opd.weak (.tmp 1 rfl) (fun _ _ _ h => isC_eq (by omega) h)))) ?_
        refine .cons (.plain rfl (ok_alloc (D := Zero2) zeroI rfl (fun _ _ => rfl))) ?_
        exact .nil
      clear H5 a5 w5 B5
      intro a14 w14 B14 H14
      simp only [List.cons_append, List.nil_append] at H14
      refine ops_one ?_
      refine store_op (l' := [(28, .val (IsI (readNum (bytesI s)))), (8, .box 25 2 (IsI (readNum (bytesI s)))), (6, .val (IsC (readNum (bytesI s)))), (7, .val (IsB true)), (4, .val (IsB false)), (2, .box 25 2 (Zero2)), (3, .val (IsB false))]) 1 H14 rfl tyI rfl (.tmp 0 rfl) shape_Z shape_I rfl rfl ?_
      clear H14 w14
      intro w15 H15
      refine ops_done ?_
      refine then_normal ?_
      refine wp_seq ?_
      refine wp_seq ?_
      refine flow_region (dsts := [some 29, some 30, some 31, some 32, some 33, some 34, some 35, some 36, some 37, some 38]) (refs := [[.pre 3], [.res 0], [.res 1], [.res 2, .pre 4], [.res 2, .res 3], [.res 4], [.res 4], [.res 4], [.res 2, .res 4], [.res 2, .res 8]]) (outs := [.res 9, .pre 1, .pre 5, .pre 6]) (als := [false, false, false, false, false, false, false, false, false, false]) (posts := [.val (IsB true), .val (IsB false), .val (IsB false), .val (IsB false), .val (IsB false), .val (IsUndef), .val (IsUndef), .val (IsUndef), .val (IsB false), .val (IsB false)])
        (out := [(38, .val (IsB false)), (8, .box 25 2 (IsI (readNum (bytesI s)))), (2, .box 25 2 (Zero2)), (3, .val (IsB false))]) (nb := []) H15 10 [] rfl (by kernel_rfl) rfl rfl ?_ ?_
      · refine .cons (.plain rfl (ok_move (.tmp 0 rfl))) ?_
        refine .cons (.plain rfl (ok_not (b := true) (.tmp 0 rfl))) ?_
        refine .cons (.plain rfl (ok_move (.tmp 0 rfl))) ?_
        refine .cons (.wanted 2 false rfl rfl rfl 0 rfl (ok_move (.tmp 1 rfl))) ?_
        refine .cons (.wanted 2 false rfl rfl rfl 0 rfl (ok_move (.tmp 1 rfl))) ?_
        refine .cons (.unwanted 4 true rfl rfl rfl 0 rfl) ?_
        refine .cons (.unwanted 4 true rfl rfl rfl 0 rfl) ?_
        refine .cons (.unwanted 4 true rfl rfl rfl 0 rfl) ?_
        refine .cons (.wanted 2 false rfl rfl rfl 0 rfl (ok_pickF (.tmp 1 rfl) (.lit))) ?_
        refine .cons (.plain rfl (ok_pickF (.tmp 0 rfl) (.tmp 1 rfl))) ?_
        exact .nil
      clear H15 a14 w15 B14
      intro a16 w16 B16 H16
      refine ops_done ?_
      refine then_normal ?_
      refine f_condF H16 (.tmp 0 rfl) ?_
      refine wp_skip ?_
      refine then_normal ?_
      refine wp_seq ?_
      refine flow_region (dsts := [some 40]) (refs := [[.pre 1]]) (outs := [.res 0, .pre 2, .pre 3]) (als := [false]) (posts := [.val (IsI (readNum (bytesI s)))])
        (out := [(40, .val (IsI (readNum (bytesI s)))), (2, .box 25 2 (Zero2)), (3, .val (IsB false))]) (nb := []) H16 1 [1, 2] rfl (by kernel_rfl) rfl rfl ?_ ?_
      · refine .cons (.plain rfl (ok_load tyI (.tmp 0 rfl))) ?_
        exact .nil
      clear H16 a16 w16 B16
      intro a17 w17 B17 H17
      refine ops_one ?_
      refine store_op (l' := [(40, .val (IsI (readNum (bytesI s)))), (2, .box 25 2 (IsI (readNum (bytesI s)))), (3, .val (IsB false))]) 1 H17 rfl tyI rfl (.tmp 0 rfl) shape_Z shape_I rfl rfl ?_
      clear H17 w17
      intro w18 H18
      refine ops_one ?_
      refine tail_op (D := .val (IsB true)) (l' := [(3, .val (IsB true)), (40, .val (IsI (readNum (bytesI s)))), (2, .box 25 2 (IsI (readNum (bytesI s))))]) H18 rfl rfl rfl (.plain rfl (ok_assign (.lit))) rfl rfl ?_
      clear H18 a17 w18 B17
      intro a19 w19 B19 H19
      refine ops_done ?_
      refine then_normal ?_
      refine wp_ret ?_
      exact f_retN H19 rfl rfl (.cell 2 tyI rfl (fun v w B h => by exact isI_eq (by assumption) h) (.tmp 0 rfl (fun v w B h => by exact isB_eq (by assumption) h) (.nil)))
    · have v0 := readNum_nonneg (bytesI s)
      have eb20 : (readOk (bytesI s)) = true := k0
      rw [eb20] at H5
      have e1 := (wp.1.trans k0).symm
      have e2 := wp.2.symm
      refine flow_region (dsts := [some 26, some 27, some 28, some 8]) (refs := [[.pre 2], [.pre 0], [.res 0, .res 1], []]) (outs := [.res 2, .res 3, .pre 0, .pre 1, .pre 2, .pre 3, .pre 4]) (als := [false, false, false, true]) (posts := [.val (IsB false), .val (IsC (readNum (bytesI s))), .val (IsI (readNum (bytesI s))), .box 25 2 (Zero2)])
        (out := [(28, .val (IsI (readNum (bytesI s)))), (8, .box 25 2 (Zero2)), (6, .val (IsC (readNum (bytesI s)))), (7, .val (IsB true)), (4, .val (IsB false)), (2, .box 25 2 (Zero2)), (3, .val (IsB false))]) (nb := [8]) H5 4 [4] rfl (by kernel_rfl) rfl rfl ?_ ?_
      · refine .cons (.plain rfl (ok_move (.tmp 0 rfl))) ?_
        refine .cons (.plain rfl (ok_move (.tmp 0 rfl))) ?_
        refine .cons (.plain rfl (ok_buildI (N := readNum (bytesI s)) (decide_eq_false (by omega)).symm (.tmp 0 rfl) (Opd.weak (.tmp 1 rfl) (fun _ _ _ h => isC_eq (by omega) h)))) ?_
        refine .cons (.plain rfl (ok_alloc (D := Zero2) zeroI rfl (fun _ _ => rfl))) ?_
        exact .nil
      clear H5 a5 w5 B5
      intro a21 w21 B21 H21
      simp only [List.cons_append, List.nil_append] at H21
      refine ops_one ?_
      refine store_op (l' := [(28, .val (IsI (readNum (bytesI s)))), (8, .box 25 2 (IsI (readNum (bytesI s)))), (6, .val (IsC (readNum (bytesI s)))), (7, .val (IsB true)), (4, .val (IsB false)), (2, .box 25 2 (Zero2)), (3, .val (IsB false))]) 1 H21 rfl tyI rfl (.tmp 0 rfl) shape_Z shape_I rfl rfl ?_
      clear H21 w21
      intro w22 H22
      refine ops_done ?_
      refine then_normal ?_
      refine wp_seq ?_
      refine wp_seq ?_
      refine flow_region (dsts := [some 29, some 30, some 31, some 32, some 33, some 34, some 35, some 36, some 37, some 38]) (refs := [[.pre 3], [.res 0], [.res 1], [.res 2, .pre 4], [.res 2, .res 3], [.res 4], [.res 4], [.res 4], [.res 2, .res 4], [.res 2, .res 8]]) (outs := [.res 9, .pre 1, .pre 5, .pre 6]) (als := [false, false, false, false, false, false, false, false, false, false]) (posts := [.val (IsB true), .val (IsB false), .val (IsB false), .val (IsB false), .val (IsB false), .val (IsUndef), .val (IsUndef), .val (IsUndef), .val (IsB false), .val (IsB false)])
        (out := [(38, .val (IsB false)), (8, .box 25 2 (IsI (readNum (bytesI s)))), (2, .box 25 2 (Zero2)), (3, .val (IsB false))]) (nb := []) H22 10 [] rfl (by kernel_rfl) rfl rfl ?_ ?_
      · refine .cons (.plain rfl (ok_move (.tmp 0 rfl))) ?_
        refine .cons (.plain rfl (ok_not (b := true) (.tmp 0 rfl))) ?_
        refine .cons (.plain rfl (ok_move (.tmp 0 rfl))) ?_
        refine .cons (.wanted 2 false rfl rfl rfl 0 rfl (ok_move (.tmp 1 rfl))) ?_
        refine .cons (.wanted 2 false rfl rfl rfl 0 rfl (ok_move (.tmp 1 rfl))) ?_
        refine .cons (.unwanted 4 true rfl rfl rfl 0 rfl) ?_
        refine .cons (.unwanted 4 true rfl rfl rfl 0 rfl) ?_
        refine .cons (.unwanted 4 true rfl rfl rfl 0 rfl) ?_
        refine .cons (.wanted 2 false rfl rfl rfl 0 rfl (ok_pickF (.tmp 1 rfl) (.lit))) ?_
        refine .cons (.plain rfl (ok_pickF (.tmp 0 rfl) (.tmp 1 rfl))) ?_
        exact .nil
      clear H22 a21 w22 B21
      intro a23 w23 B23 H23
      refine ops_done ?_
      refine then_normal ?_
      refine f_condF H23 (.tmp 0 rfl) ?_
      refine wp_skip ?_
      refine then_normal ?_
      refine wp_seq ?_
      refine flow_region (dsts := [some 40]) (refs := [[.pre 1]]) (outs := [.res 0, .pre 2, .pre 3]) (als := [false]) (posts := [.val (IsI (readNum (bytesI s)))])
        (out := [(40, .val (IsI (readNum (bytesI s)))), (2, .box 25 2 (Zero2)), (3, .val (IsB false))]) (nb := []) H23 1 [1, 2] rfl (by kernel_rfl) rfl rfl ?_ ?_
      · refine .cons (.plain rfl (ok_load tyI (.tmp 0 rfl))) ?_
        exact .nil
      clear H23 a23 w23 B23
      intro a24 w24 B24 H24
      refine ops_one ?_
      refine store_op (l' := [(40, .val (IsI (readNum (bytesI s)))), (2, .box 25 2 (IsI (readNum (bytesI s)))), (3, .val (IsB false))]) 1 H24 rfl tyI rfl (.tmp 0 rfl) shape_Z shape_I rfl rfl ?_
      clear H24 w24
      intro w25 H25
      refine ops_one ?_
      refine tail_op (D := .val (IsB true)) (l' := [(3, .val (IsB true)), (40, .val (IsI (readNum (bytesI s)))), (2, .box 25 2 (IsI (readNum (bytesI s))))]) H25 rfl rfl rfl (.plain rfl (ok_assign (.lit))) rfl rfl ?_
      clear H25 a24 w25 B24
      intro a26 w26 B26 H26
      refine ops_done ?_
      refine then_normal ?_
      refine wp_ret ?_
      exact f_retN H26 rfl rfl (.cell 2 tyI rfl (fun v w B h => by exact isI_eq (by assumption) h) (.tmp 0 rfl (fun v w B h => by exact isB_eq (by assumption) h) (.nil)))
  · have wm := wread_minus (cs := bytesI s) (by rw [bytesI_length]; omega) c1
    rw [← drop_bytes] at wm
    refine flow_region (dsts := [some 9, some 10, some 11, some 12, some 13, some 14, some 15, some 16, some 4]) (refs := [[.pre 2], [.res 0], [.res 1], [.res 2], [.res 3, .pre 2], [.res 3, .res 4], [.res 3, .res 5], [.res 3, .res 6], [.res 7]]) (outs := [.res 8, .pre 0, .pre 1, .pre 2]) (als := [false, false, false, false, false, false, false, false, false]) (posts := [.val (Lit (.string s)), .val (Lit (.int .i64 ((s).size : Int))), .val (IsB true), .val (IsB true), .val (Lit (.string s)), .val (Lit (.int .u8 ((bytesI s)[0]?.getD 0))), .val (IsB true), .val (IsB true), .val (IsB true)])
      (out := [(4, .val (IsB true)), (2, .box 25 2 (Zero2)), (3, .val (IsB false)), (0, .val (Lit (.string s)))]) (nb := []) H1 9 [] rfl (by kernel_rfl) rfl rfl ?_ ?_
    · refine .cons (.plain rfl (ok_move (.tmp 0 rfl))) ?_
      refine .cons (.plain rfl (ok_lenS Try.underlying9 (.tmp 0 rfl))) ?_
      refine .cons (.plain rfl (ok_cmp (b := true) (.tmp 0 rfl) (.lit) ((decide_eq_true (c0)).symm))) ?_
      refine .cons (.plain rfl (ok_move (.tmp 0 rfl))) ?_
      refine .cons (.wanted 3 true rfl rfl rfl 0 rfl (ok_move (.tmp 1 rfl))) ?_
      refine .cons (.wanted 3 true rfl rfl rfl 0 rfl (ok_indexS (n := 0) (c := ((bytesI s)[0]?.getD 0)) Try.underlying9 (.tmp 1 rfl) (.lit) (rfl) (bytes_at s 0 (by omega)))) ?_
      refine .cons (.wanted 3 true rfl rfl rfl 0 rfl (ok_cmp (b := true) (.tmp 1 rfl) (.lit) ((decide_eq_true (c1)).symm))) ?_
      refine .cons (.plain rfl (ok_pickT (.tmp 0 rfl) (.tmp 1 rfl))) ?_
      refine .cons (.plain rfl (ok_assign (.tmp 0 rfl))) ?_
      exact .nil
    clear H1 a1 w1 B1
    intro a27 w27 B27 H27
    refine ops_done ?_
    refine then_normal ?_
    refine wp_seq ?_
    refine flow_region (dsts := [some 17, some 5]) (refs := [[.pre 3], [.res 0]]) (outs := [.res 1, .pre 0, .pre 1, .pre 2, .pre 3]) (als := [false, false]) (posts := [.val (Lit (.string s)), .val (Lit (.string s))])
      (out := [(5, .val (Lit (.string s))), (4, .val (IsB true)), (2, .box 25 2 (Zero2)), (3, .val (IsB false)), (0, .val (Lit (.string s)))]) (nb := []) H27 2 [] rfl (by kernel_rfl) rfl rfl ?_ ?_
    · refine .cons (.plain rfl (ok_move (.tmp 0 rfl))) ?_
      refine .cons (.plain rfl (ok_assign (.tmp 0 rfl))) ?_
      exact .nil
    clear H27 a27 w27 B27
    intro a28 w28 B28 H28
    refine ops_done ?_
    refine then_normal ?_
    refine wp_seq ?_
    refine wp_seq ?_
    refine flow_region (dsts := [some 18]) (refs := [[.pre 1]]) (outs := [.res 0, .pre 0, .pre 1, .pre 2, .pre 3, .pre 4]) (als := [false]) (posts := [.val (IsB true)])
      (out := [(18, .val (IsB true)), (5, .val (Lit (.string s))), (4, .val (IsB true)), (2, .box 25 2 (Zero2)), (3, .val (IsB false)), (0, .val (Lit (.string s)))]) (nb := []) H28 1 [] rfl (by kernel_rfl) rfl rfl ?_ ?_
    · refine .cons (.plain rfl (ok_move (.tmp 0 rfl))) ?_
      exact .nil
    clear H28 a28 w28 B28
    intro a29 w29 B29 H29
    refine ops_done ?_
    refine then_normal ?_
    refine f_condT H29 (.tmp 0 rfl) ?_
    refine flow_region (dsts := [some 19, some 20, some 5]) (refs := [[.pre 5], [.res 0], [.res 1]]) (outs := [.res 2, .pre 2, .pre 3, .pre 4]) (als := [false, false, false]) (posts := [.val (Lit (.string s)), .val (Lit (.string ((s).extract 1 (s).size))), .val (Lit (.string ((s).extract 1 (s).size)))])
      (out := [(5, .val (Lit (.string ((s).extract 1 (s).size)))), (4, .val (IsB true)), (2, .box 25 2 (Zero2)), (3, .val (IsB false))]) (nb := []) H29 3 [] rfl (by kernel_rfl) rfl rfl ?_ ?_
    · refine .cons (.plain rfl (ok_move (.tmp 0 rfl))) ?_
      refine .cons (.plain rfl (ok_sliceS1 (n := 1) Try.underlying9 (.tmp 0 rfl) (.lit) (rfl) (by omega))) ?_
      refine .cons (.plain rfl (ok_assign (.tmp 0 rfl))) ?_
      exact .nil
    clear H29 a29 w29 B29
    intro a30 w30 B30 H30
    refine ops_done ?_
    refine then_normal ?_
    refine wp_seq ?_
    refine flow_region (dsts := [some 22, some 23, some 21, some 24, some 25, some 6, some 7]) (refs := [[.pre 0], [.res 0], [.res 1], [.res 2], [.res 2], [.res 3], [.res 4]]) (outs := [.res 5, .res 6, .pre 1, .pre 2, .pre 3]) (als := [false, false, false, false, false, false, false]) (posts := [.val (Lit (.string ((s).extract 1 (s).size))), .val (Tup [IsC (readNum (bytesI ((s).extract 1 (s).size))), IsB (readOk (bytesI ((s).extract 1 (s).size)))]), .val (Tup [IsC (readNum (bytesI ((s).extract 1 (s).size))), IsB (readOk (bytesI ((s).extract 1 (s).size)))]), .val (IsC (readNum (bytesI ((s).extract 1 (s).size)))), .val (IsB (readOk (bytesI ((s).extract 1 (s).size)))), .val (IsC (readNum (bytesI ((s).extract 1 (s).size)))), .val (IsB (readOk (bytesI ((s).extract 1 (s).size))))])
      (out := [(6, .val (IsC (readNum (bytesI ((s).extract 1 (s).size))))), (7, .val (IsB (readOk (bytesI ((s).extract 1 (s).size))))), (4, .val (IsB true)), (2, .box 25 2 (Zero2)), (3, .val (IsB false))]) (nb := []) H30 7 [] rfl (by kernel_rfl) rfl rfl ?_ ?_
    · refine .cons (.plain rfl (ok_move (.tmp 0 rfl))) ?_
      refine .cons (.plain rfl (ok_call (con_r2read ((s).extract 1 (s).size) (by rw [ByteArray.size_extract]; omega)) (.cons (.tmp 0 rfl) (.nil)))) ?_
      refine .cons (.plain rfl (ok_move (.tmp 0 rfl))) ?_
      refine .cons (.plain rfl (ok_extract 0 (.tmp 0 rfl) rfl)) ?_
      refine .cons (.plain rfl (ok_extract 1 (.tmp 0 rfl) rfl)) ?_
      refine .cons (.plain rfl (ok_assign (.tmp 0 rfl))) ?_
      refine .cons (.plain rfl (ok_assign (.tmp 0 rfl))) ?_
      exact .nil
    clear H30 a30 w30 B30
    intro a31 w31 B31 H31
    refine ops_done ?_
    refine then_normal ?_
    refine wp_seq ?_
    rcases three_ways (readOk (bytesI ((s).extract 1 (s).size))) (readNum (bytesI ((s).extract 1 (s).size))) with k0 | ⟨k0, k1⟩ | ⟨k0, k1⟩
    · have v0 := readNum_nonneg (bytesI ((s).extract 1 (s).size))
      have eb32 : (readOk (bytesI ((s).extract 1 (s).size))) = false := k0
      rw [eb32] at H31
      have e1 := (wm.2 (.inl k0)).1.symm
      have e2 := (wm.2 (.inl k0)).2.symm
      refine flow_region (dsts := [some 26, some 27, some 28, some 8]) (refs := [[.pre 2], [.pre 0], [.res 0, .res 1], []]) (outs := [.res 2, .res 3, .pre 0, .pre 1, .pre 2, .pre 3, .pre 4]) (als := [false, false, false, true]) (posts := [.val (IsB true), .val (IsC (readNum (bytesI ((s).extract 1 (s).size)))), .val (IsN (sI true (readNum (bytesI ((s).extract 1 (s).size))))), .box 25 2 (Zero2)])
        (out := [(28, .val (IsN (sI true (readNum (bytesI ((s).extract 1 (s).size)))))), (8, .box 25 2 (Zero2)), (6, .val (IsC (readNum (bytesI ((s).extract 1 (s).size))))), (7, .val (IsB false)), (4, .val (IsB true)), (2, .box 25 2 (Zero2)), (3, .val (IsB false))]) (nb := [8]) H31 4 [4] rfl (by kernel_rfl) rfl rfl ?_ ?_
      · refine .cons (.plain rfl (ok_move (.tmp 0 rfl))) ?_
        refine .cons (.plain rfl (ok_move (.tmp 0 rfl))) ?_
        refine .cons (.plain rfl (ok_buildBN (.tmp 0 rfl) (.weak (.tmp 1 rfl) weakCM))) ?_
        refine .cons (.plain rfl (ok_alloc (D := Zero2) zeroI rfl (fun _ _ => rfl))) ?_
        exact .nil
      clear H31 a31 w31 B31
      intro a33 w33 B33 H33
      simp only [List.cons_append, List.nil_append] at H33
      refine ops_one ?_
      refine store_op (l' := [(28, .val (IsN (sI true (readNum (bytesI ((s).extract 1 (s).size)))))), (8, .box 25 2 (IsN (sI true (readNum (bytesI ((s).extract 1 (s).size)))))), (6, .val (IsC (readNum (bytesI ((s).extract 1 (s).size))))), (7, .val (IsB false)), (4, .val (IsB true)), (2, .box 25 2 (Zero2)), (3, .val (IsB false))]) 1 H33 rfl tyI rfl (.tmp 0 rfl) shape_Z shape_N rfl rfl ?_
      clear H33 w33
      intro w34 H34
      refine ops_done ?_
      refine then_normal ?_
      refine wp_seq ?_
      refine wp_seq ?_
      refine flow_region (dsts := [some 29, some 30, some 31, some 32, some 33, some 34, some 35, some 36, some 37, some 38]) (refs := [[.pre 3], [.res 0], [.res 1], [.res 2], [.res 2], [.res 4], [.res 4], [.res 4], [.res 2], [.res 2]]) (outs := [.res 9, .pre 1, .pre 5, .pre 6]) (als := [false, false, false, false, false, false, false, false, false, false]) (posts := [.val (IsB false), .val (IsB true), .val (IsB true), .val (IsUndef), .val (IsUndef), .val (IsUndef), .val (IsUndef), .val (IsUndef), .val (IsUndef), .val (IsB true)])
        (out := [(38, .val (IsB true)), (8, .box 25 2 (IsN (sI true (readNum (bytesI ((s).extract 1 (s).size)))))), (2, .box 25 2 (Zero2)), (3, .val (IsB false))]) (nb := []) H34 10 [] rfl (by kernel_rfl) rfl rfl ?_ ?_
      · refine .cons (.plain rfl (ok_move (.tmp 0 rfl))) ?_
        refine .cons (.plain rfl (ok_not (b := false) (.tmp 0 rfl))) ?_
        refine .cons (.plain rfl (ok_move (.tmp 0 rfl))) ?_
        refine .cons (.unwanted 2 false rfl rfl rfl 0 rfl) ?_
        refine .cons (.unwanted 2 false rfl rfl rfl 0 rfl) ?_
        refine .cons (.unasked 4 true rfl rfl rfl 0 rfl) ?_
        refine .cons (.unasked 4 true rfl rfl rfl 0 rfl) ?_
        refine .cons (.unasked 4 true rfl rfl rfl 0 rfl) ?_
        refine .cons (.unwanted 2 false rfl rfl rfl 0 rfl) ?_
        refine .cons (.plain rfl (ok_pickT (.tmp 0 rfl) (.lit))) ?_
        exact .nil
      clear H34 a33 w34 B33
      intro a35 w35 B35 H35
      refine ops_done ?_
      refine then_normal ?_
      refine f_condT H35 (.tmp 0 rfl) ?_
      refine wp_seq ?_
      refine flow_region (dsts := [some 39]) (refs := [[]]) (outs := [.res 0, .pre 1, .pre 2, .pre 3]) (als := [false]) (posts := [.val (Zero2)])
        (out := [(39, .val (Zero2)), (8, .box 25 2 (IsN (sI true (readNum (bytesI ((s).extract 1 (s).size)))))), (2, .box 25 2 (Zero2)), (3, .val (IsB false))]) (nb := []) H35 1 [1, 2] rfl (by kernel_rfl) rfl rfl ?_ ?_
      · refine .cons (.plain rfl (ok_build0)) ?_
        exact .nil
      clear H35 a35 w35 B35
      intro a36 w36 B36 H36
      refine ops_one ?_
      refine store_op (l' := [(39, .val (Zero2)), (8, .box 25 2 (IsN (sI true (readNum (bytesI ((s).extract 1 (s).size)))))), (2, .box 25 2 (Zero2)), (3, .val (IsB false))]) 2 H36 rfl tyI rfl (.tmp 0 rfl) shape_Z shape_Z rfl rfl ?_
      clear H36 w36
      intro w37 H37
      refine ops_one ?_
      refine tail_op (D := .val (IsB false)) (l' := [(3, .val (IsB false)), (39, .val (Zero2)), (8, .box 25 2 (IsN (sI true (readNum (bytesI ((s).extract 1 (s).size)))))), (2, .box 25 2 (Zero2))]) H37 rfl rfl rfl (.plain rfl (ok_assign (.lit))) rfl rfl ?_
      clear H37 a36 w37 B36
      intro a38 w38 B38 H38
      refine ops_done ?_
      refine then_normal ?_
      refine wp_ret ?_
      refine then_ret ?_
      exact f_retN H38 rfl rfl (.cell 3 tyI rfl (fun v w B h => isI_eq (by assumption) (weakZI v w B h)) (.tmp 0 rfl (fun v w B h => by exact isB_eq (by assumption) h) (.nil)))
    · have v0 := readNum_nonneg (bytesI ((s).extract 1 (s).size))
      have eb39 : (readOk (bytesI ((s).extract 1 (s).size))) = true := k0
      rw [eb39] at H31
      have e1 := (wm.2 (.inr k1)).1.symm
      have e2 := (wm.2 (.inr k1)).2.symm
      refine flow_region (dsts := [some 26, some 27, some 28, some 8]) (refs := [[.pre 2], [.pre 0], [.res 0, .res 1], []]) (outs := [.res 2, .res 3, .pre 0, .pre 1, .pre 2, .pre 3, .pre 4]) (als := [false, false, false, true]) (posts := [.val (IsB true), .val (IsC (readNum (bytesI ((s).extract 1 (s).size)))), .val (IsN (sI true (readNum (bytesI ((s).extract 1 (s).size))))), .box 25 2 (Zero2)])
        (out := [(28, .val (IsN (sI true (readNum (bytesI ((s).extract 1 (s).size)))))), (8, .box 25 2 (Zero2)), (6, .val (IsC (readNum (bytesI ((s).extract 1 (s).size))))), (7, .val (IsB true)), (4, .val (IsB true)), (2, .box 25 2 (Zero2)), (3, .val (IsB false))]) (nb := [8]) H31 4 [4] rfl (by kernel_rfl) rfl rfl ?_ ?_
      · refine .cons (.plain rfl (ok_move (.tmp 0 rfl))) ?_
        refine .cons (.plain rfl (ok_move (.tmp 0 rfl))) ?_
        refine .cons (.plain rfl (ok_buildBN (.tmp 0 rfl) (.weak (.tmp 1 rfl) weakCM))) ?_
        refine .cons (.plain rfl (ok_alloc (D := Zero2) zeroI rfl (fun _ _ => rfl))) ?_
        exact .nil
      clear H31 a31 w31 B31
      intro a40 w40 B40 H40
      simp only [List.cons_append, List.nil_append] at H40
      refine ops_one ?_
      refine store_op (l' := [(28, .val (IsN (sI true (readNum (bytesI ((s).extract 1 (s).size)))))), (8, .box 25 2 (IsN (sI true (readNum (bytesI ((s).extract 1 (s).size)))))), (6, .val (IsC (readNum (bytesI ((s).extract 1 (s).size))))), (7, .val (IsB true)), (4, .val (IsB true)), (2, .box 25 2 (Zero2)), (3, .val (IsB false))]) 1 H40 rfl tyI rfl (.tmp 0 rfl) shape_Z shape_N rfl rfl ?_
      clear H40 w40
      intro w41 H41
      refine ops_done ?_
      refine then_normal ?_
      refine wp_seq ?_
      refine wp_seq ?_
      refine flow_region (dsts := [some 29, some 30, some 31, some 32, some 33, some 34, some 35, some 36, some 37, some 38]) (refs := [[.pre 3], [.res 0], [.res 1], [.res 2, .pre 4], [.res 2, .res 3], [.res 4, .pre 2], [.res 4, .res 5], [.res 4, .res 6], [.res 2, .res 4, .res 7], [.res 2, .res 8]]) (outs := [.res 9, .pre 1, .pre 5, .pre 6]) (als := [false, false, false, false, false, false, false, false, false, false]) (posts := [.val (IsB true), .val (IsB false), .val (IsB false), .val (IsB true), .val (IsB true), .val (IsC (readNum (bytesI ((s).extract 1 (s).size)))), .val (Lit (.int .i64 ((dg 4294967296 (readNum (bytesI ((s).extract 1 (s).size)))).length : Int))), .val (IsB true), .val (IsB true), .val (IsB true)])
        (out := [(38, .val (IsB true)), (8, .box 25 2 (IsN (sI true (readNum (bytesI ((s).extract 1 (s).size)))))), (2, .box 25 2 (Zero2)), (3, .val (IsB false))]) (nb := []) H41 10 [] rfl (by kernel_rfl) rfl rfl ?_ ?_
      · refine .cons (.plain rfl (ok_move (.tmp 0 rfl))) ?_
        refine .cons (.plain rfl (ok_not (b := true) (.tmp 0 rfl))) ?_
        refine .cons (.plain rfl (ok_move (.tmp 0 rfl))) ?_
        refine .cons (.wanted 2 false rfl rfl rfl 0 rfl (ok_move (.tmp 1 rfl))) ?_
        refine .cons (.wanted 2 false rfl rfl rfl 0 rfl (ok_move (.tmp 1 rfl))) ?_
        refine .cons (.wanted 4 true rfl rfl rfl 0 rfl (ok_move (.tmp 1 rfl))) ?_
        refine .cons (.wanted 4 true rfl rfl rfl 0 rfl (ok_lenC (.tmp 1 rfl))) ?_
        refine .cons (.wanted 4 true rfl rfl rfl 0 rfl (ok_cmp (b := true) (.tmp 1 rfl) (.lit) ((decide_eq_true ((dg_len_zero v0).2 k1)).symm))) ?_
        refine .cons (.wanted 2 false rfl rfl rfl 0 rfl (ok_pickT (.tmp 1 rfl) (.tmp 2 rfl))) ?_
        refine .cons (.plain rfl (ok_pickF (.tmp 0 rfl) (.tmp 1 rfl))) ?_
        exact .nil
      clear H41 a40 w41 B40
      intro a42 w42 B42 H42
      refine ops_done ?_
      refine then_normal ?_
      refine f_condT H42 (.tmp 0 rfl) ?_
      refine wp_seq ?_
      refine flow_region (dsts := [some 39]) (refs := [[]]) (outs := [.res 0, .pre 1, .pre 2, .pre 3]) (als := [false]) (posts := [.val (Zero2)])
        (out := [(39, .val (Zero2)), (8, .box 25 2 (IsN (sI true (readNum (bytesI ((s).extract 1 (s).size)))))), (2, .box 25 2 (Zero2)), (3, .val (IsB false))]) (nb := []) H42 1 [1, 2] rfl (by kernel_rfl) rfl rfl ?_ ?_
      · refine .cons (.plain rfl (ok_build0)) ?_
        exact .nil
      clear H42 a42 w42 B42
      intro a43 w43 B43 H43
      refine ops_one ?_
      refine store_op (l' := [(39, .val (Zero2)), (8, .box 25 2 (IsN (sI true (readNum (bytesI ((s).extract 1 (s).size)))))), (2, .box 25 2 (Zero2)), (3, .val (IsB false))]) 2 H43 rfl tyI rfl (.tmp 0 rfl) shape_Z shape_Z rfl rfl ?_
      clear H43 w43
      intro w44 H44
      refine ops_one ?_
      refine tail_op (D := .val (IsB false)) (l' := [(3, .val (IsB false)), (39, .val (Zero2)), (8, .box 25 2 (IsN (sI true (readNum (bytesI ((s).extract 1 (s).size)))))), (2, .box 25 2 (Zero2))]) H44 rfl rfl rfl (.plain rfl (ok_assign (.lit))) rfl rfl ?_
      clear H44 a43 w44 B43
      intro a45 w45 B45 H45
      refine ops_done ?_
      refine then_normal ?_
      refine wp_ret ?_
      refine then_ret ?_
      exact f_retN H45 rfl rfl (.cell 3 tyI rfl (fun v w B h => isI_eq (by assumption) (weakZI v w B h)) (.tmp 0 rfl (fun v w B h => by exact isB_eq (by assumption) h) (.nil)))
    · have v0 := readNum_nonneg (bytesI ((s).extract 1 (s).size))
      have eb46 : (readOk (bytesI ((s).extract 1 (s).size))) = true := k0
      rw [eb46] at H31
      have e1 := (wm.1 k0 k1).1.symm
      have e2 := (wm.1 k0 k1).2.symm
      refine flow_region (dsts := [some 26, some 27, some 28, some 8]) (refs := [[.pre 2], [.pre 0], [.res 0, .res 1], []]) (outs := [.res 2, .res 3, .pre 0, .pre 1, .pre 2, .pre 3, .pre 4]) (als := [false, false, false, true]) (posts := [.val (IsB true), .val (IsC (readNum (bytesI ((s).extract 1 (s).size)))), .val (IsI (-(readNum (bytesI ((s).extract 1 (s).size))))), .box 25 2 (Zero2)])
        (out := [(28, .val (IsI (-(readNum (bytesI ((s).extract 1 (s).size)))))), (8, .box 25 2 (Zero2)), (6, .val (IsC (readNum (bytesI ((s).extract 1 (s).size))))), (7, .val (IsB true)), (4, .val (IsB true)), (2, .box 25 2 (Zero2)), (3, .val (IsB false))]) (nb := [8]) H31 4 [4] rfl (by kernel_rfl) rfl rfl ?_ ?_
      · refine .cons (.plain rfl (ok_move (.tmp 0 rfl))) ?_
        refine .cons (.plain rfl (ok_move (.tmp 0 rfl))) ?_
        refine .cons (.plain rfl (ok_buildI (N := -(readNum (bytesI ((s).extract 1 (s).size)))) (decide_eq_true (by omega)).symm (.tmp 0 rfl) (Opd.weak (.tmp 1 rfl) (fun _ _ _ h => isC_eq (by omega) h)))) ?_
        refine .cons (.plain rfl (ok_alloc (D := Zero2) zeroI rfl (fun _ _ => rfl))) ?_
        exact .nil
      clear H31 a31 w31 B31
      intro a47 w47 B47 H47
      simp only [List.cons_append, List.nil_append] at H47
      refine ops_one ?_
      refine store_op (l' := [(28, .val (IsI (-(readNum (bytesI ((s).extract 1 (s).size)))))), (8, .box 25 2 (IsI (-(readNum (bytesI ((s).extract 1 (s).size)))))), (6, .val (IsC (readNum (bytesI ((s).extract 1 (s).size))))), (7, .val (IsB true)), (4, .val (IsB true)), (2, .box 25 2 (Zero2)), (3, .val (IsB false))]) 1 H47 rfl tyI rfl (.tmp 0 rfl) shape_Z shape_I rfl rfl ?_
      clear H47 w47
      intro w48 H48
      refine ops_done ?_
      refine then_normal ?_
      refine wp_seq ?_
      refine wp_seq ?_
      refine flow_region (dsts := [some 29, some 30, some 31, some 32, some 33, some 34, some 35, some 36, some 37, some 38]) (refs := [[.pre 3], [.res 0], [.res 1], [.res 2, .pre 4], [.res 2, .res 3], [.res 4, .pre 2], [.res 4, .res 5], [.res 4, .res 6], [.res 2, .res 4, .res 7], [.res 2, .res 8]]) (outs := [.res 9, .pre 1, .pre 5, .pre 6]) (als := [false, false, false, false, false, false, false, false, false, false]) (posts := [.val (IsB true), .val (IsB false), .val (IsB false), .val (IsB true), .val (IsB true), .val (IsC (readNum (bytesI ((s).extract 1 (s).size)))), .val (Lit (.int .i64 ((dg 4294967296 (readNum (bytesI ((s).extract 1 (s).size)))).length : Int))), .val (IsB false), .val (IsB false), .val (IsB false)])
        (out := [(38, .val (IsB false)), (8, .box 25 2 (IsI (-(readNum (bytesI ((s).extract 1 (s).size)))))), (2, .box 25 2 (Zero2)), (3, .val (IsB false))]) (nb := []) H48 10 [] rfl (by kernel_rfl) rfl rfl ?_ ?_
      · refine .cons (.plain rfl (ok_move (.tmp 0 rfl))) ?_
        refine .cons (.plain rfl (ok_not (b := true) (.tmp 0 rfl))) ?_
        refine .cons (.plain rfl (ok_move (.tmp 0 rfl))) ?_
        refine .cons (.wanted 2 false rfl rfl rfl 0 rfl (ok_move (.tmp 1 rfl))) ?_
        refine .cons (.wanted 2 false rfl rfl rfl 0 rfl (ok_move (.tmp 1 rfl))) ?_
        refine .cons (.wanted 4 true rfl rfl rfl 0 rfl (ok_move (.tmp 1 rfl))) ?_
        refine .cons (.wanted 4 true rfl rfl rfl 0 rfl (ok_lenC (.tmp 1 rfl))) ?_
        refine .cons (.wanted 4 true rfl rfl rfl 0 rfl (ok_cmp (b := false) (.tmp 1 rfl) (.lit) ((decide_eq_false (fun h => k1 ((dg_len_zero v0).1 h))).symm))) ?_
        refine .cons (.wanted 2 false rfl rfl rfl 0 rfl (ok_pickT (.tmp 1 rfl) (.tmp 2 rfl))) ?_
        refine .cons (.plain rfl (ok_pickF (.tmp 0 rfl) (.tmp 1 rfl))) ?_
        exact .nil
      clear H48 a47 w48 B47
      intro a49 w49 B49 H49
      refine ops_done ?_
      refine then_normal ?_
      refine f_condF H49 (.tmp 0 rfl) ?_
      refine wp_skip ?_
      refine then_normal ?_
      refine wp_seq ?_
      refine flow_region (dsts := [some 40]) (refs := [[.pre 1]]) (outs := [.res 0, .pre 2, .pre 3]) (als := [false]) (posts := [.val (IsI (-(readNum (bytesI ((s).extract 1 (s).size)))))])
        (out := [(40, .val (IsI (-(readNum (bytesI ((s).extract 1 (s).size)))))), (2, .box 25 2 (Zero2)), (3, .val (IsB false))]) (nb := []) H49 1 [1, 2] rfl (by kernel_rfl) rfl rfl ?_ ?_
      · refine .cons (.plain rfl (ok_load tyI (.tmp 0 rfl))) ?_
        exact .nil
      clear H49 a49 w49 B49
      intro a50 w50 B50 H50
      refine ops_one ?_
      refine store_op (l' := [(40, .val (IsI (-(readNum (bytesI ((s).extract 1 (s).size)))))), (2, .box 25 2 (IsI (-(readNum (bytesI ((s).extract 1 (s).size)))))), (3, .val (IsB false))]) 1 H50 rfl tyI rfl (.tmp 0 rfl) shape_Z shape_I rfl rfl ?_
      clear H50 w50
      intro w51 H51
      refine ops_one ?_
      refine tail_op (D := .val (IsB true)) (l' := [(3, .val (IsB true)), (40, .val (IsI (-(readNum (bytesI ((s).extract 1 (s).size)))))), (2, .box 25 2 (IsI (-(readNum (bytesI ((s).extract 1 (s).size))))))]) H51 rfl rfl rfl (.plain rfl (ok_assign (.lit))) rfl rfl ?_
      clear H51 a50 w51 B50
      intro a52 w52 B52 H52
      refine ops_done ?_
      refine then_normal ?_
      refine wp_ret ?_
      exact f_retN H52 rfl rfl (.cell 2 tyI rfl (fun v w B h => by exact isI_eq (by assumption) h) (.tmp 0 rfl (fun v w B h => by exact isB_eq (by assumption) h) (.nil)))
  · have wp := wread_plain (cs := bytesI s) (.inr c1)
    refine flow_region (dsts := [some 9, some 10, some 11, some 12, some 13, some 14, some 15, some 16, some 4]) (refs := [[.pre 2], [.res 0], [.res 1], [.res 2], [.res 3, .pre 2], [.res 3, .res 4], [.res 3, .res 5], [.res 3, .res 6], [.res 7]]) (outs := [.res 8, .pre 0, .pre 1, .pre 2]) (als := [false, false, false, false, false, false, false, false, false]) (posts := [.val (Lit (.string s)), .val (Lit (.int .i64 ((s).size : Int))), .val (IsB true), .val (IsB true), .val (Lit (.string s)), .val (Lit (.int .u8 ((bytesI s)[0]?.getD 0))), .val (IsB false), .val (IsB false), .val (IsB false)])
      (out := [(4, .val (IsB false)), (2, .box 25 2 (Zero2)), (3, .val (IsB false)), (0, .val (Lit (.string s)))]) (nb := []) H1 9 [] rfl (by kernel_rfl) rfl rfl ?_ ?_
    · refine .cons (.plain rfl (ok_move (.tmp 0 rfl))) ?_
      refine .cons (.plain rfl (ok_lenS Try.underlying9 (.tmp 0 rfl))) ?_
      refine .cons (.plain rfl (ok_cmp (b := true) (.tmp 0 rfl) (.lit) ((decide_eq_true (c0)).symm))) ?_
      refine .cons (.plain rfl (ok_move (.tmp 0 rfl))) ?_
      refine .cons (.wanted 3 true rfl rfl rfl 0 rfl (ok_move (.tmp 1 rfl))) ?_
      refine .cons (.wanted 3 true rfl rfl rfl 0 rfl (ok_indexS (n := 0) (c := ((bytesI s)[0]?.getD 0)) Try.underlying9 (.tmp 1 rfl) (.lit) (rfl) (bytes_at s 0 (by omega)))) ?_
      refine .cons (.wanted 3 true rfl rfl rfl 0 rfl (ok_cmp (b := false) (.tmp 1 rfl) (.lit) ((decide_eq_false (c1)).symm))) ?_
      refine .cons (.plain rfl (ok_pickT (.tmp 0 rfl) (.tmp 1 rfl))) ?_
      refine .cons (.plain rfl (ok_assign (.tmp 0 rfl))) ?_
      exact .nil
    clear H1 a1 w1 B1
    intro a53 w53 B53 H53
    refine ops_done ?_
    refine then_normal ?_
    refine wp_seq ?_
    refine flow_region (dsts := [some 17, some 5]) (refs := [[.pre 3], [.res 0]]) (outs := [.res 1, .pre 0, .pre 1, .pre 2, .pre 3]) (als := [false, false]) (posts := [.val (Lit (.string s)), .val (Lit (.string s))])
      (out := [(5, .val (Lit (.string s))), (4, .val (IsB false)), (2, .box 25 2 (Zero2)), (3, .val (IsB false)), (0, .val (Lit (.string s)))]) (nb := []) H53 2 [] rfl (by kernel_rfl) rfl rfl ?_ ?_
    · refine .cons (.plain rfl (ok_move (.tmp 0 rfl))) ?_
      refine .cons (.plain rfl (ok_assign (.tmp 0 rfl))) ?_
      exact .nil
    clear H53 a53 w53 B53
    intro a54 w54 B54 H54
    refine ops_done ?_
    refine then_normal ?_
    refine wp_seq ?_
    refine wp_seq ?_
    refine flow_region (dsts := [some 18]) (refs := [[.pre 1]]) (outs := [.res 0, .pre 0, .pre 1, .pre 2, .pre 3, .pre 4]) (als := [false]) (posts := [.val (IsB false)])
      (out := [(18, .val (IsB false)), (5, .val (Lit (.string s))), (4, .val (IsB false)), (2, .box 25 2 (Zero2)), (3, .val (IsB false)), (0, .val (Lit (.string s)))]) (nb := []) H54 1 [] rfl (by kernel_rfl) rfl rfl ?_ ?_
    · refine .cons (.plain rfl (ok_move (.tmp 0 rfl))) ?_
      exact .nil
    clear H54 a54 w54 B54
    intro a55 w55 B55 H55
    refine ops_done ?_
    refine then_normal ?_
    refine f_condF H55 (.tmp 0 rfl) ?_
    refine wp_skip ?_
    refine then_normal ?_
    refine wp_seq ?_
    refine flow_region (dsts := [some 22, some 23, some 21, some 24, some 25, some 6, some 7]) (refs := [[.pre 1], [.res 0], [.res 1], [.res 2], [.res 2], [.res 3], [.res 4]]) (outs := [.res 5, .res 6, .pre 2, .pre 3, .pre 4]) (als := [false, false, false, false, false, false, false]) (posts := [.val (Lit (.string s)), .val (Tup [IsC (readNum (bytesI s)), IsB (readOk (bytesI s))]), .val (Tup [IsC (readNum (bytesI s)), IsB (readOk (bytesI s))]), .val (IsC (readNum (bytesI s))), .val (IsB (readOk (bytesI s))), .val (IsC (readNum (bytesI s))), .val (IsB (readOk (bytesI s)))])
      (out := [(6, .val (IsC (readNum (bytesI s)))), (7, .val (IsB (readOk (bytesI s)))), (4, .val (IsB false)), (2, .box 25 2 (Zero2)), (3, .val (IsB false))]) (nb := []) H55 7 [] rfl (by kernel_rfl) rfl rfl ?_ ?_
    · refine .cons (.plain rfl (ok_move (.tmp 0 rfl))) ?_
      refine .cons (.plain rfl (ok_call (con_r2read s (by omega)) (.cons (.tmp 0 rfl) (.nil)))) ?_
      refine .cons (.plain rfl (ok_move (.tmp 0 rfl))) ?_
      refine .cons (.plain rfl (ok_extract 0 (.tmp 0 rfl) rfl)) ?_
      refine .cons (.plain rfl (ok_extract 1 (.tmp 0 rfl) rfl)) ?_
      refine .cons (.plain rfl (ok_assign (.tmp 0 rfl))) ?_
      refine .cons (.plain rfl (ok_assign (.tmp 0 rfl))) ?_
      exact .nil
    clear H55 a55 w55 B55
    intro a56 w56 B56 H56
    refine ops_done ?_
    refine then_normal ?_
    refine wp_seq ?_
    rcases three_ways (readOk (bytesI s)) (readNum (bytesI s)) with k0 | ⟨k0, k1⟩ | ⟨k0, k1⟩
    · have v0 := readNum_nonneg (bytesI s)
      have eb57 : (readOk (bytesI s)) = false := k0
      rw [eb57] at H56
      have e1 := (wp.1.trans k0).symm
      have e2 := (wp.2.trans (readNum_no k0)).symm
      refine flow_region (dsts := [some 26, some 27, some 28, some 8]) (refs := [[.pre 2], [.pre 0], [.res 0, .res 1], []]) (outs := [.res 2, .res 3, .pre 0, .pre 1, .pre 2, .pre 3, .pre 4]) (als := [false, false, false, true]) (posts := [.val (IsB false), .val (IsC (readNum (bytesI s))), .val (IsI (readNum (bytesI s))), .box 25 2 (Zero2)])
        (out := [(28, .val (IsI (readNum (bytesI s)))), (8, .box 25 2 (Zero2)), (6, .val (IsC (readNum (bytesI s)))), (7, .val (IsB false)), (4, .val (IsB false)), (2, .box 25 2 (Zero2)), (3, .val (IsB false))]) (nb := [8]) H56 4 [4] rfl (by kernel_rfl) rfl rfl ?_ ?_
      · refine .cons (.plain rfl (ok_move (.tmp 0 rfl))) ?_
        refine .cons (.plain rfl (ok_move (.tmp 0 rfl))) ?_
        refine .cons (.plain rfl (ok_buildI (N := readNum (bytesI s)) (decide_eq_false (by omega)).symm (.tmp 0 rfl) (Opd.weak (.tmp 1 rfl) (fun _ _ _ h => isC_eq (by omega) h)))) ?_
        refine .cons (.plain rfl (ok_alloc (D := Zero2) zeroI rfl (fun _ _ => rfl))) ?_
        exact .nil
      clear H56 a56 w56 B56
      intro a58 w58 B58 H58
      simp only [List.cons_append, List.nil_append] at H58
      refine ops_one ?_
      refine store_op (l' := [(28, .val (IsI (readNum (bytesI s)))), (8, .box 25 2 (IsI (readNum (bytesI s)))), (6, .val (IsC (readNum (bytesI s)))), (7, .val (IsB false)), (4, .val (IsB false)), (2, .box 25 2 (Zero2)), (3, .val (IsB false))]) 1 H58 rfl tyI rfl (.tmp 0 rfl) shape_Z shape_I rfl rfl ?_
      clear H58 w58
      intro w59 H59
      refine ops_done ?_
      refine then_normal ?_
      refine wp_seq ?_
      refine wp_seq ?_
      refine flow_region (dsts := [some 29, some 30, some 31, some 32, some 33, some 34, some 35, some 36, some 37, some 38]) (refs := [[.pre 3], [.res 0], [.res 1], [.res 2], [.res 2], [.res 4], [.res 4], [.res 4], [.res 2], [.res 2]]) (outs := [.res 9, .pre 1, .pre 5, .pre 6]) (als := [false, false, false, false, false, false, false, false, false, false]) (posts := [.val (IsB false), .val (IsB true), .val (IsB true), .val (IsUndef), .val (IsUndef), .val (IsUndef), .val (IsUndef), .val (IsUndef), .val (IsUndef), .val (IsB true)])
        (out := [(38, .val (IsB true)), (8, .box 25 2 (IsI (readNum (bytesI s)))), (2, .box 25 2 (Zero2)), (3, .val (IsB false))]) (nb := []) H59 10 [] rfl (by kernel_rfl) rfl rfl ?_ ?_
      · refine .cons (.plain rfl (ok_move (.tmp 0 rfl))) ?_
        refine .cons (.plain rfl (ok_not (b := false) (.tmp 0 rfl))) ?_
        refine .cons (.plain rfl (ok_move (.tmp 0 rfl))) ?_
        refine .cons (.unwanted 2 false rfl rfl rfl 0 rfl) ?_
        refine .cons (.unwanted 2 false rfl rfl rfl 0 rfl) ?_
        refine .cons (.unasked 4 true rfl rfl rfl 0 rfl) ?_
        refine .cons (.unasked 4 true rfl rfl rfl 0 rfl) ?_
        refine .cons (.unasked 4 true rfl rfl rfl 0 rfl) ?_
        refine .cons (.unwanted 2 false rfl rfl rfl 0 rfl) ?_
        refine .cons (.plain rfl (ok_pickT (.tmp 0 rfl) (.lit))) ?_
        exact .nil
      clear H59 a58 w59 B58
      intro a60 w60 B60 H60
      refine ops_done ?_
      refine then_normal ?_
      refine f_condT H60 (.tmp 0 rfl) ?_
      refine wp_seq ?_
      refine flow_region (dsts := [some 39]) (refs := [[]]) (outs := [.res 0, .pre 1, .pre 2, .pre 3]) (als := [false]) (posts := [.val (Zero2)])
        (out := [(39, .val (Zero2)), (8, .box 25 2 (IsI (readNum (bytesI s)))), (2, .box 25 2 (Zero2)), (3, .val (IsB false))]) (nb := []) H60 1 [1, 2] rfl (by kernel_rfl) rfl rfl ?_ ?_
      · refine .cons (.plain rfl (ok_build0)) ?_
        exact .nil
      clear H60 a60 w60 B60
      intro a61 w61 B61 H61
      refine ops_one ?_
      refine store_op (l' := [(39, .val (Zero2)), (8, .box 25 2 (IsI (readNum (bytesI s)))), (2, .box 25 2 (Zero2)), (3, .val (IsB false))]) 2 H61 rfl tyI rfl (.tmp 0 rfl) shape_Z shape_Z rfl rfl ?_
      clear H61 w61
      intro w62 H62
      refine ops_one ?_
      refine tail_op (D := .val (IsB false)) (l' := [(3, .val (IsB false)), (39, .val (Zero2)), (8, .box 25 2 (IsI (readNum (bytesI s)))), (2, .box 25 2 (Zero2))]) H62 rfl rfl rfl (.plain rfl (ok_assign (.lit))) rfl rfl ?_
      clear H62 a61 w62 B61
      intro a63 w63 B63 H63
      refine ops_done ?_
      refine then_normal ?_
      refine wp_ret ?_
      refine then_ret ?_
      exact f_retN H63 rfl rfl (.cell 3 tyI rfl (fun v w B h => isI_eq (by assumption) (weakZI v w B h)) (.tmp 0 rfl (fun v w B h => by exact isB_eq (by assumption) h) (.nil)))
    · have v0 := readNum_nonneg (bytesI s)
      have eb64 : (readOk (bytesI s)) = true := k0
      rw [eb64] at H56
      have e1 := (wp.1.trans k0).symm
      have e2 := wp.2.symm
      refine flow_region (dsts := [some 26, some 27, some 28, some 8]) (refs := [[.pre 2], [.pre 0], [.res 0, .res 1], []]) (outs := [.res 2, .res 3, .pre 0, .pre 1, .pre 2, .pre 3, .pre 4]) (als := [false, false, false, true]) (posts := [.val (IsB false), .val (IsC (readNum (bytesI s))), .val (IsI (readNum (bytesI s))), .box 25 2 (Zero2)])
        (out := [(28, .val (IsI (readNum (bytesI s)))), (8, .box 25 2 (Zero2)), (6, .val (IsC (readNum (bytesI s)))), (7, .val (IsB true)), (4, .val (IsB false)), (2, .box 25 2 (Zero2)), (3, .val (IsB false))]) (nb := [8]) H56 4 [4] rfl (by kernel_rfl) rfl rfl ?_ ?_
      · refine .cons (.plain rfl (ok_move (.tmp 0 rfl))) ?_
        refine .cons (.plain rfl (ok_move (.tmp 0 rfl))) ?_
        refine .cons (.plain rfl (ok_buildI (N := readNum (bytesI s)) (decide_eq_false (by omega)).symm (.tmp 0 rfl) (Opd.weak (.tmp 1 rfl) (fun _ _ _ h => isC_eq (by omega) h)))) ?_
        refine .cons (.plain rfl (ok_alloc (D := Zero2) zeroI rfl (fun _ _ => rfl))) ?_
        exact .nil
      clear H56 a56 w56 B56
      intro a65 w65 B65 H65
      simp only [List.cons_append, List.nil_append] at H65
      refine ops_one ?_
      refine store_op (l' := [(28, .val (IsI (readNum (bytesI s)))), (8, .box 25 2 (IsI (readNum (bytesI s)))), (6, .val (IsC (readNum (bytesI s)))), (7, .val (IsB true)), (4, .val (IsB false)), (2, .box 25 2 (Zero2)), (3, .val (IsB false))]) 1 H65 rfl tyI rfl (.tmp 0 rfl) shape_Z shape_I rfl rfl ?_
      clear H65 w65
      intro w66 H66
      refine ops_done ?_
      refine then_normal ?_
      refine wp_seq ?_
      refine wp_seq ?_
      refine flow_region (dsts := [some 29, some 30, some 31, some 32, some 33, some 34, some 35, some 36, some 37, some 38]) (refs := [[.pre 3], [.res 0], [.res 1], [.res 2, .pre 4], [.res 2, .res 3], [.res 4], [.res 4], [.res 4], [.res 2, .res 4], [.res 2, .res 8]]) (outs := [.res 9, .pre 1, .pre 5, .pre 6]) (als := [false, false, false, false, false, false, false, false, false, false]) (posts := [.val (IsB true), .val (IsB false), .val (IsB false), .val (IsB false), .val (IsB false), .val (IsUndef), .val (IsUndef), .val (IsUndef), .val (IsB false), .val (IsB false)])
        (out := [(38, .val (IsB false)), (8, .box 25 2 (IsI (readNum (bytesI s)))), (2, .box 25 2 (Zero2)), (3, .val (IsB false))]) (nb := []) H66 10 [] rfl (by kernel_rfl) rfl rfl ?_ ?_
      · refine .cons (.plain rfl (ok_move (.tmp 0 rfl))) ?_
        refine .cons (.plain rfl (ok_not (b := true) (.tmp 0 rfl))) ?_
        refine .cons (.plain rfl (ok_move (.tmp 0 rfl))) ?_
        refine .cons (.wanted 2 false rfl rfl rfl 0 rfl (ok_move (.tmp 1 rfl))) ?_
        refine .cons (.wanted 2 false rfl rfl rfl 0 rfl (ok_move (.tmp 1 rfl))) ?_
        refine .cons (.unwanted 4 true rfl rfl rfl 0 rfl) ?_
        refine .cons (.unwanted 4 true rfl rfl rfl 0 rfl) ?_
        refine .cons (.unwanted 4 true rfl rfl rfl 0 rfl) ?_
        refine .cons (.wanted 2 false rfl rfl rfl 0 rfl (ok_pickF (.tmp 1 rfl) (.lit))) ?_
        refine .cons (.plain rfl (ok_pickF (.tmp 0 rfl) (.tmp 1 rfl))) ?_
        exact .nil
      clear H66 a65 w66 B65
      intro a67 w67 B67 H67
      refine ops_done ?_
      refine then_normal ?_
      refine f_condF H67 (.tmp 0 rfl) ?_
      refine wp_skip ?_
      refine then_normal ?_
      refine wp_seq ?_
      refine flow_region (dsts := [some 40]) (refs := [[.pre 1]]) (outs := [.res 0, .pre 2, .pre 3]) (als := [false]) (posts := [.val (IsI (readNum (bytesI s)))])
        (out := [(40, .val (IsI (readNum (bytesI s)))), (2, .box 25 2 (Zero2)), (3, .val (IsB false))]) (nb := []) H67 1 [1, 2] rfl (by kernel_rfl) rfl rfl ?_ ?_
      · refine .cons (.plain rfl (ok_load tyI (.tmp 0 rfl))) ?_
        exact .nil
      clear H67 a67 w67 B67
      intro a68 w68 B68 H68
      refine ops_one ?_
      refine store_op (l' := [(40, .val (IsI (readNum (bytesI s)))), (2, .box 25 2 (IsI (readNum (bytesI s)))), (3, .val (IsB false))]) 1 H68 rfl tyI rfl (.tmp 0 rfl) shape_Z shape_I rfl rfl ?_
      clear H68 w68
      intro w69 H69
      refine ops_one ?_
      refine tail_op (D := .val (IsB true)) (l' := [(3, .val (IsB true)), (40, .val (IsI (readNum (bytesI s)))), (2, .box 25 2 (IsI (readNum (bytesI s))))]) H69 rfl rfl rfl (.plain rfl (ok_assign (.lit))) rfl rfl ?_
      clear H69 a68 w69 B68
      intro a70 w70 B70 H70
      refine ops_done ?_
      refine then_normal ?_
      refine wp_ret ?_
      exact f_retN H70 rfl rfl (.cell 2 tyI rfl (fun v w B h => by exact isI_eq (by assumption) h) (.tmp 0 rfl (fun v w B h => by exact isB_eq (by assumption) h) (.nil)))
    · have v0 := readNum_nonneg (bytesI s)
      have eb71 : (readOk (bytesI s)) = true := k0
      rw [eb71] at H56
      have e1 := (wp.1.trans k0).symm
      have e2 := wp.2.symm
      refine flow_region (dsts := [some 26, some 27, some 28, some 8]) (refs := [[.pre 2], [.pre 0], [.res 0, .res 1], []]) (outs := [.res 2, .res 3, .pre 0, .pre 1, .pre 2, .pre 3, .pre 4]) (als := [false, false, false, true]) (posts := [.val (IsB false), .val (IsC (readNum (bytesI s))), .val (IsI (readNum (bytesI s))), .box 25 2 (Zero2)])
        (out := [(28, .val (IsI (readNum (bytesI s)))), (8, .box 25 2 (Zero2)), (6, .val (IsC (readNum (bytesI s)))), (7, .val (IsB true)), (4, .val (IsB false)), (2, .box 25 2 (Zero2)), (3, .val (IsB false))]) (nb := [8]) H56 4 [4] rfl (by kernel_rfl) rfl rfl ?_ ?_
      · refine .cons (.plain rfl (ok_move (.tmp 0 rfl))) ?_
        refine .cons (.plain rfl (ok_move (.tmp 0 rfl))) ?_
        refine .cons (.plain rfl (ok_buildI (N := readNum (bytesI s)) (decide_eq_false (by omega)).symm (.tmp 0 rfl) (Opd.weak (.tmp 1 rfl) (fun _ _ _ h => isC_eq (by omega) h)))) ?_
        refine .cons (.plain rfl (ok_alloc (D := Zero2) zeroI rfl (fun _ _ => rfl))) ?_
        exact .nil
      clear H56 a56 w56 B56
      intro a72 w72 B72 H72
      simp only [List.cons_append, List.nil_append] at H72
      refine ops_one ?_
      refine store_op (l' := [(28, .val (IsI (readNum (bytesI s)))), (8, .box 25 2 (IsI (readNum (bytesI s)))), (6, .val (IsC (readNum (bytesI s)))), (7, .val (IsB true)), (4, .val (IsB false)), (2, .box 25 2 (Zero2)), (3, .val (IsB false))]) 1 H72 rfl tyI rfl (.tmp 0 rfl) shape_Z shape_I rfl rfl ?_
      clear H72 w72
      intro w73 H73
      refine ops_done ?_
      refine then_normal ?_
      refine wp_seq ?_
      refine wp_seq ?_
      refine flow_region (dsts := [some 29, some 30, some 31, some 32, some 33, some 34, some 35, some 36, some 37, some 38]) (refs := [[.pre 3], [.res 0], [.res 1], [.res 2, .pre 4], [.res 2, .res 3], [.res 4], [.res 4], [.res 4], [.res 2, .res 4], [.res 2, .res 8]]) (outs := [.res 9, .pre 1, .pre 5, .pre 6]) (als := [false, false, false, false, false, false, false, false, false, false]) (posts := [.val (IsB true), .val (IsB false), .val (IsB false), .val (IsB false), .val (IsB false), .val (IsUndef), .val (IsUndef), .val (IsUndef), .val (IsB false), .val (IsB false)])
        (out := [(38, .val (IsB false)), (8, .box 25 2 (IsI (readNum (bytesI s)))), (2, .box 25 2 (Zero2)), (3, .val (IsB false))]) (nb := []) H73 10 [] rfl (by kernel_rfl) rfl rfl ?_ ?_
      · refine .cons (.plain rfl (ok_move (.tmp 0 rfl))) ?_
        refine .cons (.plain rfl (ok_not (b := true) (.tmp 0 rfl))) ?_
        refine .cons (.plain rfl (ok_move (.tmp 0 rfl))) ?_
        refine .cons (.wanted 2 false rfl rfl rfl 0 rfl (ok_move (.tmp 1 rfl))) ?_
        refine .cons (.wanted 2 false rfl rfl rfl 0 rfl (ok_move (.tmp 1 rfl))) ?_
        refine .cons (.unwanted 4 true rfl rfl rfl 0 rfl) ?_
        refine .cons (.unwanted 4 true rfl rfl rfl 0 rfl) ?_
        refine .cons (.unwanted 4 true rfl rfl rfl 0 rfl) ?_
        refine .cons (.wanted 2 false rfl rfl rfl 0 rfl (ok_pickF (.tmp 1 rfl) (.lit))) ?_
        refine .cons (.plain rfl (ok_pickF (.tmp 0 rfl) (.tmp 1 rfl))) ?_
        exact .nil
      clear H73 a72 w73 B72
      intro a74 w74 B74 H74
      refine ops_done ?_
      refine then_normal ?_
      refine f_condF H74 (.tmp 0 rfl) ?_
      refine wp_skip ?_
      refine then_normal ?_
      refine wp_seq ?_
      refine flow_region (dsts := [some 40]) (refs := [[.pre 1]]) (outs := [.res 0, .pre 2, .pre 3]) (als := [false]) (posts := [.val (IsI (readNum (bytesI s)))])
        (out := [(40, .val (IsI (readNum (bytesI s)))), (2, .box 25 2 (Zero2)), (3, .val (IsB false))]) (nb := []) H74 1 [1, 2] rfl (by kernel_rfl) rfl rfl ?_ ?_
      · refine .cons (.plain rfl (ok_load tyI (.tmp 0 rfl))) ?_
        exact .nil
      clear H74 a74 w74 B74
      intro a75 w75 B75 H75
      refine ops_one ?_
      refine store_op (l' := [(40, .val (IsI (readNum (bytesI s)))), (2, .box 25 2 (IsI (readNum (bytesI s)))), (3, .val (IsB false))]) 1 H75 rfl tyI rfl (.tmp 0 rfl) shape_Z shape_I rfl rfl ?_
      clear H75 w75
      intro w76 H76
      refine ops_one ?_
      refine tail_op (D := .val (IsB true)) (l' := [(3, .val (IsB true)), (40, .val (IsI (readNum (bytesI s)))), (2, .box 25 2 (IsI (readNum (bytesI s))))]) H76 rfl rfl rfl (.plain rfl (ok_assign (.lit))) rfl rfl ?_
      clear H76 a75 w76 B75
      intro a77 w77 B77 H77
      refine ops_done ?_
      refine then_normal ?_
      refine wp_ret ?_
      exact f_retN H77 rfl rfl (.cell 2 tyI rfl (fun v w B h => by exact isI_eq (by assumption) h) (.tmp 0 rfl (fun v w B h => by exact isB_eq (by assumption) h) (.nil)))
end Go.Proofs.Ytgnophflogmmaaa
