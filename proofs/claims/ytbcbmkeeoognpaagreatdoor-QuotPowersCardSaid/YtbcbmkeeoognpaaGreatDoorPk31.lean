/- Contracts of functions, and plain facts, part 31. -/
import Derived.Test.YtbcbmkeeoognpaaGreatDoorPk13
import Derived.Test.YtbcbmkeeoognpaaGreatDoorPk20
import Derived.Test.YtbcbmkeeoognpaaGreatDoorPk21
import Derived.Test.YtbcbmkeeoognpaaGreatDoorPk29
set_option linter.unusedVariables false
set_option linter.unusedSimpArgs false
/- R3tell. (Printed by flowfn.py.) -/
namespace Go.Proofs.YtbcbmkeeoognpaaGreatDoor
open Go Go.RowKit

set_option maxRecDepth 20000 in
set_option maxHeartbeats 2000000 in
theorem con_r2read (s : ByteArray) (hs : s.size ≤ 140737488351232) : Con Tryz.prog 32 [Lit (.string s)] (Tup [IsC (readNum (bytesI s)), IsB (readOk (bytesI s))]) := by
  refine f_enter (N := 56) Tryz.ntmps32 (fun _ _ => by go_simp) Tryz.func32 rfl (by simp) ?_
  intro a0 w0 B0 H0
  replace H0 : St 56 w0 B0 a0 w0 B0 [(0, .val (Lit (.string s)))] [] := H0
  refine wp_seq ?_
  refine flow_region (dsts := [some 2, some 3]) (refs := [[], []]) (outs := [.res 0, .res 1, .pre 0]) (als := [false, false]) (posts := [.val (IsC 0), .val (IsB false)])
    (out := [(2, .val (IsC 0)), (3, .val (IsB false)), (0, .val (Lit (.string s)))]) (nb := []) H0 2 [] rfl (by kernel_rfl) rfl rfl ?_ ?_
  · refine .cons (.plain rfl (ok_assign (.const (fun w B => weakNilM _ w B rfl)))) ?_
    refine .cons (.plain rfl (ok_assign (.lit))) ?_
    exact .nil
  clear H0
  intro a1 w1 B1 H1
  refine ops_done ?_
  refine then_normal ?_
  refine wp_seq ?_
  refine wp_seq ?_
  rcases (show ((s.size : Int) = 0) ∨ (¬ (s.size : Int) = 0 ∧ (bytesI s)[0]?.getD 0 = 48 ∧ 1 < (s.size : Int)) ∨ (¬ (s.size : Int) = 0 ∧ (bytesI s)[0]?.getD 0 = 48 ∧ ¬ 1 < (s.size : Int)) ∨ (¬ (s.size : Int) = 0 ∧ ¬ (bytesI s)[0]?.getD 0 = 48) by omega) with c0 | ⟨c0, c1, c2⟩ | ⟨c0, c1, c2⟩ | ⟨c0, c1⟩
  · have hno := readOk_nil
    rw [show ([] : List Int) = bytesI s from (List.length_eq_zero_iff.1 (by rw [bytesI_length]; omega)).symm] at hno
    have n0 := (readNum_no hno).symm
    refine flow_region (dsts := [some 7, some 8, some 9, some 10, some 11, some 12, some 13, some 14, some 15, some 16, some 17, some 18, some 19]) (refs := [[.pre 2], [.res 0], [.res 1], [.res 2], [.res 3], [.res 3], [.res 3], [.res 3], [.res 7], [.res 7], [.res 7], [.res 3], [.res 3]]) (outs := [.res 12, .pre 0, .pre 1, .pre 2]) (als := [false, false, false, false, false, false, false, false, false, false, false, false, false]) (posts := [.val (Lit (.string s)), .val (Lit (.int .i64 ((s).size : Int))), .val (IsB true), .val (IsB true), .val (IsUndef), .val (IsUndef), .val (IsUndef), .val (IsUndef), .val (IsUndef), .val (IsUndef), .val (IsUndef), .val (IsUndef), .val (IsB true)])
      (out := [(19, .val (IsB true)), (2, .val (IsC 0)), (3, .val (IsB false)), (0, .val (Lit (.string s)))]) (nb := []) H1 13 [] rfl (by kernel_rfl) rfl rfl ?_ ?_
    · refine .cons (.plain rfl (ok_move (.tmp 0 rfl))) ?_
      refine .cons (.plain rfl (ok_lenS Tryz.underlying9 (.tmp 0 rfl))) ?_
      refine .cons (.plain rfl (ok_cmp (b := true) (.tmp 0 rfl) (.lit) ((decide_eq_true (c0)).symm))) ?_
      refine .cons (.plain rfl (ok_move (.tmp 0 rfl))) ?_
      refine .cons (.unwanted 3 false rfl rfl rfl 0 rfl) ?_
      refine .cons (.unwanted 3 false rfl rfl rfl 0 rfl) ?_
      refine .cons (.unwanted 3 false rfl rfl rfl 0 rfl) ?_
      refine .cons (.unwanted 3 false rfl rfl rfl 0 rfl) ?_
      refine .cons (.unasked 7 true rfl rfl rfl 0 rfl) ?_
      refine .cons (.unasked 7 true rfl rfl rfl 0 rfl) ?_
      refine .cons (.unasked 7 true rfl rfl rfl 0 rfl) ?_
      refine .cons (.unwanted 3 false rfl rfl rfl 0 rfl) ?_
      refine .cons (.plain rfl (ok_pickT (.tmp 0 rfl) (.lit))) ?_
      exact .nil
    clear H1 a1 w1 B1
    intro a2 w2 B2 H2
    refine ops_done ?_
    refine then_normal ?_
    refine f_condT H2 (.tmp 0 rfl) ?_
    refine wp_seq ?_
    refine flow_region (dsts := [some 2, some 3]) (refs := [[], []]) (outs := [.res 0, .res 1, .pre 3]) (als := [false, false]) (posts := [.val (IsC 0), .val (IsB false)])
      (out := [(2, .val (IsC 0)), (3, .val (IsB false)), (0, .val (Lit (.string s)))]) (nb := []) H2 2 [] rfl (by kernel_rfl) rfl rfl ?_ ?_
    · refine .cons (.plain rfl (ok_assign (.const (fun w B => weakNilM _ w B rfl)))) ?_
      refine .cons (.plain rfl (ok_assign (.lit))) ?_
      exact .nil
    clear H2 a2 w2 B2
    intro a3 w3 B3 H3
    refine ops_done ?_
    refine then_normal ?_
    refine wp_ret ?_
    refine then_ret ?_
    exact f_retN H3 rfl rfl (.tmp 0 rfl (fun v w B h => by exact isC_eq (by assumption) h) (.tmp 1 rfl (fun v w B h => by exact isB_eq (by first | assumption | exact Eq.symm (by assumption)) h) (.nil)))
  · have hno := readOk_lead c1 (by rw [bytesI_length]; omega)
    have n0 := (readNum_no hno).symm
    refine flow_region (dsts := [some 7, some 8, some 9, some 10, some 11, some 12, some 13, some 14, some 15, some 16, some 17, some 18, some 19]) (refs := [[.pre 2], [.res 0], [.res 1], [.res 2], [.res 3, .pre 2], [.res 3, .res 4], [.res 3, .res 5], [.res 3, .res 6], [.res 7, .pre 2], [.res 7, .res 8], [.res 7, .res 9], [.res 3, .res 7, .res 10], [.res 3, .res 11]]) (outs := [.res 12, .pre 0, .pre 1, .pre 2]) (als := [false, false, false, false, false, false, false, false, false, false, false, false, false]) (posts := [.val (Lit (.string s)), .val (Lit (.int .i64 ((s).size : Int))), .val (IsB false), .val (IsB false), .val (Lit (.string s)), .val (Lit (.int .u8 ((bytesI s)[0]?.getD 0))), .val (IsB true), .val (IsB true), .val (Lit (.string s)), .val (Lit (.int .i64 ((s).size : Int))), .val (IsB true), .val (IsB true), .val (IsB true)])
      (out := [(19, .val (IsB true)), (2, .val (IsC 0)), (3, .val (IsB false)), (0, .val (Lit (.string s)))]) (nb := []) H1 13 [] rfl (by kernel_rfl) rfl rfl ?_ ?_
    · refine .cons (.plain rfl (ok_move (.tmp 0 rfl))) ?_
      refine .cons (.plain rfl (ok_lenS Tryz.underlying9 (.tmp 0 rfl))) ?_
      refine .cons (.plain rfl (ok_cmp (b := false) (.tmp 0 rfl) (.lit) ((decide_eq_false (c0)).symm))) ?_
      refine .cons (.plain rfl (ok_move (.tmp 0 rfl))) ?_
      refine .cons (.wanted 3 false rfl rfl rfl 0 rfl (ok_move (.tmp 1 rfl))) ?_
      refine .cons (.wanted 3 false rfl rfl rfl 0 rfl (ok_indexS (n := 0) (c := ((bytesI s)[0]?.getD 0)) Tryz.underlying9 (.tmp 1 rfl) (.lit) (rfl) (bytes_at s 0 (by omega)))) ?_
      refine .cons (.wanted 3 false rfl rfl rfl 0 rfl (ok_cmp (b := true) (.tmp 1 rfl) (.lit) ((decide_eq_true (c1)).symm))) ?_
      refine .cons (.wanted 3 false rfl rfl rfl 0 rfl (ok_move (.tmp 1 rfl))) ?_
      refine .cons (.wanted 7 true rfl rfl rfl 0 rfl (ok_move (.tmp 1 rfl))) ?_
      refine .cons (.wanted 7 true rfl rfl rfl 0 rfl (ok_lenS Tryz.underlying9 (.tmp 1 rfl))) ?_
      refine .cons (.wanted 7 true rfl rfl rfl 0 rfl (ok_cmp (b := true) (.tmp 1 rfl) (.lit) ((decide_eq_true (c2)).symm))) ?_
      refine .cons (.wanted 3 false rfl rfl rfl 0 rfl (ok_pickT (.tmp 1 rfl) (.tmp 2 rfl))) ?_
      refine .cons (.plain rfl (ok_pickF (.tmp 0 rfl) (.tmp 1 rfl))) ?_
      exact .nil
    clear H1 a1 w1 B1
    intro a4 w4 B4 H4
    refine ops_done ?_
    refine then_normal ?_
    refine f_condT H4 (.tmp 0 rfl) ?_
    refine wp_seq ?_
    refine flow_region (dsts := [some 2, some 3]) (refs := [[], []]) (outs := [.res 0, .res 1, .pre 3]) (als := [false, false]) (posts := [.val (IsC 0), .val (IsB false)])
      (out := [(2, .val (IsC 0)), (3, .val (IsB false)), (0, .val (Lit (.string s)))]) (nb := []) H4 2 [] rfl (by kernel_rfl) rfl rfl ?_ ?_
    · refine .cons (.plain rfl (ok_assign (.const (fun w B => weakNilM _ w B rfl)))) ?_
      refine .cons (.plain rfl (ok_assign (.lit))) ?_
      exact .nil
    clear H4 a4 w4 B4
    intro a5 w5 B5 H5
    refine ops_done ?_
    refine then_normal ?_
    refine wp_ret ?_
    refine then_ret ?_
    exact f_retN H5 rfl rfl (.tmp 0 rfl (fun v w B h => by exact isC_eq (by assumption) h) (.tmp 1 rfl (fun v w B h => by exact isB_eq (by first | assumption | exact Eq.symm (by assumption)) h) (.nil)))
  · have lead : (bytesI s)[0]?.getD 0 = 48 → (bytesI s).length = 1 := fun _ => by rw [bytesI_length]; omega
    refine flow_region (dsts := [some 7, some 8, some 9, some 10, some 11, some 12, some 13, some 14, some 15, some 16, some 17, some 18, some 19]) (refs := [[.pre 2], [.res 0], [.res 1], [.res 2], [.res 3, .pre 2], [.res 3, .res 4], [.res 3, .res 5], [.res 3, .res 6], [.res 7, .pre 2], [.res 7, .res 8], [.res 7, .res 9], [.res 3, .res 7, .res 10], [.res 3, .res 11]]) (outs := [.res 12, .pre 0, .pre 1, .pre 2]) (als := [false, false, false, false, false, false, false, false, false, false, false, false, false]) (posts := [.val (Lit (.string s)), .val (Lit (.int .i64 ((s).size : Int))), .val (IsB false), .val (IsB false), .val (Lit (.string s)), .val (Lit (.int .u8 ((bytesI s)[0]?.getD 0))), .val (IsB true), .val (IsB true), .val (Lit (.string s)), .val (Lit (.int .i64 ((s).size : Int))), .val (IsB false), .val (IsB false), .val (IsB false)])
      (out := [(19, .val (IsB false)), (2, .val (IsC 0)), (3, .val (IsB false)), (0, .val (Lit (.string s)))]) (nb := []) H1 13 [] rfl (by kernel_rfl) rfl rfl ?_ ?_
    · refine .cons (.plain rfl (ok_move (.tmp 0 rfl))) ?_
      refine .cons (.plain rfl (ok_lenS Tryz.underlying9 (.tmp 0 rfl))) ?_
      refine .cons (.plain rfl (ok_cmp (b := false) (.tmp 0 rfl) (.lit) ((decide_eq_false (c0)).symm))) ?_
      refine .cons (.plain rfl (ok_move (.tmp 0 rfl))) ?_
      refine .cons (.wanted 3 false rfl rfl rfl 0 rfl (ok_move (.tmp 1 rfl))) ?_
      refine .cons (.wanted 3 false rfl rfl rfl 0 rfl (ok_indexS (n := 0) (c := ((bytesI s)[0]?.getD 0)) Tryz.underlying9 (.tmp 1 rfl) (.lit) (rfl) (bytes_at s 0 (by omega)))) ?_
      refine .cons (.wanted 3 false rfl rfl rfl 0 rfl (ok_cmp (b := true) (.tmp 1 rfl) (.lit) ((decide_eq_true (c1)).symm))) ?_
      refine .cons (.wanted 3 false rfl rfl rfl 0 rfl (ok_move (.tmp 1 rfl))) ?_
      refine .cons (.wanted 7 true rfl rfl rfl 0 rfl (ok_move (.tmp 1 rfl))) ?_
      refine .cons (.wanted 7 true rfl rfl rfl 0 rfl (ok_lenS Tryz.underlying9 (.tmp 1 rfl))) ?_
      refine .cons (.wanted 7 true rfl rfl rfl 0 rfl (ok_cmp (b := false) (.tmp 1 rfl) (.lit) ((decide_eq_false (c2)).symm))) ?_
      refine .cons (.wanted 3 false rfl rfl rfl 0 rfl (ok_pickT (.tmp 1 rfl) (.tmp 2 rfl))) ?_
      refine .cons (.plain rfl (ok_pickF (.tmp 0 rfl) (.tmp 1 rfl))) ?_
      exact .nil
    clear H1 a1 w1 B1
    intro a6 w6 B6 H6
    refine ops_done ?_
    refine then_normal ?_
    refine f_condF H6 (.tmp 0 rfl) ?_
    refine wp_skip ?_
    refine then_normal ?_
    refine wp_seq ?_
    refine flow_region (dsts := [some 4]) (refs := [[]]) (outs := [.res 0, .pre 1, .pre 2, .pre 3]) (als := [false]) (posts := [.val (IsC 0)])
      (out := [(4, .val (IsC 0)), (2, .val (IsC 0)), (3, .val (IsB false)), (0, .val (Lit (.string s)))]) (nb := []) H6 1 [] rfl (by kernel_rfl) rfl rfl ?_ ?_
    · refine .cons (.plain rfl (ok_assign (.const (fun w B => weakNilM _ w B rfl)))) ?_
      exact .nil
    clear H6 a6 w6 B6
    intro a7 w7 B7 H7
    refine ops_done ?_
    refine then_normal ?_
    refine wp_seq ?_
    refine wp_seq ?_
    refine flow_region (dsts := [some 5]) (refs := [[]]) (outs := [.res 0, .pre 0, .pre 1, .pre 2, .pre 3]) (als := [false]) (posts := [.val (Lit (.int .i64 0))])
      (out := [(5, .val (Lit (.int .i64 0))), (4, .val (IsC 0)), (2, .val (IsC 0)), (3, .val (IsB false)), (0, .val (Lit (.string s)))]) (nb := []) H7 1 [] rfl (by kernel_rfl) rfl rfl ?_ ?_
    · refine .cons (.plain rfl (ok_assign (.lit))) ?_
      exact .nil
    clear H7 a7 w7 B7
    intro a8 w8 B8 H8
    refine ops_done ?_
    refine then_normal ?_
    refine wp_block ?_
    refine f_loop (fun (i : Int) => [(5, .val (Lit (.int .i64 i))), (4, .val (IsC 0)), (2, .val (IsC 0)), (3, .val (IsB false)), (0, .val (Lit (.string s)))]) (fun (i : Int) => 0 ≤ i ∧ i ≤ (s.size : Int) ∧ Dgs (bytesI s) i) (fun (i : Int) => ((s.size : Int) - i).toNat) (0) (St.pick H8 [0, 1, 2, 3, 4] rfl) (by exact ⟨by omega, by omega, dgs_zero _⟩) ?_
    clear H8 a8 w8 B8
    intro i a9 w9 B9 hI9 H9
    replace hI9 : 0 ≤ i ∧ i ≤ (s.size : Int) ∧ Dgs (bytesI s) i := hI9
    replace H9 : St 56 w0 B0 a9 w9 B9 [(5, .val (Lit (.int .i64 i))), (4, .val (IsC 0)), (2, .val (IsC 0)), (3, .val (IsB false)), (0, .val (Lit (.string s)))] [] := H9
    obtain ⟨i0, i1, hd⟩ := hI9
    refine wp_seq ?_
    refine wp_seq ?_
    refine flow_region (dsts := [some 20, some 21, some 22, some 23]) (refs := [[.pre 0], [.pre 4], [.res 1], [.res 0, .res 2]]) (outs := [.res 3, .pre 0, .pre 1, .pre 2, .pre 3, .pre 4]) (als := [false, false, false, false]) (posts := [.val (Lit (.int .i64 i)), .val (Lit (.string s)), .val (Lit (.int .i64 ((s).size : Int))), .val (IsB (decide (i < ((s).size : Int))))])
      (out := [(23, .val (IsB (decide (i < ((s).size : Int))))), (5, .val (Lit (.int .i64 i))), (4, .val (IsC 0)), (2, .val (IsC 0)), (3, .val (IsB false)), (0, .val (Lit (.string s)))]) (nb := []) H9 4 [] rfl (by kernel_rfl) rfl rfl ?_ ?_
    · refine .cons (.plain rfl (ok_move (.tmp 0 rfl))) ?_
      refine .cons (.plain rfl (ok_move (.tmp 0 rfl))) ?_
      refine .cons (.plain rfl (ok_lenS Tryz.underlying9 (.tmp 0 rfl))) ?_
      refine .cons (.plain rfl (ok_cmp (.tmp 0 rfl) (.tmp 1 rfl) rfl)) ?_
      exact .nil
    clear H9 a9 w9 B9
    intro a10 w10 B10 H10
    refine ops_done ?_
    refine then_normal ?_
    refine f_cond H10 (.tmp 0 rfl) ?_ ?_
    · intro hc11
      replace hc11 := of_decide_eq_true hc11
      refine wp_skip ?_
      refine then_normal ?_
      refine wp_seq ?_
      refine wp_block ?_
      refine wp_seq ?_
      refine flow_region (dsts := [some 26, some 27, some 28, some 29, some 30, some 31, some 32, some 33, some 34, some 35]) (refs := [[.pre 5], [.pre 1], [.res 0, .res 1], [.res 2], [.res 3], [.res 4, .pre 5], [.res 4, .pre 1], [.res 4, .res 5, .res 6], [.res 4, .res 7], [.res 4, .res 8]]) (outs := [.res 9, .pre 1, .pre 2, .pre 3, .pre 4, .pre 5]) (als := [false, false, false, false, false, false, false, false, false, false]) (posts := [.val (Lit (.string s)), .val (Lit (.int .i64 i)), .val (Lit (.int .u8 ((bytesI s)[i.toNat]?.getD 0))), .val (IsB (decide ((bytesI s)[i.toNat]?.getD 0 < 48))), .val (IsB (decide ((bytesI s)[i.toNat]?.getD 0 < 48))), .val (Grd ((decide ((bytesI s)[i.toNat]?.getD 0 < 48)) == false) (Lit (.string s))), .val (Grd ((decide ((bytesI s)[i.toNat]?.getD 0 < 48)) == false) (Lit (.int .i64 i))), .val (Grd ((decide ((bytesI s)[i.toNat]?.getD 0 < 48)) == false) (Lit (.int .u8 ((bytesI s)[i.toNat]?.getD 0)))), .val (Grd ((decide ((bytesI s)[i.toNat]?.getD 0 < 48)) == false) (IsB (decide (57 < (bytesI s)[i.toNat]?.getD 0)))), .val (IsB ((decide ((bytesI s)[i.toNat]?.getD 0 < 48)) || (decide (57 < (bytesI s)[i.toNat]?.getD 0))))])
        (out := [(35, .val (IsB ((decide ((bytesI s)[i.toNat]?.getD 0 < 48)) || (decide (57 < (bytesI s)[i.toNat]?.getD 0))))), (5, .val (Lit (.int .i64 i))), (4, .val (IsC 0)), (2, .val (IsC 0)), (3, .val (IsB false)), (0, .val (Lit (.string s)))]) (nb := []) H10 10 [] rfl (by kernel_rfl) rfl rfl ?_ ?_
      · refine .cons (.plain rfl (ok_move (.tmp 0 rfl))) ?_
        refine .cons (.plain rfl (ok_move (.tmp 0 rfl))) ?_
        refine .cons (.plain rfl (ok_indexS (n := i.toNat) (c := ((bytesI s)[i.toNat]?.getD 0)) Tryz.underlying9 (.tmp 0 rfl) (.tmp 1 rfl) (by omega) (bytes_at s i.toNat (by omega)))) ?_
        refine .cons (.plain rfl (ok_cmp (.tmp 0 rfl) (.lit) rfl)) ?_
        refine .cons (.plain rfl (ok_move (.tmp 0 rfl))) ?_
        refine .cons (.sym 4 false (decide ((bytesI s)[i.toNat]?.getD 0 < 48)) ((decide ((bytesI s)[i.toNat]?.getD 0 < 48)) == false) rfl rfl rfl 0 (need' := [(30, .val (IsB (decide ((bytesI s)[i.toNat]?.getD 0 < 48)))), (0, .val (Lit (.string s)))]) rfl rfl (fun a w B e h => ⟨h.1, h.2.1, trivial⟩) (fun e => ok_move (.tmp 1 rfl))) ?_
        refine .cons (.sym 4 false (decide ((bytesI s)[i.toNat]?.getD 0 < 48)) ((decide ((bytesI s)[i.toNat]?.getD 0 < 48)) == false) rfl rfl rfl 0 (need' := [(30, .val (IsB (decide ((bytesI s)[i.toNat]?.getD 0 < 48)))), (5, .val (Lit (.int .i64 i)))]) rfl rfl (fun a w B e h => ⟨h.1, h.2.1, trivial⟩) (fun e => ok_move (.tmp 1 rfl))) ?_
        refine .cons (.sym 4 false (decide ((bytesI s)[i.toNat]?.getD 0 < 48)) ((decide ((bytesI s)[i.toNat]?.getD 0 < 48)) == false) rfl rfl rfl 0 (need' := [(30, .val (IsB (decide ((bytesI s)[i.toNat]?.getD 0 < 48)))), (31, .val (Lit (.string s))), (32, .val (Lit (.int .i64 i)))]) rfl rfl (fun a w B e h => ⟨h.1, h.2.1.1 (e), h.2.2.1.1 (e), trivial⟩) (fun e => ok_indexS (n := i.toNat) (c := ((bytesI s)[i.toNat]?.getD 0)) Tryz.underlying9 (.tmp 1 rfl) (.tmp 2 rfl) (by omega) (bytes_at s i.toNat (by omega)))) ?_
        refine .cons (.sym 4 false (decide ((bytesI s)[i.toNat]?.getD 0 < 48)) ((decide ((bytesI s)[i.toNat]?.getD 0 < 48)) == false) rfl rfl rfl 0 (need' := [(30, .val (IsB (decide ((bytesI s)[i.toNat]?.getD 0 < 48)))), (33, .val (Lit (.int .u8 ((bytesI s)[i.toNat]?.getD 0))))]) rfl rfl (fun a w B e h => ⟨h.1, h.2.1.1 (e), trivial⟩) (fun e => ok_cmp (.tmp 1 rfl) (.lit) rfl)) ?_
        refine .cons (.plain rfl (ok_pickS (decide ((bytesI s)[i.toNat]?.getD 0 < 48)) (.tmp 0 rfl) (fun e => Opd.eqB (.lit) (by rw [e]; rfl)) (fun e => Opd.eqB (Opd.grd (.tmp 1 rfl) (by first | (rw [e]; rfl) | (simp only [e]; rfl) | (simp [*] at *; done))) (by rw [e]; rfl)))) ?_
        exact .nil
      clear H10 a10 w10 B10
      intro a12 w12 B12 H12
      refine ops_done ?_
      refine then_normal ?_
      refine f_cond H12 (.tmp 0 rfl) ?_ ?_
      · intro hc13
        have hno : readOk (bytesI s) = false := readOk_not (i := i.toNat) (by rw [bytesI_length]; omega) (by rw [Bool.or_eq_true, decide_eq_true_eq, decide_eq_true_eq] at hc13; exact hc13)
        have n0 := (readNum_no hno).symm
        refine wp_seq ?_
        refine flow_region (dsts := [some 2, some 3]) (refs := [[], []]) (outs := [.res 0, .res 1, .pre 1, .pre 2, .pre 5]) (als := [false, false]) (posts := [.val (IsC 0), .val (IsB false)])
          (out := [(2, .val (IsC 0)), (3, .val (IsB false)), (5, .val (Lit (.int .i64 i))), (4, .val (IsC 0)), (0, .val (Lit (.string s)))]) (nb := []) H12 2 [] rfl (by kernel_rfl) rfl rfl ?_ ?_
        · refine .cons (.plain rfl (ok_assign (.const (fun w B => weakNilM _ w B rfl)))) ?_
          refine .cons (.plain rfl (ok_assign (.lit))) ?_
          exact .nil
        clear H12 a12 w12 B12
        intro a14 w14 B14 H14
        refine ops_done ?_
        refine then_normal ?_
        refine wp_ret ?_
        refine block_ret ?_
        refine then_ret ?_
        refine then_ret ?_
        refine block_ret ?_
        refine then_ret ?_
        exact f_retN H14 rfl rfl (.tmp 0 rfl (fun v w B h => by exact isC_eq (by assumption) h) (.tmp 1 rfl (fun v w B h => by exact isB_eq (by first | assumption | exact Eq.symm (by assumption)) h) (.nil)))
      · intro hc13
        rw [Bool.or_eq_false_iff, decide_eq_false_iff_not, decide_eq_false_iff_not] at hc13
        have dg1 := dgs_step i0 hd hc13.1 hc13.2
        refine wp_skip ?_
        refine block_normal ?_
        refine then_normal ?_
        refine flow_region (dsts := [some 24, some 25]) (refs := [[.pre 1], [.res 0]]) (outs := [.res 1, .pre 1, .pre 2, .pre 3, .pre 4, .pre 5]) (als := [false, false]) (posts := [.val (Lit (.int .i64 i)), .val (Lit (.int .i64 (i + 1)))])
          (out := [(25, .val (Lit (.int .i64 (i + 1)))), (5, .val (Lit (.int .i64 i))), (4, .val (IsC 0)), (2, .val (IsC 0)), (3, .val (IsB false)), (0, .val (Lit (.string s)))]) (nb := []) H12 2 [2] rfl (by kernel_rfl) rfl rfl ?_ ?_
        · refine .cons (.plain rfl (ok_move (.tmp 0 rfl))) ?_
          refine .cons (.plain rfl (ok_add (r := (i + 1)) (.tmp 0 rfl) (.lit) (w_i64 (by omega)))) ?_
          exact .nil
        clear H12 a12 w12 B12
        intro a15 w15 B15 H15
        refine ops_one ?_
        refine tail_op (D := .val (Lit (.int .i64 (i + 1)))) (l' := [(5, .val (Lit (.int .i64 (i + 1)))), (25, .val (Lit (.int .i64 (i + 1)))), (4, .val (IsC 0)), (2, .val (IsC 0)), (3, .val (IsB false)), (0, .val (Lit (.string s)))]) H15 rfl rfl rfl (.plain rfl (ok_assign (.tmp 0 rfl))) rfl rfl ?_
        clear H15 a15 w15 B15
        intro a16 w16 B16 H16
        refine ops_done ?_
        exact ⟨i + 1, B16, by exact ⟨by omega, by omega, dg1⟩, St.pick H16 [0, 2, 3, 4, 5] rfl, by omega⟩
    · intro hc11
      replace hc11 := of_decide_eq_false hc11
      have hi : i = ((bytesI s).length : Int) := by rw [bytesI_length]; omega
      rw [hi] at hd
      have hD := dgs_all hd
      have ne0 : bytesI s ≠ [] := fun e => by have := bytesI_length s; rw [e] at this; simp at this; omega
      refine wp_exit ?_
      refine then_exit ?_
      refine then_exit ?_
      refine block_exit ?_
      refine then_normal ?_
      refine wp_seq ?_
      refine wp_seq ?_
      refine flow_region (dsts := [some 6]) (refs := [[]]) (outs := [.res 0, .pre 1, .pre 2, .pre 3, .pre 4, .pre 5]) (als := [false]) (posts := [.val (Lit (.int .i64 0))])
        (out := [(6, .val (Lit (.int .i64 0))), (5, .val (Lit (.int .i64 i))), (4, .val (IsC 0)), (2, .val (IsC 0)), (3, .val (IsB false)), (0, .val (Lit (.string s)))]) (nb := []) H10 1 [] rfl (by kernel_rfl) rfl rfl ?_ ?_
      · refine .cons (.plain rfl (ok_assign (.lit))) ?_
        exact .nil
      clear H10 a10 w10 B10
      intro a17 w17 B17 H17
      refine ops_done ?_
      refine then_normal ?_
      refine wp_block ?_
      refine f_loop (fun (j : Int) => [(6, .val (Lit (.int .i64 j))), (5, .val (Lit (.int .i64 i))), (4, .val (IsC (readV ((bytesI s).take j.toNat)))), (2, .val (IsC 0)), (3, .val (IsB false)), (0, .val (Lit (.string s)))]) (fun (j : Int) => 0 ≤ j ∧ j ≤ (s.size : Int) ∧ (dg 4294967296 (readV ((bytesI s).take j.toNat))).length ≤ 262144) (fun (j : Int) => ((s.size : Int) - j).toNat) (0) (St.pick H17 [0, 1, 2, 3, 4, 5] rfl) (by exact ⟨by omega, by omega, by show (dg 4294967296 0).length ≤ _; rw [dg_zero]; exact Nat.zero_le _⟩) ?_
      clear H17 a17 w17 B17
      intro j a18 w18 B18 hI18 H18
      replace hI18 : 0 ≤ j ∧ j ≤ (s.size : Int) ∧ (dg 4294967296 (readV ((bytesI s).take j.toNat))).length ≤ 262144 := hI18
      replace H18 : St 56 w0 B0 a18 w18 B18 [(6, .val (Lit (.int .i64 j))), (5, .val (Lit (.int .i64 i))), (4, .val (IsC (readV ((bytesI s).take j.toNat)))), (2, .val (IsC 0)), (3, .val (IsB false)), (0, .val (Lit (.string s)))] [] := H18
      obtain ⟨j0, j1, hl⟩ := hI18
      have hv := readV_nonneg (bytesI s) hD j.toNat
      have hf := fit_nat hv hl
      refine wp_seq ?_
      refine wp_seq ?_
      refine flow_region (dsts := [some 36, some 37, some 38, some 39]) (refs := [[.pre 0], [.pre 5], [.res 1], [.res 0, .res 2]]) (outs := [.res 3, .pre 0, .pre 1, .pre 2, .pre 3, .pre 4, .pre 5]) (als := [false, false, false, false]) (posts := [.val (Lit (.int .i64 j)), .val (Lit (.string s)), .val (Lit (.int .i64 ((s).size : Int))), .val (IsB (decide (j < ((s).size : Int))))])
        (out := [(39, .val (IsB (decide (j < ((s).size : Int))))), (6, .val (Lit (.int .i64 j))), (5, .val (Lit (.int .i64 i))), (4, .val (IsC (readV ((bytesI s).take j.toNat)))), (2, .val (IsC 0)), (3, .val (IsB false)), (0, .val (Lit (.string s)))]) (nb := []) H18 4 [] rfl (by kernel_rfl) rfl rfl ?_ ?_
      · refine .cons (.plain rfl (ok_move (.tmp 0 rfl))) ?_
        refine .cons (.plain rfl (ok_move (.tmp 0 rfl))) ?_
        refine .cons (.plain rfl (ok_lenS Tryz.underlying9 (.tmp 0 rfl))) ?_
        refine .cons (.plain rfl (ok_cmp (.tmp 0 rfl) (.tmp 1 rfl) rfl)) ?_
        exact .nil
      clear H18 a18 w18 B18
      intro a19 w19 B19 H19
      refine ops_done ?_
      refine then_normal ?_
      refine f_cond H19 (.tmp 0 rfl) ?_ ?_
      · intro hc20
        replace hc20 := of_decide_eq_true hc20
        have dgi := hD.get (i := j.toNat) (by rw [bytesI_length]; omega)
        refine wp_skip ?_
        refine then_normal ?_
        refine wp_seq ?_
        refine wp_block ?_
        refine wp_seq ?_
        refine flow_drawT (dsts := [some 42, some 43, some 44, some 45, some 46, some 47, some 48, some 49, some 50, some 51]) (refs := [[.pre 3], [], [.res 0, .res 1], [.pre 6], [.pre 1], [.res 3, .res 4], [.res 5], [.res 6], [.res 7], [.res 2, .res 8]]) (outs := [.res 9, .pre 1, .pre 2, .pre 3, .pre 4, .pre 5, .pre 6]) (als := [false, false, false, false, false, false, false, false, false, false]) (posts := [.val (IsC (readV ((bytesI s).take j.toNat))), .val (IsM 10), .val (IsC ((readV ((bytesI s).take j.toNat)) * 10)), .val (Lit (.string s)), .val (Lit (.int .i64 j)), .val (Lit (.int .u8 ((bytesI s)[j.toNat]?.getD 0))), .val (Lit (.int .u8 (((bytesI s)[j.toNat]?.getD 0) - 48))), .val (Lit (.int .u32 (((bytesI s)[j.toNat]?.getD 0) - 48))), .val (IsM (((bytesI s)[j.toNat]?.getD 0) - 48)), .val (IsC (((readV ((bytesI s).take j.toNat)) * 10) + (((bytesI s)[j.toNat]?.getD 0) - 48)))])
          (out := [(51, .val (IsC (((readV ((bytesI s).take j.toNat)) * 10) + (((bytesI s)[j.toNat]?.getD 0) - 48)))), (6, .val (Lit (.int .i64 j))), (5, .val (Lit (.int .i64 i))), (4, .val (IsC (readV ((bytesI s).take j.toNat)))), (2, .val (IsC 0)), (3, .val (IsB false)), (0, .val (Lit (.string s)))]) (nb := []) H19 (by kernel_rfl) 10 1 #[true, true, true, true, true, true, true, true, true, true, false] (by kernel_rfl) (by kernel_rfl) rfl rfl ?_ ?_
        · refine .cons (.plain rfl (ok_move (.tmp 0 rfl))) ?_
          refine .cons (.plain rfl (ok_nat1 (by omega) (.lit))) ?_
          refine .cons (.plain rfl (ok_call (con_rmul (readV ((bytesI s).take j.toNat)) 10 (((hf.mul (FitK.small (N := 10) (by decide)))).fits (by omega))) (.cons (.weak (.tmp 0 rfl) weakCM) (.cons (.tmp 1 rfl) (.nil))))) ?_
          refine .cons (.plain rfl (ok_move (.tmp 0 rfl))) ?_
          refine .cons (.plain rfl (ok_move (.tmp 0 rfl))) ?_
          refine .cons (.plain rfl (ok_indexS (n := j.toNat) (c := ((bytesI s)[j.toNat]?.getD 0)) Tryz.underlying9 (.tmp 0 rfl) (.tmp 1 rfl) (by omega) (bytes_at s j.toNat (by omega)))) ?_
          refine .cons (.plain rfl (ok_sub (r := (((bytesI s)[j.toNat]?.getD 0) - 48)) (.tmp 0 rfl) (.lit) (w_u8 (by omega)))) ?_
          refine .cons (.plain rfl (ok_conv Tryz.underlying5 Tryz.underlying44 (r := (((bytesI s)[j.toNat]?.getD 0) - 48)) (.tmp 0 rfl) (w_u32 (by omega)))) ?_
          refine .cons (.plain rfl (ok_nat1 (by omega) (.tmp 0 rfl))) ?_
          refine .cons (.plain rfl (ok_call (con_radd ((readV ((bytesI s).take j.toNat)) * 10) (((bytesI s)[j.toNat]?.getD 0) - 48) ((((hf.mul (FitK.small (N := 10) (by decide))).add (FitK.small (N := ((bytesI s)[j.toNat]?.getD 0) - 48) (by omega)))).fits (by omega))) (.cons (.weak (.tmp 0 rfl) weakCM) (.cons (.tmp 1 rfl) (.nil))))) ?_
          exact .nil
        clear H19 a19 w19 B19
        intro a21 w21 B21 H21
        refine any_oneT (l' := #[true, true, true, true, true, true, true, true, true, true, true]) 10 (by kernel_rfl) ?_
        refine tail_op (D := .val (IsC (((readV ((bytesI s).take j.toNat)) * 10) + (((bytesI s)[j.toNat]?.getD 0) - 48)))) (l' := [(4, .val (IsC (((readV ((bytesI s).take j.toNat)) * 10) + (((bytesI s)[j.toNat]?.getD 0) - 48)))), (51, .val (IsC (((readV ((bytesI s).take j.toNat)) * 10) + (((bytesI s)[j.toNat]?.getD 0) - 48)))), (6, .val (Lit (.int .i64 j))), (5, .val (Lit (.int .i64 i))), (2, .val (IsC 0)), (3, .val (IsB false)), (0, .val (Lit (.string s)))]) H21 rfl rfl rfl (.plain rfl (ok_assign (.tmp 0 rfl))) rfl rfl ?_
        clear H21 a21 w21 B21
        intro a22 w22 B22 H22
        refine any_done (by kernel_rfl) ?_
        refine then_normal ?_
        refine wp_seq ?_
        have H23 := St.set1 H22 0 (D' := IsC (readV ((bytesI s).take (j + 1).toNat))) rfl (fun v w B h => isC_eq (readV_one j0 (by rw [bytesI_length]; omega)) h) (l' := [(4, .val (IsC (readV ((bytesI s).take (j + 1).toNat)))), (51, .val (IsC (((readV ((bytesI s).take j.toNat)) * 10) + (((bytesI s)[j.toNat]?.getD 0) - 48)))), (6, .val (Lit (.int .i64 j))), (5, .val (Lit (.int .i64 i))), (2, .val (IsC 0)), (3, .val (IsB false)), (0, .val (Lit (.string s)))]) rfl
        clear H22
        refine flow_region (dsts := [some 52, some 53, some 54]) (refs := [[.pre 0], [.res 0], [.res 1]]) (outs := [.res 2, .pre 0, .pre 2, .pre 3, .pre 4, .pre 5, .pre 6]) (als := [false, false, false]) (posts := [.val (IsC (readV ((bytesI s).take (j + 1).toNat))), .val (Lit (.int .i64 ((dg 4294967296 (readV ((bytesI s).take (j + 1).toNat))).length : Int))), .val (IsB (decide (262144 < ((dg 4294967296 (readV ((bytesI s).take (j + 1).toNat))).length : Int))))])
          (out := [(54, .val (IsB (decide (262144 < ((dg 4294967296 (readV ((bytesI s).take (j + 1).toNat))).length : Int))))), (4, .val (IsC (readV ((bytesI s).take (j + 1).toNat)))), (6, .val (Lit (.int .i64 j))), (5, .val (Lit (.int .i64 i))), (2, .val (IsC 0)), (3, .val (IsB false)), (0, .val (Lit (.string s)))]) (nb := []) H23 3 [] rfl (by kernel_rfl) rfl rfl ?_ ?_
        · refine .cons (.plain rfl (ok_move (.tmp 0 rfl))) ?_
          refine .cons (.plain rfl (ok_lenC (.tmp 0 rfl))) ?_
          refine .cons (.plain rfl (ok_cmp (.tmp 0 rfl) (.lit) rfl)) ?_
          exact .nil
        clear H23 a22 w22 B22
        intro a24 w24 B24 H24
        refine ops_done ?_
        refine then_normal ?_
        refine f_cond H24 (.tmp 0 rfl) ?_ ?_
        · intro hc25
          replace hc25 := of_decide_eq_true hc25
          have hno := readOk_long hD _ hc25
          have n0 := (readNum_no hno).symm
          refine wp_seq ?_
          refine flow_region (dsts := [some 2, some 3]) (refs := [[], []]) (outs := [.res 0, .res 1, .pre 1, .pre 2, .pre 3, .pre 6]) (als := [false, false]) (posts := [.val (IsC 0), .val (IsB false)])
            (out := [(2, .val (IsC 0)), (3, .val (IsB false)), (4, .val (IsC (readV ((bytesI s).take (j + 1).toNat)))), (6, .val (Lit (.int .i64 j))), (5, .val (Lit (.int .i64 i))), (0, .val (Lit (.string s)))]) (nb := []) H24 2 [] rfl (by kernel_rfl) rfl rfl ?_ ?_
          · refine .cons (.plain rfl (ok_assign (.const (fun w B => weakNilM _ w B rfl)))) ?_
            refine .cons (.plain rfl (ok_assign (.lit))) ?_
            exact .nil
          clear H24 a24 w24 B24
          intro a26 w26 B26 H26
          refine ops_done ?_
          refine then_normal ?_
          refine wp_ret ?_
          refine block_ret ?_
          refine then_ret ?_
          refine then_ret ?_
          refine block_ret ?_
          refine then_ret ?_
          exact f_retN H26 rfl rfl (.tmp 0 rfl (fun v w B h => by exact isC_eq (by assumption) h) (.tmp 1 rfl (fun v w B h => by exact isB_eq (by first | assumption | exact Eq.symm (by assumption)) h) (.nil)))
        · intro hc25
          replace hc25 := of_decide_eq_false hc25
          refine wp_skip ?_
          refine block_normal ?_
          refine then_normal ?_
          refine flow_region (dsts := [some 40, some 41]) (refs := [[.pre 2], [.res 0]]) (outs := [.res 1, .pre 1, .pre 2, .pre 3, .pre 4, .pre 5, .pre 6]) (als := [false, false]) (posts := [.val (Lit (.int .i64 j)), .val (Lit (.int .i64 (j + 1)))])
            (out := [(41, .val (Lit (.int .i64 (j + 1)))), (4, .val (IsC (readV ((bytesI s).take (j + 1).toNat)))), (6, .val (Lit (.int .i64 j))), (5, .val (Lit (.int .i64 i))), (2, .val (IsC 0)), (3, .val (IsB false)), (0, .val (Lit (.string s)))]) (nb := []) H24 2 [2] rfl (by kernel_rfl) rfl rfl ?_ ?_
          · refine .cons (.plain rfl (ok_move (.tmp 0 rfl))) ?_
            refine .cons (.plain rfl (ok_add (r := (j + 1)) (.tmp 0 rfl) (.lit) (w_i64 (by omega)))) ?_
            exact .nil
          clear H24 a24 w24 B24
          intro a27 w27 B27 H27
          refine ops_one ?_
          refine tail_op (D := .val (Lit (.int .i64 (j + 1)))) (l' := [(6, .val (Lit (.int .i64 (j + 1)))), (41, .val (Lit (.int .i64 (j + 1)))), (4, .val (IsC (readV ((bytesI s).take (j + 1).toNat)))), (5, .val (Lit (.int .i64 i))), (2, .val (IsC 0)), (3, .val (IsB false)), (0, .val (Lit (.string s)))]) H27 rfl rfl rfl (.plain rfl (ok_assign (.tmp 0 rfl))) rfl rfl ?_
          clear H27 a27 w27 B27
          intro a28 w28 B28 H28
          refine ops_done ?_
          exact ⟨j + 1, B28, by exact ⟨by omega, by omega, by omega⟩, St.pick H28 [0, 3, 2, 4, 5, 6] rfl, by omega⟩
      · intro hc20
        replace hc20 := of_decide_eq_false hc20
        have hj : j = ((bytesI s).length : Int) := by rw [bytesI_length]; omega
        have hyes := readOk_yes hD ne0 lead (by rw [hj, Int.toNat_natCast, List.take_length] at hl; exact hl)
        have nyes : readV ((bytesI s).take j.toNat) = readNum (bytesI s) := by rw [hj, Int.toNat_natCast, List.take_length]; exact (readNum_yes hyes).symm
        refine wp_exit ?_
        refine then_exit ?_
        refine then_exit ?_
        refine block_exit ?_
        refine then_normal ?_
        refine wp_seq ?_
        refine flow_region (dsts := [some 55, some 2, some 3]) (refs := [[.pre 3], [.res 0], []]) (outs := [.res 1, .res 2, .pre 1, .pre 2, .pre 3, .pre 6]) (als := [false, false, false]) (posts := [.val (IsC (readV ((bytesI s).take j.toNat))), .val (IsC (readV ((bytesI s).take j.toNat))), .val (IsB true)])
          (out := [(2, .val (IsC (readV ((bytesI s).take j.toNat)))), (3, .val (IsB true)), (6, .val (Lit (.int .i64 j))), (5, .val (Lit (.int .i64 i))), (4, .val (IsC (readV ((bytesI s).take j.toNat)))), (0, .val (Lit (.string s)))]) (nb := []) H19 3 [] rfl (by kernel_rfl) rfl rfl ?_ ?_
        · refine .cons (.plain rfl (ok_move (.tmp 0 rfl))) ?_
          refine .cons (.plain rfl (ok_assign (.tmp 0 rfl))) ?_
          refine .cons (.plain rfl (ok_assign (.lit))) ?_
          exact .nil
        clear H19 a19 w19 B19
        intro a29 w29 B29 H29
        refine ops_done ?_
        refine then_normal ?_
        refine wp_ret ?_
        exact f_retN H29 rfl rfl (.tmp 0 rfl (fun v w B h => by exact isC_eq (by assumption) h) (.tmp 1 rfl (fun v w B h => by exact isB_eq (by first | assumption | exact Eq.symm (by assumption)) h) (.nil)))
  · have lead : (bytesI s)[0]?.getD 0 = 48 → (bytesI s).length = 1 := fun h => absurd h c1
    refine flow_region (dsts := [some 7, some 8, some 9, some 10, some 11, some 12, some 13, some 14, some 15, some 16, some 17, some 18, some 19]) (refs := [[.pre 2], [.res 0], [.res 1], [.res 2], [.res 3, .pre 2], [.res 3, .res 4], [.res 3, .res 5], [.res 3, .res 6], [.res 7], [.res 7], [.res 7], [.res 3, .res 7], [.res 3, .res 11]]) (outs := [.res 12, .pre 0, .pre 1, .pre 2]) (als := [false, false, false, false, false, false, false, false, false, false, false, false, false]) (posts := [.val (Lit (.string s)), .val (Lit (.int .i64 ((s).size : Int))), .val (IsB false), .val (IsB false), .val (Lit (.string s)), .val (Lit (.int .u8 ((bytesI s)[0]?.getD 0))), .val (IsB false), .val (IsB false), .val (IsUndef), .val (IsUndef), .val (IsUndef), .val (IsB false), .val (IsB false)])
      (out := [(19, .val (IsB false)), (2, .val (IsC 0)), (3, .val (IsB false)), (0, .val (Lit (.string s)))]) (nb := []) H1 13 [] rfl (by kernel_rfl) rfl rfl ?_ ?_
    · refine .cons (.plain rfl (ok_move (.tmp 0 rfl))) ?_
      refine .cons (.plain rfl (ok_lenS Tryz.underlying9 (.tmp 0 rfl))) ?_
      refine .cons (.plain rfl (ok_cmp (b := false) (.tmp 0 rfl) (.lit) ((decide_eq_false (c0)).symm))) ?_
      refine .cons (.plain rfl (ok_move (.tmp 0 rfl))) ?_
      refine .cons (.wanted 3 false rfl rfl rfl 0 rfl (ok_move (.tmp 1 rfl))) ?_
      refine .cons (.wanted 3 false rfl rfl rfl 0 rfl (ok_indexS (n := 0) (c := ((bytesI s)[0]?.getD 0)) Tryz.underlying9 (.tmp 1 rfl) (.lit) (rfl) (bytes_at s 0 (by omega)))) ?_
      refine .cons (.wanted 3 false rfl rfl rfl 0 rfl (ok_cmp (b := false) (.tmp 1 rfl) (.lit) ((decide_eq_false (c1)).symm))) ?_
      refine .cons (.wanted 3 false rfl rfl rfl 0 rfl (ok_move (.tmp 1 rfl))) ?_
      refine .cons (.unwanted 7 true rfl rfl rfl 0 rfl) ?_
      refine .cons (.unwanted 7 true rfl rfl rfl 0 rfl) ?_
      refine .cons (.unwanted 7 true rfl rfl rfl 0 rfl) ?_
      refine .cons (.wanted 3 false rfl rfl rfl 0 rfl (ok_pickF (.tmp 1 rfl) (.lit))) ?_
      refine .cons (.plain rfl (ok_pickF (.tmp 0 rfl) (.tmp 1 rfl))) ?_
      exact .nil
    clear H1 a1 w1 B1
    intro a30 w30 B30 H30
    refine ops_done ?_
    refine then_normal ?_
    refine f_condF H30 (.tmp 0 rfl) ?_
    refine wp_skip ?_
    refine then_normal ?_
    refine wp_seq ?_
    refine flow_region (dsts := [some 4]) (refs := [[]]) (outs := [.res 0, .pre 1, .pre 2, .pre 3]) (als := [false]) (posts := [.val (IsC 0)])
      (out := [(4, .val (IsC 0)), (2, .val (IsC 0)), (3, .val (IsB false)), (0, .val (Lit (.string s)))]) (nb := []) H30 1 [] rfl (by kernel_rfl) rfl rfl ?_ ?_
    · refine .cons (.plain rfl (ok_assign (.const (fun w B => weakNilM _ w B rfl)))) ?_
      exact .nil
    clear H30 a30 w30 B30
    intro a31 w31 B31 H31
    refine ops_done ?_
    refine then_normal ?_
    refine wp_seq ?_
    refine wp_seq ?_
    refine flow_region (dsts := [some 5]) (refs := [[]]) (outs := [.res 0, .pre 0, .pre 1, .pre 2, .pre 3]) (als := [false]) (posts := [.val (Lit (.int .i64 0))])
      (out := [(5, .val (Lit (.int .i64 0))), (4, .val (IsC 0)), (2, .val (IsC 0)), (3, .val (IsB false)), (0, .val (Lit (.string s)))]) (nb := []) H31 1 [] rfl (by kernel_rfl) rfl rfl ?_ ?_
    · refine .cons (.plain rfl (ok_assign (.lit))) ?_
      exact .nil
    clear H31 a31 w31 B31
    intro a32 w32 B32 H32
    refine ops_done ?_
    refine then_normal ?_
    refine wp_block ?_
    refine f_loop (fun (i : Int) => [(5, .val (Lit (.int .i64 i))), (4, .val (IsC 0)), (2, .val (IsC 0)), (3, .val (IsB false)), (0, .val (Lit (.string s)))]) (fun (i : Int) => 0 ≤ i ∧ i ≤ (s.size : Int) ∧ Dgs (bytesI s) i) (fun (i : Int) => ((s.size : Int) - i).toNat) (0) (St.pick H32 [0, 1, 2, 3, 4] rfl) (by exact ⟨by omega, by omega, dgs_zero _⟩) ?_
    clear H32 a32 w32 B32
    intro i a33 w33 B33 hI33 H33
    replace hI33 : 0 ≤ i ∧ i ≤ (s.size : Int) ∧ Dgs (bytesI s) i := hI33
    replace H33 : St 56 w0 B0 a33 w33 B33 [(5, .val (Lit (.int .i64 i))), (4, .val (IsC 0)), (2, .val (IsC 0)), (3, .val (IsB false)), (0, .val (Lit (.string s)))] [] := H33
    obtain ⟨i0, i1, hd⟩ := hI33
    refine wp_seq ?_
    refine wp_seq ?_
    refine flow_region (dsts := [some 20, some 21, some 22, some 23]) (refs := [[.pre 0], [.pre 4], [.res 1], [.res 0, .res 2]]) (outs := [.res 3, .pre 0, .pre 1, .pre 2, .pre 3, .pre 4]) (als := [false, false, false, false]) (posts := [.val (Lit (.int .i64 i)), .val (Lit (.string s)), .val (Lit (.int .i64 ((s).size : Int))), .val (IsB (decide (i < ((s).size : Int))))])
      (out := [(23, .val (IsB (decide (i < ((s).size : Int))))), (5, .val (Lit (.int .i64 i))), (4, .val (IsC 0)), (2, .val (IsC 0)), (3, .val (IsB false)), (0, .val (Lit (.string s)))]) (nb := []) H33 4 [] rfl (by kernel_rfl) rfl rfl ?_ ?_
    · refine .cons (.plain rfl (ok_move (.tmp 0 rfl))) ?_
      refine .cons (.plain rfl (ok_move (.tmp 0 rfl))) ?_
      refine .cons (.plain rfl (ok_lenS Tryz.underlying9 (.tmp 0 rfl))) ?_
      refine .cons (.plain rfl (ok_cmp (.tmp 0 rfl) (.tmp 1 rfl) rfl)) ?_
      exact .nil
    clear H33 a33 w33 B33
    intro a34 w34 B34 H34
    refine ops_done ?_
    refine then_normal ?_
    refine f_cond H34 (.tmp 0 rfl) ?_ ?_
    · intro hc35
      replace hc35 := of_decide_eq_true hc35
      refine wp_skip ?_
      refine then_normal ?_
      refine wp_seq ?_
      refine wp_block ?_
      refine wp_seq ?_
      refine flow_region (dsts := [some 26, some 27, some 28, some 29, some 30, some 31, some 32, some 33, some 34, some 35]) (refs := [[.pre 5], [.pre 1], [.res 0, .res 1], [.res 2], [.res 3], [.res 4, .pre 5], [.res 4, .pre 1], [.res 4, .res 5, .res 6], [.res 4, .res 7], [.res 4, .res 8]]) (outs := [.res 9, .pre 1, .pre 2, .pre 3, .pre 4, .pre 5]) (als := [false, false, false, false, false, false, false, false, false, false]) (posts := [.val (Lit (.string s)), .val (Lit (.int .i64 i)), .val (Lit (.int .u8 ((bytesI s)[i.toNat]?.getD 0))), .val (IsB (decide ((bytesI s)[i.toNat]?.getD 0 < 48))), .val (IsB (decide ((bytesI s)[i.toNat]?.getD 0 < 48))), .val (Grd ((decide ((bytesI s)[i.toNat]?.getD 0 < 48)) == false) (Lit (.string s))), .val (Grd ((decide ((bytesI s)[i.toNat]?.getD 0 < 48)) == false) (Lit (.int .i64 i))), .val (Grd ((decide ((bytesI s)[i.toNat]?.getD 0 < 48)) == false) (Lit (.int .u8 ((bytesI s)[i.toNat]?.getD 0)))), .val (Grd ((decide ((bytesI s)[i.toNat]?.getD 0 < 48)) == false) (IsB (decide (57 < (bytesI s)[i.toNat]?.getD 0)))), .val (IsB ((decide ((bytesI s)[i.toNat]?.getD 0 < 48)) || (decide (57 < (bytesI s)[i.toNat]?.getD 0))))])
        (out := [(35, .val (IsB ((decide ((bytesI s)[i.toNat]?.getD 0 < 48)) || (decide (57 < (bytesI s)[i.toNat]?.getD 0))))), (5, .val (Lit (.int .i64 i))), (4, .val (IsC 0)), (2, .val (IsC 0)), (3, .val (IsB false)), (0, .val (Lit (.string s)))]) (nb := []) H34 10 [] rfl (by kernel_rfl) rfl rfl ?_ ?_
      · refine .cons (.plain rfl (ok_move (.tmp 0 rfl))) ?_
        refine .cons (.plain rfl (ok_move (.tmp 0 rfl))) ?_
        refine .cons (.plain rfl (ok_indexS (n := i.toNat) (c := ((bytesI s)[i.toNat]?.getD 0)) Tryz.underlying9 (.tmp 0 rfl) (.tmp 1 rfl) (by omega) (bytes_at s i.toNat (by omega)))) ?_
        refine .cons (.plain rfl (ok_cmp (.tmp 0 rfl) (.lit) rfl)) ?_
        refine .cons (.plain rfl (ok_move (.tmp 0 rfl))) ?_
        refine .cons (.sym 4 false (decide ((bytesI s)[i.toNat]?.getD 0 < 48)) ((decide ((bytesI s)[i.toNat]?.getD 0 < 48)) == false) rfl rfl rfl 0 (need' := [(30, .val (IsB (decide ((bytesI s)[i.toNat]?.getD 0 < 48)))), (0, .val (Lit (.string s)))]) rfl rfl (fun a w B e h => ⟨h.1, h.2.1, trivial⟩) (fun e => ok_move (.tmp 1 rfl))) ?_
        refine .cons (.sym 4 false (decide ((bytesI s)[i.toNat]?.getD 0 < 48)) ((decide ((bytesI s)[i.toNat]?.getD 0 < 48)) == false) rfl rfl rfl 0 (need' := [(30, .val (IsB (decide ((bytesI s)[i.toNat]?.getD 0 < 48)))), (5, .val (Lit (.int .i64 i)))]) rfl rfl (fun a w B e h => ⟨h.1, h.2.1, trivial⟩) (fun e => ok_move (.tmp 1 rfl))) ?_
        refine .cons (.sym 4 false (decide ((bytesI s)[i.toNat]?.getD 0 < 48)) ((decide ((bytesI s)[i.toNat]?.getD 0 < 48)) == false) rfl rfl rfl 0 (need' := [(30, .val (IsB (decide ((bytesI s)[i.toNat]?.getD 0 < 48)))), (31, .val (Lit (.string s))), (32, .val (Lit (.int .i64 i)))]) rfl rfl (fun a w B e h => ⟨h.1, h.2.1.1 (e), h.2.2.1.1 (e), trivial⟩) (fun e => ok_indexS (n := i.toNat) (c := ((bytesI s)[i.toNat]?.getD 0)) Tryz.underlying9 (.tmp 1 rfl) (.tmp 2 rfl) (by omega) (bytes_at s i.toNat (by omega)))) ?_
        refine .cons (.sym 4 false (decide ((bytesI s)[i.toNat]?.getD 0 < 48)) ((decide ((bytesI s)[i.toNat]?.getD 0 < 48)) == false) rfl rfl rfl 0 (need' := [(30, .val (IsB (decide ((bytesI s)[i.toNat]?.getD 0 < 48)))), (33, .val (Lit (.int .u8 ((bytesI s)[i.toNat]?.getD 0))))]) rfl rfl (fun a w B e h => ⟨h.1, h.2.1.1 (e), trivial⟩) (fun e => ok_cmp (.tmp 1 rfl) (.lit) rfl)) ?_
        refine .cons (.plain rfl (ok_pickS (decide ((bytesI s)[i.toNat]?.getD 0 < 48)) (.tmp 0 rfl) (fun e => Opd.eqB (.lit) (by rw [e]; rfl)) (fun e => Opd.eqB (Opd.grd (.tmp 1 rfl) (by first | (rw [e]; rfl) | (simp only [e]; rfl) | (simp [*] at *; done))) (by rw [e]; rfl)))) ?_
        exact .nil
      clear H34 a34 w34 B34
      intro a36 w36 B36 H36
      refine ops_done ?_
      refine then_normal ?_
      refine f_cond H36 (.tmp 0 rfl) ?_ ?_
      · intro hc37
        have hno : readOk (bytesI s) = false := readOk_not (i := i.toNat) (by rw [bytesI_length]; omega) (by rw [Bool.or_eq_true, decide_eq_true_eq, decide_eq_true_eq] at hc37; exact hc37)
        have n0 := (readNum_no hno).symm
        refine wp_seq ?_
        refine flow_region (dsts := [some 2, some 3]) (refs := [[], []]) (outs := [.res 0, .res 1, .pre 1, .pre 2, .pre 5]) (als := [false, false]) (posts := [.val (IsC 0), .val (IsB false)])
          (out := [(2, .val (IsC 0)), (3, .val (IsB false)), (5, .val (Lit (.int .i64 i))), (4, .val (IsC 0)), (0, .val (Lit (.string s)))]) (nb := []) H36 2 [] rfl (by kernel_rfl) rfl rfl ?_ ?_
        · refine .cons (.plain rfl (ok_assign (.const (fun w B => weakNilM _ w B rfl)))) ?_
          refine .cons (.plain rfl (ok_assign (.lit))) ?_
          exact .nil
        clear H36 a36 w36 B36
        intro a38 w38 B38 H38
        refine ops_done ?_
        refine then_normal ?_
        refine wp_ret ?_
        refine block_ret ?_
        refine then_ret ?_
        refine then_ret ?_
        refine block_ret ?_
        refine then_ret ?_
        exact f_retN H38 rfl rfl (.tmp 0 rfl (fun v w B h => by exact isC_eq (by assumption) h) (.tmp 1 rfl (fun v w B h => by exact isB_eq (by first | assumption | exact Eq.symm (by assumption)) h) (.nil)))
      · intro hc37
        rw [Bool.or_eq_false_iff, decide_eq_false_iff_not, decide_eq_false_iff_not] at hc37
        have dg1 := dgs_step i0 hd hc37.1 hc37.2
        refine wp_skip ?_
        refine block_normal ?_
        refine then_normal ?_
        refine flow_region (dsts := [some 24, some 25]) (refs := [[.pre 1], [.res 0]]) (outs := [.res 1, .pre 1, .pre 2, .pre 3, .pre 4, .pre 5]) (als := [false, false]) (posts := [.val (Lit (.int .i64 i)), .val (Lit (.int .i64 (i + 1)))])
          (out := [(25, .val (Lit (.int .i64 (i + 1)))), (5, .val (Lit (.int .i64 i))), (4, .val (IsC 0)), (2, .val (IsC 0)), (3, .val (IsB false)), (0, .val (Lit (.string s)))]) (nb := []) H36 2 [2] rfl (by kernel_rfl) rfl rfl ?_ ?_
        · refine .cons (.plain rfl (ok_move (.tmp 0 rfl))) ?_
          refine .cons (.plain rfl (ok_add (r := (i + 1)) (.tmp 0 rfl) (.lit) (w_i64 (by omega)))) ?_
          exact .nil
        clear H36 a36 w36 B36
        intro a39 w39 B39 H39
        refine ops_one ?_
        refine tail_op (D := .val (Lit (.int .i64 (i + 1)))) (l' := [(5, .val (Lit (.int .i64 (i + 1)))), (25, .val (Lit (.int .i64 (i + 1)))), (4, .val (IsC 0)), (2, .val (IsC 0)), (3, .val (IsB false)), (0, .val (Lit (.string s)))]) H39 rfl rfl rfl (.plain rfl (ok_assign (.tmp 0 rfl))) rfl rfl ?_
        clear H39 a39 w39 B39
        intro a40 w40 B40 H40
        refine ops_done ?_
        exact ⟨i + 1, B40, by exact ⟨by omega, by omega, dg1⟩, St.pick H40 [0, 2, 3, 4, 5] rfl, by omega⟩
    · intro hc35
      replace hc35 := of_decide_eq_false hc35
      have hi : i = ((bytesI s).length : Int) := by rw [bytesI_length]; omega
      rw [hi] at hd
      have hD := dgs_all hd
      have ne0 : bytesI s ≠ [] := fun e => by have := bytesI_length s; rw [e] at this; simp at this; omega
      refine wp_exit ?_
      refine then_exit ?_
      refine then_exit ?_
      refine block_exit ?_
      refine then_normal ?_
      refine wp_seq ?_
      refine wp_seq ?_
      refine flow_region (dsts := [some 6]) (refs := [[]]) (outs := [.res 0, .pre 1, .pre 2, .pre 3, .pre 4, .pre 5]) (als := [false]) (posts := [.val (Lit (.int .i64 0))])
        (out := [(6, .val (Lit (.int .i64 0))), (5, .val (Lit (.int .i64 i))), (4, .val (IsC 0)), (2, .val (IsC 0)), (3, .val (IsB false)), (0, .val (Lit (.string s)))]) (nb := []) H34 1 [] rfl (by kernel_rfl) rfl rfl ?_ ?_
      · refine .cons (.plain rfl (ok_assign (.lit))) ?_
        exact .nil
      clear H34 a34 w34 B34
      intro a41 w41 B41 H41
      refine ops_done ?_
      refine then_normal ?_
      refine wp_block ?_
      refine f_loop (fun (j : Int) => [(6, .val (Lit (.int .i64 j))), (5, .val (Lit (.int .i64 i))), (4, .val (IsC (readV ((bytesI s).take j.toNat)))), (2, .val (IsC 0)), (3, .val (IsB false)), (0, .val (Lit (.string s)))]) (fun (j : Int) => 0 ≤ j ∧ j ≤ (s.size : Int) ∧ (dg 4294967296 (readV ((bytesI s).take j.toNat))).length ≤ 262144) (fun (j : Int) => ((s.size : Int) - j).toNat) (0) (St.pick H41 [0, 1, 2, 3, 4, 5] rfl) (by exact ⟨by omega, by omega, by show (dg 4294967296 0).length ≤ _; rw [dg_zero]; exact Nat.zero_le _⟩) ?_
      clear H41 a41 w41 B41
      intro j a42 w42 B42 hI42 H42
      replace hI42 : 0 ≤ j ∧ j ≤ (s.size : Int) ∧ (dg 4294967296 (readV ((bytesI s).take j.toNat))).length ≤ 262144 := hI42
      replace H42 : St 56 w0 B0 a42 w42 B42 [(6, .val (Lit (.int .i64 j))), (5, .val (Lit (.int .i64 i))), (4, .val (IsC (readV ((bytesI s).take j.toNat)))), (2, .val (IsC 0)), (3, .val (IsB false)), (0, .val (Lit (.string s)))] [] := H42
      obtain ⟨j0, j1, hl⟩ := hI42
      have hv := readV_nonneg (bytesI s) hD j.toNat
      have hf := fit_nat hv hl
      refine wp_seq ?_
      refine wp_seq ?_
      refine flow_region (dsts := [some 36, some 37, some 38, some 39]) (refs := [[.pre 0], [.pre 5], [.res 1], [.res 0, .res 2]]) (outs := [.res 3, .pre 0, .pre 1, .pre 2, .pre 3, .pre 4, .pre 5]) (als := [false, false, false, false]) (posts := [.val (Lit (.int .i64 j)), .val (Lit (.string s)), .val (Lit (.int .i64 ((s).size : Int))), .val (IsB (decide (j < ((s).size : Int))))])
        (out := [(39, .val (IsB (decide (j < ((s).size : Int))))), (6, .val (Lit (.int .i64 j))), (5, .val (Lit (.int .i64 i))), (4, .val (IsC (readV ((bytesI s).take j.toNat)))), (2, .val (IsC 0)), (3, .val (IsB false)), (0, .val (Lit (.string s)))]) (nb := []) H42 4 [] rfl (by kernel_rfl) rfl rfl ?_ ?_
      · refine .cons (.plain rfl (ok_move (.tmp 0 rfl))) ?_
        refine .cons (.plain rfl (ok_move (.tmp 0 rfl))) ?_
        refine .cons (.plain rfl (ok_lenS Tryz.underlying9 (.tmp 0 rfl))) ?_
        refine .cons (.plain rfl (ok_cmp (.tmp 0 rfl) (.tmp 1 rfl) rfl)) ?_
        exact .nil
      clear H42 a42 w42 B42
      intro a43 w43 B43 H43
      refine ops_done ?_
      refine then_normal ?_
      refine f_cond H43 (.tmp 0 rfl) ?_ ?_
      · intro hc44
        replace hc44 := of_decide_eq_true hc44
        have dgi := hD.get (i := j.toNat) (by rw [bytesI_length]; omega)
        refine wp_skip ?_
        refine then_normal ?_
        refine wp_seq ?_
        refine wp_block ?_
        refine wp_seq ?_
        refine flow_drawT (dsts := [some 42, some 43, some 44, some 45, some 46, some 47, some 48, some 49, some 50, some 51]) (refs := [[.pre 3], [], [.res 0, .res 1], [.pre 6], [.pre 1], [.res 3, .res 4], [.res 5], [.res 6], [.res 7], [.res 2, .res 8]]) (outs := [.res 9, .pre 1, .pre 2, .pre 3, .pre 4, .pre 5, .pre 6]) (als := [false, false, false, false, false, false, false, false, false, false]) (posts := [.val (IsC (readV ((bytesI s).take j.toNat))), .val (IsM 10), .val (IsC ((readV ((bytesI s).take j.toNat)) * 10)), .val (Lit (.string s)), .val (Lit (.int .i64 j)), .val (Lit (.int .u8 ((bytesI s)[j.toNat]?.getD 0))), .val (Lit (.int .u8 (((bytesI s)[j.toNat]?.getD 0) - 48))), .val (Lit (.int .u32 (((bytesI s)[j.toNat]?.getD 0) - 48))), .val (IsM (((bytesI s)[j.toNat]?.getD 0) - 48)), .val (IsC (((readV ((bytesI s).take j.toNat)) * 10) + (((bytesI s)[j.toNat]?.getD 0) - 48)))])
          (out := [(51, .val (IsC (((readV ((bytesI s).take j.toNat)) * 10) + (((bytesI s)[j.toNat]?.getD 0) - 48)))), (6, .val (Lit (.int .i64 j))), (5, .val (Lit (.int .i64 i))), (4, .val (IsC (readV ((bytesI s).take j.toNat)))), (2, .val (IsC 0)), (3, .val (IsB false)), (0, .val (Lit (.string s)))]) (nb := []) H43 (by kernel_rfl) 10 1 #[true, true, true, true, true, true, true, true, true, true, false] (by kernel_rfl) (by kernel_rfl) rfl rfl ?_ ?_
        · refine .cons (.plain rfl (ok_move (.tmp 0 rfl))) ?_
          refine .cons (.plain rfl (ok_nat1 (by omega) (.lit))) ?_
          refine .cons (.plain rfl (ok_call (con_rmul (readV ((bytesI s).take j.toNat)) 10 (((hf.mul (FitK.small (N := 10) (by decide)))).fits (by omega))) (.cons (.weak (.tmp 0 rfl) weakCM) (.cons (.tmp 1 rfl) (.nil))))) ?_
          refine .cons (.plain rfl (ok_move (.tmp 0 rfl))) ?_
          refine .cons (.plain rfl (ok_move (.tmp 0 rfl))) ?_
          refine .cons (.plain rfl (ok_indexS (n := j.toNat) (c := ((bytesI s)[j.toNat]?.getD 0)) Tryz.underlying9 (.tmp 0 rfl) (.tmp 1 rfl) (by omega) (bytes_at s j.toNat (by omega)))) ?_
          refine .cons (.plain rfl (ok_sub (r := (((bytesI s)[j.toNat]?.getD 0) - 48)) (.tmp 0 rfl) (.lit) (w_u8 (by omega)))) ?_
          refine .cons (.plain rfl (ok_conv Tryz.underlying5 Tryz.underlying44 (r := (((bytesI s)[j.toNat]?.getD 0) - 48)) (.tmp 0 rfl) (w_u32 (by omega)))) ?_
          refine .cons (.plain rfl (ok_nat1 (by omega) (.tmp 0 rfl))) ?_
          refine .cons (.plain rfl (ok_call (con_radd ((readV ((bytesI s).take j.toNat)) * 10) (((bytesI s)[j.toNat]?.getD 0) - 48) ((((hf.mul (FitK.small (N := 10) (by decide))).add (FitK.small (N := ((bytesI s)[j.toNat]?.getD 0) - 48) (by omega)))).fits (by omega))) (.cons (.weak (.tmp 0 rfl) weakCM) (.cons (.tmp 1 rfl) (.nil))))) ?_
          exact .nil
        clear H43 a43 w43 B43
        intro a45 w45 B45 H45
        refine any_oneT (l' := #[true, true, true, true, true, true, true, true, true, true, true]) 10 (by kernel_rfl) ?_
        refine tail_op (D := .val (IsC (((readV ((bytesI s).take j.toNat)) * 10) + (((bytesI s)[j.toNat]?.getD 0) - 48)))) (l' := [(4, .val (IsC (((readV ((bytesI s).take j.toNat)) * 10) + (((bytesI s)[j.toNat]?.getD 0) - 48)))), (51, .val (IsC (((readV ((bytesI s).take j.toNat)) * 10) + (((bytesI s)[j.toNat]?.getD 0) - 48)))), (6, .val (Lit (.int .i64 j))), (5, .val (Lit (.int .i64 i))), (2, .val (IsC 0)), (3, .val (IsB false)), (0, .val (Lit (.string s)))]) H45 rfl rfl rfl (.plain rfl (ok_assign (.tmp 0 rfl))) rfl rfl ?_
        clear H45 a45 w45 B45
        intro a46 w46 B46 H46
        refine any_done (by kernel_rfl) ?_
        refine then_normal ?_
        refine wp_seq ?_
        have H47 := St.set1 H46 0 (D' := IsC (readV ((bytesI s).take (j + 1).toNat))) rfl (fun v w B h => isC_eq (readV_one j0 (by rw [bytesI_length]; omega)) h) (l' := [(4, .val (IsC (readV ((bytesI s).take (j + 1).toNat)))), (51, .val (IsC (((readV ((bytesI s).take j.toNat)) * 10) + (((bytesI s)[j.toNat]?.getD 0) - 48)))), (6, .val (Lit (.int .i64 j))), (5, .val (Lit (.int .i64 i))), (2, .val (IsC 0)), (3, .val (IsB false)), (0, .val (Lit (.string s)))]) rfl
        clear H46
        refine flow_region (dsts := [some 52, some 53, some 54]) (refs := [[.pre 0], [.res 0], [.res 1]]) (outs := [.res 2, .pre 0, .pre 2, .pre 3, .pre 4, .pre 5, .pre 6]) (als := [false, false, false]) (posts := [.val (IsC (readV ((bytesI s).take (j + 1).toNat))), .val (Lit (.int .i64 ((dg 4294967296 (readV ((bytesI s).take (j + 1).toNat))).length : Int))), .val (IsB (decide (262144 < ((dg 4294967296 (readV ((bytesI s).take (j + 1).toNat))).length : Int))))])
          (out := [(54, .val (IsB (decide (262144 < ((dg 4294967296 (readV ((bytesI s).take (j + 1).toNat))).length : Int))))), (4, .val (IsC (readV ((bytesI s).take (j + 1).toNat)))), (6, .val (Lit (.int .i64 j))), (5, .val (Lit (.int .i64 i))), (2, .val (IsC 0)), (3, .val (IsB false)), (0, .val (Lit (.string s)))]) (nb := []) H47 3 [] rfl (by kernel_rfl) rfl rfl ?_ ?_
        · refine .cons (.plain rfl (ok_move (.tmp 0 rfl))) ?_
          refine .cons (.plain rfl (ok_lenC (.tmp 0 rfl))) ?_
          refine .cons (.plain rfl (ok_cmp (.tmp 0 rfl) (.lit) rfl)) ?_
          exact .nil
        clear H47 a46 w46 B46
        intro a48 w48 B48 H48
        refine ops_done ?_
        refine then_normal ?_
        refine f_cond H48 (.tmp 0 rfl) ?_ ?_
        · intro hc49
          replace hc49 := of_decide_eq_true hc49
          have hno := readOk_long hD _ hc49
          have n0 := (readNum_no hno).symm
          refine wp_seq ?_
          refine flow_region (dsts := [some 2, some 3]) (refs := [[], []]) (outs := [.res 0, .res 1, .pre 1, .pre 2, .pre 3, .pre 6]) (als := [false, false]) (posts := [.val (IsC 0), .val (IsB false)])
            (out := [(2, .val (IsC 0)), (3, .val (IsB false)), (4, .val (IsC (readV ((bytesI s).take (j + 1).toNat)))), (6, .val (Lit (.int .i64 j))), (5, .val (Lit (.int .i64 i))), (0, .val (Lit (.string s)))]) (nb := []) H48 2 [] rfl (by kernel_rfl) rfl rfl ?_ ?_
          · refine .cons (.plain rfl (ok_assign (.const (fun w B => weakNilM _ w B rfl)))) ?_
            refine .cons (.plain rfl (ok_assign (.lit))) ?_
            exact .nil
          clear H48 a48 w48 B48
          intro a50 w50 B50 H50
          refine ops_done ?_
          refine then_normal ?_
          refine wp_ret ?_
          refine block_ret ?_
          refine then_ret ?_
          refine then_ret ?_
          refine block_ret ?_
          refine then_ret ?_
          exact f_retN H50 rfl rfl (.tmp 0 rfl (fun v w B h => by exact isC_eq (by assumption) h) (.tmp 1 rfl (fun v w B h => by exact isB_eq (by first | assumption | exact Eq.symm (by assumption)) h) (.nil)))
        · intro hc49
          replace hc49 := of_decide_eq_false hc49
          refine wp_skip ?_
          refine block_normal ?_
          refine then_normal ?_
          refine flow_region (dsts := [some 40, some 41]) (refs := [[.pre 2], [.res 0]]) (outs := [.res 1, .pre 1, .pre 2, .pre 3, .pre 4, .pre 5, .pre 6]) (als := [false, false]) (posts := [.val (Lit (.int .i64 j)), .val (Lit (.int .i64 (j + 1)))])
            (out := [(41, .val (Lit (.int .i64 (j + 1)))), (4, .val (IsC (readV ((bytesI s).take (j + 1).toNat)))), (6, .val (Lit (.int .i64 j))), (5, .val (Lit (.int .i64 i))), (2, .val (IsC 0)), (3, .val (IsB false)), (0, .val (Lit (.string s)))]) (nb := []) H48 2 [2] rfl (by kernel_rfl) rfl rfl ?_ ?_
          · refine .cons (.plain rfl (ok_move (.tmp 0 rfl))) ?_
            refine .cons (.plain rfl (ok_add (r := (j + 1)) (.tmp 0 rfl) (.lit) (w_i64 (by omega)))) ?_
            exact .nil
          clear H48 a48 w48 B48
          intro a51 w51 B51 H51
          refine ops_one ?_
          refine tail_op (D := .val (Lit (.int .i64 (j + 1)))) (l' := [(6, .val (Lit (.int .i64 (j + 1)))), (41, .val (Lit (.int .i64 (j + 1)))), (4, .val (IsC (readV ((bytesI s).take (j + 1).toNat)))), (5, .val (Lit (.int .i64 i))), (2, .val (IsC 0)), (3, .val (IsB false)), (0, .val (Lit (.string s)))]) H51 rfl rfl rfl (.plain rfl (ok_assign (.tmp 0 rfl))) rfl rfl ?_
          clear H51 a51 w51 B51
          intro a52 w52 B52 H52
          refine ops_done ?_
          exact ⟨j + 1, B52, by exact ⟨by omega, by omega, by omega⟩, St.pick H52 [0, 3, 2, 4, 5, 6] rfl, by omega⟩
      · intro hc44
        replace hc44 := of_decide_eq_false hc44
        have hj : j = ((bytesI s).length : Int) := by rw [bytesI_length]; omega
        have hyes := readOk_yes hD ne0 lead (by rw [hj, Int.toNat_natCast, List.take_length] at hl; exact hl)
        have nyes : readV ((bytesI s).take j.toNat) = readNum (bytesI s) := by rw [hj, Int.toNat_natCast, List.take_length]; exact (readNum_yes hyes).symm
        refine wp_exit ?_
        refine then_exit ?_
        refine then_exit ?_
        refine block_exit ?_
        refine then_normal ?_
        refine wp_seq ?_
        refine flow_region (dsts := [some 55, some 2, some 3]) (refs := [[.pre 3], [.res 0], []]) (outs := [.res 1, .res 2, .pre 1, .pre 2, .pre 3, .pre 6]) (als := [false, false, false]) (posts := [.val (IsC (readV ((bytesI s).take j.toNat))), .val (IsC (readV ((bytesI s).take j.toNat))), .val (IsB true)])
          (out := [(2, .val (IsC (readV ((bytesI s).take j.toNat)))), (3, .val (IsB true)), (6, .val (Lit (.int .i64 j))), (5, .val (Lit (.int .i64 i))), (4, .val (IsC (readV ((bytesI s).take j.toNat)))), (0, .val (Lit (.string s)))]) (nb := []) H43 3 [] rfl (by kernel_rfl) rfl rfl ?_ ?_
        · refine .cons (.plain rfl (ok_move (.tmp 0 rfl))) ?_
          refine .cons (.plain rfl (ok_assign (.tmp 0 rfl))) ?_
          refine .cons (.plain rfl (ok_assign (.lit))) ?_
          exact .nil
        clear H43 a43 w43 B43
        intro a53 w53 B53 H53
        refine ops_done ?_
        refine then_normal ?_
        refine wp_ret ?_
        exact f_retN H53 rfl rfl (.tmp 0 rfl (fun v w B h => by exact isC_eq (by assumption) h) (.tmp 1 rfl (fun v w B h => by exact isB_eq (by first | assumption | exact Eq.symm (by assumption)) h) (.nil)))

end Go.Proofs.YtbcbmkeeoognpaaGreatDoor


/- R2Bytes. (Printed by flowfn.py.) -/
namespace Go.Proofs.YtbcbmkeeoognpaaGreatDoor
open Go Go.RowKit

theorem be_start (L : List Int) : (dg 256 (val 4294967296 (L.drop ((L.length : Int) - 1 + 1).toNat))).reverse = [] := by
  rw [List.drop_of_length_le (by omega)]
  show (dg 256 0).reverse = []
  rw [dg_zero]; rfl
theorem be_step (U b : Int) (hU : 0 ≤ U) (hb : 0 ≤ b ∧ b < 256) (h : (decide (b ≠ 0) || decide (0 < ((dg 256 U).reverse.length : Int))) = true) : (dg 256 U).reverse ++ [b] = (dg 256 (U * 256 + b)).reverse := by
  rw [Bool.or_eq_true, decide_eq_true_eq, decide_eq_true_eq] at h
  rw [dg_more U b hU hb ?_]
  rcases h with h | h
  · omega
  · rw [List.length_reverse] at h
    rcases Int.lt_or_eq_of_le hU with h2 | h2
    · omega
    · rw [← h2, dg_zero] at h; simp at h
theorem be_skip (U b : Int) (hU : 0 ≤ U) (hb : 0 ≤ b ∧ b < 256) (h : (decide (b ≠ 0) || decide (0 < ((dg 256 U).reverse.length : Int))) = false) : (dg 256 U).reverse = (dg 256 (U * 256 + b)).reverse := by
  rw [Bool.or_eq_false_iff, decide_eq_false_iff_not, decide_eq_false_iff_not, List.length_reverse] at h
  have h1 : dg 256 U = [] := List.length_eq_zero_iff.1 (by omega)
  have h2 : U = 0 := by
    have := val_dg 256 (by omega) U hU
    rw [h1] at this
    exact this.symm
  rw [h2, show b = 0 by omega]
  simp
theorem be_inv (U x T : Int) (j : Int) (hj : 0 ≤ j) (hx : 0 ≤ x ∧ x < 4294967296) (h : U * 4294967296 + x = 256 ^ j.toNat * T) : (U * 256 + x / 16777216) * 4294967296 + (x * 256) % 4294967296 = 256 ^ (j + 1).toNat * T := by
  rw [show (j + 1).toNat = j.toNat + 1 by omega, Int.pow_succ, Int.mul_right_comm, ← h]
  omega
theorem be_exit (U x T : Int) (j : Int) (hj : 0 ≤ j ∧ j ≤ 4 ∧ ¬ j < 4) (hx : 0 ≤ x ∧ x < 4294967296) (h : U * 4294967296 + x = 256 ^ j.toNat * T) : U = T := by
  rw [show j.toNat = 4 by omega, show (256 : Int) ^ 4 = 4294967296 from rfl] at h
  omega
theorem be_le (U x T : Int) (j : Int) (hj : 0 ≤ j ∧ j ≤ 4) (hx : 0 ≤ x ∧ x < 4294967296) (hT : 0 ≤ T) (h : U * 4294967296 + x = 256 ^ j.toNat * T) : U ≤ T := by
  have h1 : (256 : Int) ^ j.toNat ≤ 256 ^ 4 := pow_le (by omega) (by omega)
  rw [show (256 : Int) ^ 4 = 4294967296 from rfl] at h1
  have h2 := Int.mul_le_mul_of_nonneg_right h1 hT
  omega
theorem be_drop (L : List Int) (i : Int) (hi : 0 ≤ i ∧ i < L.length) : val 4294967296 (L.drop i.toNat) = val 4294967296 (L.drop (i + 1).toNat) * 4294967296 + L[i.toNat]?.getD 0 := by
  rw [show (i + 1).toNat = i.toNat + 1 by omega, List.drop_eq_getElem_cons (show i.toNat < L.length by omega), List.getElem?_eq_getElem (by omega)]
  simp only [val, Option.getD_some]
  omega
theorem be_dropLe (L : List Int) (d : Dig 4294967296 L) (n : Nat) : 0 ≤ val 4294967296 (L.drop n) ∧ val 4294967296 (L.drop n) ≤ val 4294967296 L := by
  have h0 := val_nonneg (show (0 : Int) < 4294967296 by omega) (d.drop n)
  refine ⟨h0, ?_⟩
  conv => rhs; rw [← List.take_append_drop n L, val_append]
  have h1 := val_nonneg (show (0 : Int) < 4294967296 by omega) (d.take n)
  have h2 : (1 : Int) ≤ 4294967296 ^ (L.take n).length := Int.pow_pos (by omega)
  have h3 := Int.mul_le_mul_of_nonneg_right h2 h0
  omega
theorem be_room (U V : Int) (k : Nat) (h0 : 0 ≤ U) (h : U ≤ V) (hf : FitK k V) : (dg 256 U).length ≤ 4 * k := by
  refine dg_length_le 256 (by omega) _ _ ?_
  unfold FitK at hf
  rw [show ((256 : Nat) : Int) = 256 from rfl, pow4]
  omega
theorem shr24 (x : Int) (h : 0 ≤ x) : x.fdiv (2 ^ (min (24 : Int).toNat IntKind.u32.bits)) = x / 16777216 := by
  show x.fdiv 16777216 = _
  exact Int.fdiv_eq_ediv_of_nonneg _ (by omega)
theorem shl8 (x : Int) : IntKind.u32.wrap (x * 2 ^ (min (8 : Int).toNat IntKind.u32.bits)) = (x * 256) % 4294967296 := by
  show IntKind.u32.wrap (x * 256) = _
  rw [IntKind.wrap_u32]

set_option maxRecDepth 20000 in
set_option maxHeartbeats 2000000 in
theorem con_r2bytes (V : Int) : Con Tryz.prog 35 [IsM V] (Lit (.string (strB (dg 256 V).reverse))) := by
  refine f_enter (N := 43) Tryz.ntmps35 (fun _ _ => by go_simp) Tryz.func35 rfl (by simp) ?_
  intro a0 w0 B0 H0
  replace H0 : St 43 w0 B0 a0 w0 B0 [(0, .val (IsM V))] [] := H0
  obtain ⟨k0, hk0, hf⟩ : Fits V := PM.fit (H0.fc.get 0 rfl)
  have hV := PM.nonneg (H0.fc.get 0 rfl)
  have hlim := lim_eq
  have hD : Dig 4294967296 (dg 4294967296 V) := dg_dig 4294967296 (by omega) _
  have hVL : val 4294967296 (dg 4294967296 V) = V := val_dg 4294967296 (by omega) V hV
  have hlen : (dg 4294967296 V).length ≤ k0 := dg_length_le 4294967296 (by omega) k0 V (by unfold FitK at hf; rw [show ((4294967296 : Nat) : Int) = 4294967296 from rfl]; omega)
  refine wp_seq ?_
  refine flow_region (dsts := [some 2]) (refs := [[]]) (outs := [.res 0, .pre 0]) (als := [false]) (posts := [.val (Lit (.string (strB [])))])
    (out := [(2, .val (Lit (.string (strB [])))), (0, .val (IsM V))]) (nb := []) H0 1 [] rfl (by kernel_rfl) rfl rfl ?_ ?_
  · refine .cons (.plain rfl (ok_assign (.const (fun _ _ => by rfl)))) ?_
    exact .nil
  clear H0
  intro a1 w1 B1 H1
  refine ops_done ?_
  refine then_normal ?_
  refine wp_seq ?_
  refine flow_region (dsts := [some 8, some 9]) (refs := [[.pre 1], [.res 0]]) (outs := [.res 1, .pre 0, .pre 1]) (als := [false, false]) (posts := [.val (IsM V), .val (IsC V)])
    (out := [(9, .val (IsC V)), (2, .val (Lit (.string (strB [])))), (0, .val (IsM V))]) (nb := []) H1 2 [2] rfl (by kernel_rfl) rfl rfl ?_ ?_
  · refine .cons (.plain rfl (ok_move (.tmp 0 rfl))) ?_
    refine .cons (.plain rfl (ok_call (con_rnorm V) (.cons (.tmp 0 rfl) (.nil)))) ?_
    exact .nil
  clear H1 a1 w1 B1
  intro a2 w2 B2 H2
  refine ops_one ?_
  refine tail_op (D := .val (IsC V)) (l' := [(0, .val (IsC V)), (9, .val (IsC V)), (2, .val (Lit (.string (strB []))))]) H2 rfl rfl rfl (.plain rfl (ok_assign (.tmp 0 rfl))) rfl rfl ?_
  clear H2 a2 w2 B2
  intro a3 w3 B3 H3
  refine ops_done ?_
  refine then_normal ?_
  refine wp_seq ?_
  obtain ⟨m4, hm4, hw4, hL4, H4⟩ := St.mark H3 904
  clear H3
  have H5 := St.setw H4 1 (D' := IsLb m4 .u32 (dg 4294967296 V)) rfl (fun v h => hL4 _ _ _ (weakCL v _ _ h)) (l' := [(904, .val (Sz m4)), (0, .val (IsLb m4 .u32 (dg 4294967296 V))), (9, .val (IsC V)), (2, .val (Lit (.string (strB []))))]) rfl
  clear H4
  clear hL4 hw4
  refine flow_region (dsts := [some 3]) (refs := [[]]) (outs := [.res 0, .pre 0, .pre 1, .pre 3]) (als := [false]) (posts := [.val (IsApp none m4 5 .u8 ([]))])
    (out := [(3, .val (IsApp none m4 5 .u8 ([]))), (904, .val (Sz m4)), (0, .val (IsLb m4 .u32 (dg 4294967296 V))), (2, .val (Lit (.string (strB []))))]) (nb := []) H5 1 [] rfl (by kernel_rfl) rfl rfl ?_ ?_
  · refine .cons (.plain rfl (ok_nilApp (.inr rfl))) ?_
    exact .nil
  clear H5 a3 w3 B3
  intro a6 w6 B6 H6
  refine ops_done ?_
  refine then_normal ?_
  refine wp_seq ?_
  refine wp_seq ?_
  refine flow_region (dsts := [some 10, some 11, some 12, some 4]) (refs := [[.pre 2], [.res 0], [.res 1], [.res 2]]) (outs := [.res 3, .pre 0, .pre 1, .pre 2, .pre 3]) (als := [false, false, false, false]) (posts := [.val (IsLb m4 .u32 (dg 4294967296 V)), .val (Lit (.int .i64 (List.length (dg 4294967296 V) : Int))), .val (Lit (.int .i64 ((List.length (dg 4294967296 V) : Int) - 1))), .val (Lit (.int .i64 ((List.length (dg 4294967296 V) : Int) - 1)))])
    (out := [(4, .val (Lit (.int .i64 ((List.length (dg 4294967296 V) : Int) - 1)))), (3, .val (IsApp none m4 5 .u8 ([]))), (904, .val (Sz m4)), (0, .val (IsLb m4 .u32 (dg 4294967296 V))), (2, .val (Lit (.string (strB []))))]) (nb := []) H6 4 [] rfl (by kernel_rfl) rfl rfl ?_ ?_
  · refine .cons (.plain rfl (ok_move (.tmp 0 rfl))) ?_
    refine .cons (.plain rfl (ok_lenL Tryz.underlying23 (.weak (.tmp 0 rfl) weakLbL))) ?_
    refine .cons (.plain rfl (ok_sub (r := ((List.length (dg 4294967296 V) : Int) - 1)) (.tmp 0 rfl) (.lit) (w_i64 (by omega)))) ?_
    refine .cons (.plain rfl (ok_assign (.tmp 0 rfl))) ?_
    exact .nil
  clear H6 a6 w6 B6
  intro a7 w7 B7 H7
  refine ops_done ?_
  refine then_normal ?_
  refine wp_block ?_
  have H8 := St.set1 H7 1 (D' := IsApp none m4 5 .u8 ((dg 256 (val 4294967296 ((dg 4294967296 V).drop (((dg 4294967296 V).length : Int) - 1 + 1).toNat))).reverse)) rfl (fun v w B h => by rw [be_start]; exact h) (l' := [(4, .val (Lit (.int .i64 ((List.length (dg 4294967296 V) : Int) - 1)))), (3, .val (IsApp none m4 5 .u8 ((dg 256 (val 4294967296 ((dg 4294967296 V).drop (((dg 4294967296 V).length : Int) - 1 + 1).toNat))).reverse))), (904, .val (Sz m4)), (0, .val (IsLb m4 .u32 (dg 4294967296 V))), (2, .val (Lit (.string (strB []))))]) rfl
  clear H7
  refine f_loop (fun (⟨g, i⟩ : Option Nat × Int) => [(4, .val (Lit (.int .i64 i))), (3, .val (IsApp g m4 5 .u8 ((dg 256 (val 4294967296 ((dg 4294967296 V).drop (i + 1).toNat))).reverse))), (904, .val (Sz m4)), (0, .val (IsLb m4 .u32 (dg 4294967296 V))), (2, .val (Lit (.string (strB []))))]) (fun (⟨g, i⟩ : Option Nat × Int) => -1 ≤ i ∧ i < ((dg 4294967296 V).length : Int)) (fun (⟨g, i⟩ : Option Nat × Int) => (i + 1).toNat) (⟨none, ((dg 4294967296 V).length : Int) - 1⟩) (St.pick H8 [0, 1, 2, 3, 4] rfl) (by exact ⟨by omega, by omega⟩) ?_
  clear H8 a7 w7 B7
  rintro ⟨g, i⟩ a9 w9 B9 hI9 H9
  replace hI9 : -1 ≤ i ∧ i < ((dg 4294967296 V).length : Int) := hI9
  replace H9 : St 43 w0 B0 a9 w9 B9 [(4, .val (Lit (.int .i64 i))), (3, .val (IsApp g m4 5 .u8 ((dg 256 (val 4294967296 ((dg 4294967296 V).drop (i + 1).toNat))).reverse))), (904, .val (Sz m4)), (0, .val (IsLb m4 .u32 (dg 4294967296 V))), (2, .val (Lit (.string (strB []))))] [] := H9
  refine wp_seq ?_
  refine wp_seq ?_
  refine flow_region (dsts := [some 13, some 14]) (refs := [[.pre 0], [.res 0]]) (outs := [.res 1, .pre 0, .pre 1, .pre 2, .pre 3, .pre 4]) (als := [false, false]) (posts := [.val (Lit (.int .i64 i)), .val (IsB (decide (0 ≤ i)))])
    (out := [(14, .val (IsB (decide (0 ≤ i)))), (4, .val (Lit (.int .i64 i))), (3, .val (IsApp g m4 5 .u8 ((dg 256 (val 4294967296 ((dg 4294967296 V).drop (i + 1).toNat))).reverse))), (904, .val (Sz m4)), (0, .val (IsLb m4 .u32 (dg 4294967296 V))), (2, .val (Lit (.string (strB []))))]) (nb := []) H9 2 [] rfl (by kernel_rfl) rfl rfl ?_ ?_
  · refine .cons (.plain rfl (ok_move (.tmp 0 rfl))) ?_
    refine .cons (.plain rfl (ok_cmp (.tmp 0 rfl) (.lit) rfl)) ?_
    exact .nil
  clear H9 a9 w9 B9
  intro a10 w10 B10 H10
  refine ops_done ?_
  refine then_normal ?_
  refine f_cond H10 (.tmp 0 rfl) ?_ ?_
  · intro hc11
    replace hc11 := of_decide_eq_true hc11
    refine wp_skip ?_
    refine then_normal ?_
    refine wp_seq ?_
    refine wp_block ?_
    refine wp_seq ?_
    refine flow_region (dsts := [some 17, some 18, some 19, some 20, some 5]) (refs := [[.pre 4], [.pre 1], [.res 0, .res 1], [.res 2], [.res 3]]) (outs := [.res 4, .pre 1, .pre 2, .pre 3, .pre 4, .pre 5]) (als := [false, false, false, false, false]) (posts := [.val (IsLb m4 .u32 (dg 4294967296 V)), .val (Lit (.int .i64 i)), .val (IsCell .u32 ((dg 4294967296 V)[i.toNat]?.getD 0)), .val (Lit (.int .u32 ((dg 4294967296 V)[i.toNat]?.getD 0))), .val (Lit (.int .u32 ((dg 4294967296 V)[i.toNat]?.getD 0)))])
      (out := [(5, .val (Lit (.int .u32 ((dg 4294967296 V)[i.toNat]?.getD 0)))), (4, .val (Lit (.int .i64 i))), (3, .val (IsApp g m4 5 .u8 ((dg 256 (val 4294967296 ((dg 4294967296 V).drop (i + 1).toNat))).reverse))), (904, .val (Sz m4)), (0, .val (IsLb m4 .u32 (dg 4294967296 V))), (2, .val (Lit (.string (strB []))))]) (nb := []) H10 5 [] rfl (by kernel_rfl) rfl rfl ?_ ?_
    · refine .cons (.plain rfl (ok_move (.tmp 0 rfl))) ?_
      refine .cons (.plain rfl (ok_move (.tmp 0 rfl))) ?_
      refine .cons (.plain rfl (ok_idxL (xs := (dg 4294967296 V)) i.toNat Tryz.underlying23 size32 (.weak (.tmp 0 rfl) weakLbL) (.tmp 1 rfl) (by omega) (by omega))) ?_
      refine .cons (.plain rfl (ok_loadCell aggU32 (.tmp 0 rfl))) ?_
      refine .cons (.plain rfl (ok_assign (.tmp 0 rfl))) ?_
      exact .nil
    clear H10 a10 w10 B10
    intro a12 w12 B12 H12
    refine ops_done ?_
    refine then_normal ?_
    refine wp_seq ?_
    refine flow_region (dsts := [some 6]) (refs := [[]]) (outs := [.res 0, .pre 0, .pre 1, .pre 2, .pre 3, .pre 4, .pre 5]) (als := [false]) (posts := [.val (Lit (.int .i64 0))])
      (out := [(6, .val (Lit (.int .i64 0))), (5, .val (Lit (.int .u32 ((dg 4294967296 V)[i.toNat]?.getD 0)))), (4, .val (Lit (.int .i64 i))), (3, .val (IsApp g m4 5 .u8 ((dg 256 (val 4294967296 ((dg 4294967296 V).drop (i + 1).toNat))).reverse))), (904, .val (Sz m4)), (0, .val (IsLb m4 .u32 (dg 4294967296 V))), (2, .val (Lit (.string (strB []))))]) (nb := []) H12 1 [] rfl (by kernel_rfl) rfl rfl ?_ ?_
    · refine .cons (.plain rfl (ok_assign (.lit))) ?_
      exact .nil
    clear H12 a12 w12 B12
    intro a13 w13 B13 H13
    refine ops_done ?_
    refine then_normal ?_
    refine wp_block ?_
    obtain ⟨T, hT⟩ : ∃ T, T = val 4294967296 ((dg 4294967296 V).drop (i + 1).toNat) * 4294967296 + (dg 4294967296 V)[i.toNat]?.getD 0 := ⟨_, rfl⟩
    have hTV : 0 ≤ T ∧ T ≤ V := by rw [hT, ← be_drop _ i (by omega)]; have := be_dropLe _ hD i.toNat; rwa [hVL] at this
    have hx := hD.get (by omega) i.toNat
    have hu := be_dropLe _ hD (i + 1).toNat
    rw [hVL] at hu
    refine f_loop (fun (⟨g2, j, x, U⟩ : Option Nat × Int × Int × Int) => [(6, .val (Lit (.int .i64 j))), (5, .val (Lit (.int .u32 x))), (4, .val (Lit (.int .i64 i))), (3, .val (IsApp g2 m4 5 .u8 ((dg 256 U).reverse))), (904, .val (Sz m4)), (0, .val (IsLb m4 .u32 (dg 4294967296 V))), (2, .val (Lit (.string (strB []))))]) (fun (⟨g2, j, x, U⟩ : Option Nat × Int × Int × Int) => 0 ≤ j ∧ j ≤ 4 ∧ (0 ≤ x ∧ x < 4294967296) ∧ 0 ≤ U ∧ U * 4294967296 + x = 256 ^ j.toNat * T) (fun (⟨g2, j, x, U⟩ : Option Nat × Int × Int × Int) => (4 - j).toNat) (⟨g, 0, (dg 4294967296 V)[i.toNat]?.getD 0, val 4294967296 ((dg 4294967296 V).drop (i + 1).toNat)⟩) (St.pick H13 [0, 1, 2, 3, 4, 5, 6] rfl) (by exact ⟨by omega, by omega, hx, hu.1, by rw [hT]; exact (Int.one_mul _).symm⟩) ?_
    clear H13 a13 w13 B13
    rintro ⟨g2, j, x, U⟩ a14 w14 B14 hI14 H14
    replace hI14 : 0 ≤ j ∧ j ≤ 4 ∧ (0 ≤ x ∧ x < 4294967296) ∧ 0 ≤ U ∧ U * 4294967296 + x = 256 ^ j.toNat * T := hI14
    replace H14 : St 43 w0 B0 a14 w14 B14 [(6, .val (Lit (.int .i64 j))), (5, .val (Lit (.int .u32 x))), (4, .val (Lit (.int .i64 i))), (3, .val (IsApp g2 m4 5 .u8 ((dg 256 U).reverse))), (904, .val (Sz m4)), (0, .val (IsLb m4 .u32 (dg 4294967296 V))), (2, .val (Lit (.string (strB []))))] [] := H14
    obtain ⟨j0, j1, hx, hU0, hi⟩ := hI14
    have hle := be_le U x T j (by omega) hx hTV.1 hi
    refine wp_seq ?_
    refine wp_seq ?_
    refine flow_region (dsts := [some 21, some 22]) (refs := [[.pre 0], [.res 0]]) (outs := [.res 1, .pre 0, .pre 1, .pre 2, .pre 3, .pre 4, .pre 5, .pre 6]) (als := [false, false]) (posts := [.val (Lit (.int .i64 j)), .val (IsB (decide (j < 4)))])
      (out := [(22, .val (IsB (decide (j < 4)))), (6, .val (Lit (.int .i64 j))), (5, .val (Lit (.int .u32 x))), (4, .val (Lit (.int .i64 i))), (3, .val (IsApp g2 m4 5 .u8 ((dg 256 U).reverse))), (904, .val (Sz m4)), (0, .val (IsLb m4 .u32 (dg 4294967296 V))), (2, .val (Lit (.string (strB []))))]) (nb := []) H14 2 [] rfl (by kernel_rfl) rfl rfl ?_ ?_
    · refine .cons (.plain rfl (ok_move (.tmp 0 rfl))) ?_
      refine .cons (.plain rfl (ok_cmp (.tmp 0 rfl) (.lit) rfl)) ?_
      exact .nil
    clear H14 a14 w14 B14
    intro a15 w15 B15 H15
    refine ops_done ?_
    refine then_normal ?_
    refine f_cond H15 (.tmp 0 rfl) ?_ ?_
    · intro hc16
      replace hc16 := of_decide_eq_true hc16
      refine wp_skip ?_
      refine then_normal ?_
      refine wp_seq ?_
      refine wp_block ?_
      refine wp_seq ?_
      refine flow_region (dsts := [some 25, some 26, some 27, some 7]) (refs := [[.pre 2], [.res 0], [.res 1], [.res 2]]) (outs := [.res 3, .pre 1, .pre 2, .pre 3, .pre 4, .pre 5, .pre 6, .pre 7]) (als := [false, false, false, false]) (posts := [.val (Lit (.int .u32 x)), .val (Lit (.int .u32 (x / 16777216))), .val (Lit (.int .u8 (x / 16777216))), .val (Lit (.int .u8 (x / 16777216)))])
        (out := [(7, .val (Lit (.int .u8 (x / 16777216)))), (6, .val (Lit (.int .i64 j))), (5, .val (Lit (.int .u32 x))), (4, .val (Lit (.int .i64 i))), (3, .val (IsApp g2 m4 5 .u8 ((dg 256 U).reverse))), (904, .val (Sz m4)), (0, .val (IsLb m4 .u32 (dg 4294967296 V))), (2, .val (Lit (.string (strB []))))]) (nb := []) H15 4 [] rfl (by kernel_rfl) rfl rfl ?_ ?_
      · refine .cons (.plain rfl (ok_move (.tmp 0 rfl))) ?_
        refine .cons (.plain rfl (ok_shr (r := (x / 16777216)) (.tmp 0 rfl) (.lit) (by omega) (shr24 x (by omega)))) ?_
        refine .cons (.plain rfl (ok_conv Tryz.underlying44 Tryz.underlying5 (r := (x / 16777216)) (.tmp 0 rfl) (w_u8 (by omega)))) ?_
        refine .cons (.plain rfl (ok_assign (.tmp 0 rfl))) ?_
        exact .nil
      clear H15 a15 w15 B15
      intro a17 w17 B17 H17
      refine ops_done ?_
      refine then_normal ?_
      refine wp_seq ?_
      refine wp_seq ?_
      refine flow_region (dsts := [some 28, some 29, some 30, some 31, some 32, some 33, some 34]) (refs := [[.pre 0], [.res 0], [.res 1], [.res 2, .pre 4], [.res 2, .res 3], [.res 2, .res 4], [.res 2, .res 5]]) (outs := [.res 6, .pre 0, .pre 1, .pre 2, .pre 3, .pre 4, .pre 5, .pre 6, .pre 7]) (als := [false, false, false, false, false, false, false]) (posts := [.val (Lit (.int .u8 (x / 16777216))), .val (IsB (decide (x / 16777216 ≠ 0))), .val (IsB (decide (x / 16777216 ≠ 0))), .val (Grd ((decide (x / 16777216 ≠ 0)) == false) (IsApp g2 m4 5 .u8 ((dg 256 U).reverse))), .val (Grd ((decide (x / 16777216 ≠ 0)) == false) (Lit (.int .i64 (List.length ((dg 256 U).reverse) : Int)))), .val (Grd ((decide (x / 16777216 ≠ 0)) == false) (IsB (decide (0 < (List.length ((dg 256 U).reverse) : Int))))), .val (IsB ((decide (x / 16777216 ≠ 0)) || (decide (0 < (List.length ((dg 256 U).reverse) : Int)))))])
        (out := [(34, .val (IsB ((decide (x / 16777216 ≠ 0)) || (decide (0 < (List.length ((dg 256 U).reverse) : Int)))))), (7, .val (Lit (.int .u8 (x / 16777216)))), (6, .val (Lit (.int .i64 j))), (5, .val (Lit (.int .u32 x))), (4, .val (Lit (.int .i64 i))), (3, .val (IsApp g2 m4 5 .u8 ((dg 256 U).reverse))), (904, .val (Sz m4)), (0, .val (IsLb m4 .u32 (dg 4294967296 V))), (2, .val (Lit (.string (strB []))))]) (nb := []) H17 7 [] rfl (by kernel_rfl) rfl rfl ?_ ?_
      · refine .cons (.plain rfl (ok_move (.tmp 0 rfl))) ?_
        refine .cons (.plain rfl (ok_cmp (.tmp 0 rfl) (.lit) rfl)) ?_
        refine .cons (.plain rfl (ok_move (.tmp 0 rfl))) ?_
        refine .cons (.sym 2 false (decide (x / 16777216 ≠ 0)) ((decide (x / 16777216 ≠ 0)) == false) rfl rfl rfl 0 (need' := [(30, .val (IsB (decide (x / 16777216 ≠ 0)))), (3, .val (IsApp g2 m4 5 .u8 ((dg 256 U).reverse)))]) rfl rfl (fun a w B e h => ⟨h.1, h.2.1, trivial⟩) (fun e => ok_move (.tmp 1 rfl))) ?_
        refine .cons (.sym 2 false (decide (x / 16777216 ≠ 0)) ((decide (x / 16777216 ≠ 0)) == false) rfl rfl rfl 0 (need' := [(30, .val (IsB (decide (x / 16777216 ≠ 0)))), (31, .val (IsApp g2 m4 5 .u8 ((dg 256 U).reverse)))]) rfl rfl (fun a w B e h => ⟨h.1, h.2.1.1 (e), trivial⟩) (fun e => ok_lenL Tryz.underlying122 (.weak (.tmp 1 rfl) weakAppL))) ?_
        refine .cons (.sym 2 false (decide (x / 16777216 ≠ 0)) ((decide (x / 16777216 ≠ 0)) == false) rfl rfl rfl 0 (need' := [(30, .val (IsB (decide (x / 16777216 ≠ 0)))), (32, .val (Lit (.int .i64 (List.length ((dg 256 U).reverse) : Int))))]) rfl rfl (fun a w B e h => ⟨h.1, h.2.1.1 (e), trivial⟩) (fun e => ok_cmp (.tmp 1 rfl) (.lit) rfl)) ?_
        refine .cons (.plain rfl (ok_pickS (decide (x / 16777216 ≠ 0)) (.tmp 0 rfl) (fun e => Opd.eqB (.lit) (by rw [e]; rfl)) (fun e => Opd.eqB (Opd.grd (.tmp 1 rfl) (by first | (rw [e]; rfl) | (simp only [e]; rfl) | (simp [*] at *; done))) (by rw [e]; rfl)))) ?_
        exact .nil
      clear H17 a17 w17 B17
      intro a18 w18 B18 H18
      refine ops_done ?_
      refine then_normal ?_
      refine f_cond H18 (.tmp 0 rfl) ?_ ?_
      · intro hc19
        refine flow_region (dsts := [some 35, some 36, some 37]) (refs := [[.pre 5], [.pre 1], [.res 1]]) (outs := [.res 0, .res 2, .pre 2, .pre 3, .pre 4, .pre 5, .pre 6, .pre 7, .pre 8]) (als := [false, false, false]) (posts := [.val (IsApp g2 m4 5 .u8 ((dg 256 U).reverse)), .val (Lit (.int .u8 (x / 16777216))), .val (IsL .u8 ([x / 16777216]))])
          (out := [(35, .val (IsApp g2 m4 5 .u8 ((dg 256 U).reverse))), (37, .val (IsL .u8 ([x / 16777216]))), (6, .val (Lit (.int .i64 j))), (5, .val (Lit (.int .u32 x))), (4, .val (Lit (.int .i64 i))), (3, .val (IsApp g2 m4 5 .u8 ((dg 256 U).reverse))), (904, .val (Sz m4)), (0, .val (IsLb m4 .u32 (dg 4294967296 V))), (2, .val (Lit (.string (strB []))))]) (nb := []) H18 3 [3, 4] rfl (by kernel_rfl) rfl rfl ?_ ?_
        · refine .cons (.plain rfl (ok_move (.tmp 0 rfl))) ?_
          refine .cons (.plain rfl (ok_move (.tmp 0 rfl))) ?_
          refine .cons (.plain rfl (ok_one8 (.tmp 0 rfl))) ?_
          exact .nil
        clear H18 a18 w18 B18
        intro a20 w20 B20 H20
        refine ops_one ?_
        refine app_op (xs := ((dg 256 U).reverse)) (ys := ([x / 16777216])) (ks := [(6, .val (Lit (.int .i64 j))), (5, .val (Lit (.int .u32 x))), (4, .val (Lit (.int .i64 i))), (904, .val (Sz m4)), (0, .val (IsLb m4 .u32 (dg 4294967296 V))), (2, .val (Lit (.string (strB []))))]) 6 [2, 3, 4, 6, 7, 8] H20 hm4 rfl Tryz.underlying122 info_byte (by omega) (.tmp 0 rfl) (.tmp 1 rfl) (by simp) (by have := be_room U V k0 (by omega) (by omega) hf; simp only [List.length_reverse, List.length_singleton]; omega) rfl (Nat.le_refl _) rfl rfl (by kernel_rfl) rfl (.cons (kept_lit) (.cons (kept_lit) (.cons (kept_lit) (.cons (kept_sz) (.cons (kept_lb (Nat.le_refl _)) (.cons (kept_lit) (.nil))))))) ?_
        clear H20
        intro a21 w21 B21 g21 hg21 H21
        replace H21 : St 43 w0 B0 a21 w21 B21 [(38, .val (IsApp g21 m4 5 .u8 (((dg 256 U).reverse) ++ ([x / 16777216])))), (6, .val (Lit (.int .i64 j))), (5, .val (Lit (.int .u32 x))), (4, .val (Lit (.int .i64 i))), (904, .val (Sz m4)), (0, .val (IsLb m4 .u32 (dg 4294967296 V))), (2, .val (Lit (.string (strB []))))] [] := H21
        refine ops_one ?_
        refine tail_op (D := .val (IsApp g21 m4 5 .u8 (((dg 256 U).reverse) ++ ([x / 16777216])))) (l' := [(3, .val (IsApp g21 m4 5 .u8 (((dg 256 U).reverse) ++ ([x / 16777216])))), (38, .val (IsApp g21 m4 5 .u8 (((dg 256 U).reverse) ++ ([x / 16777216])))), (6, .val (Lit (.int .i64 j))), (5, .val (Lit (.int .u32 x))), (4, .val (Lit (.int .i64 i))), (904, .val (Sz m4)), (0, .val (IsLb m4 .u32 (dg 4294967296 V))), (2, .val (Lit (.string (strB []))))]) H21 rfl rfl rfl (.plain rfl (ok_assign (.tmp 0 rfl))) rfl rfl ?_
        clear H21 a21 w21 B21
        intro a22 w22 B22 H22
        refine ops_done ?_
        refine then_normal ?_
        have H23 := St.set1 H22 0 (D' := IsApp g21 m4 5 .u8 ((dg 256 (U * 256 + x / 16777216)).reverse)) rfl (fun v w B h => by rw [← (be_step U (x / 16777216) (by omega) (by omega) hc19)]; exact h) (l' := [(3, .val (IsApp g21 m4 5 .u8 ((dg 256 (U * 256 + x / 16777216)).reverse))), (38, .val (IsApp g21 m4 5 .u8 (((dg 256 U).reverse) ++ ([x / 16777216])))), (6, .val (Lit (.int .i64 j))), (5, .val (Lit (.int .u32 x))), (4, .val (Lit (.int .i64 i))), (904, .val (Sz m4)), (0, .val (IsLb m4 .u32 (dg 4294967296 V))), (2, .val (Lit (.string (strB []))))]) rfl
        clear H22
        refine flow_region (dsts := [some 39, some 40]) (refs := [[.pre 3], [.res 0]]) (outs := [.res 1, .pre 0, .pre 2, .pre 3, .pre 4, .pre 5, .pre 6, .pre 7]) (als := [false, false]) (posts := [.val (Lit (.int .u32 x)), .val (Lit (.int .u32 ((x * 256) % 4294967296)))])
          (out := [(40, .val (Lit (.int .u32 ((x * 256) % 4294967296)))), (3, .val (IsApp g21 m4 5 .u8 ((dg 256 (U * 256 + x / 16777216)).reverse))), (6, .val (Lit (.int .i64 j))), (5, .val (Lit (.int .u32 x))), (4, .val (Lit (.int .i64 i))), (904, .val (Sz m4)), (0, .val (IsLb m4 .u32 (dg 4294967296 V))), (2, .val (Lit (.string (strB []))))]) (nb := []) H23 2 [2] rfl (by kernel_rfl) rfl rfl ?_ ?_
        · refine .cons (.plain rfl (ok_move (.tmp 0 rfl))) ?_
          refine .cons (.plain rfl (ok_shl (r := ((x * 256) % 4294967296)) (.tmp 0 rfl) (.lit) (by omega) (shl8 x))) ?_
          exact .nil
        clear H23 a22 w22 B22
        intro a24 w24 B24 H24
        refine ops_one ?_
        refine tail_op (D := .val (Lit (.int .u32 ((x * 256) % 4294967296)))) (l' := [(5, .val (Lit (.int .u32 ((x * 256) % 4294967296)))), (40, .val (Lit (.int .u32 ((x * 256) % 4294967296)))), (3, .val (IsApp g21 m4 5 .u8 ((dg 256 (U * 256 + x / 16777216)).reverse))), (6, .val (Lit (.int .i64 j))), (4, .val (Lit (.int .i64 i))), (904, .val (Sz m4)), (0, .val (IsLb m4 .u32 (dg 4294967296 V))), (2, .val (Lit (.string (strB []))))]) H24 rfl rfl rfl (.plain rfl (ok_assign (.tmp 0 rfl))) rfl rfl ?_
        clear H24 a24 w24 B24
        intro a25 w25 B25 H25
        refine ops_done ?_
        refine block_normal ?_
        refine then_normal ?_
        refine flow_region (dsts := [some 23, some 24]) (refs := [[.pre 3], [.res 0]]) (outs := [.res 1, .pre 0, .pre 2, .pre 3, .pre 4, .pre 5, .pre 6, .pre 7]) (als := [false, false]) (posts := [.val (Lit (.int .i64 j)), .val (Lit (.int .i64 (j + 1)))])
          (out := [(24, .val (Lit (.int .i64 (j + 1)))), (5, .val (Lit (.int .u32 ((x * 256) % 4294967296)))), (3, .val (IsApp g21 m4 5 .u8 ((dg 256 (U * 256 + x / 16777216)).reverse))), (6, .val (Lit (.int .i64 j))), (4, .val (Lit (.int .i64 i))), (904, .val (Sz m4)), (0, .val (IsLb m4 .u32 (dg 4294967296 V))), (2, .val (Lit (.string (strB []))))]) (nb := []) H25 2 [2] rfl (by kernel_rfl) rfl rfl ?_ ?_
        · refine .cons (.plain rfl (ok_move (.tmp 0 rfl))) ?_
          refine .cons (.plain rfl (ok_add (r := (j + 1)) (.tmp 0 rfl) (.lit) (w_i64 (by omega)))) ?_
          exact .nil
        clear H25 a25 w25 B25
        intro a26 w26 B26 H26
        refine ops_one ?_
        refine tail_op (D := .val (Lit (.int .i64 (j + 1)))) (l' := [(6, .val (Lit (.int .i64 (j + 1)))), (24, .val (Lit (.int .i64 (j + 1)))), (5, .val (Lit (.int .u32 ((x * 256) % 4294967296)))), (3, .val (IsApp g21 m4 5 .u8 ((dg 256 (U * 256 + x / 16777216)).reverse))), (4, .val (Lit (.int .i64 i))), (904, .val (Sz m4)), (0, .val (IsLb m4 .u32 (dg 4294967296 V))), (2, .val (Lit (.string (strB []))))]) H26 rfl rfl rfl (.plain rfl (ok_assign (.tmp 0 rfl))) rfl rfl ?_
        clear H26 a26 w26 B26
        intro a27 w27 B27 H27
        refine ops_done ?_
        exact ⟨⟨g21, j + 1, (x * 256) % 4294967296, U * 256 + x / 16777216⟩, B27, by exact ⟨by omega, by omega, by omega, by omega, be_inv U x T j (by omega) hx hi⟩, St.pick H27 [0, 2, 4, 3, 5, 6, 7] rfl, by show (4 - (j + 1)).toNat < (4 - j).toNat; omega⟩
      · intro hc19
        refine wp_skip ?_
        refine then_normal ?_
        have H28 := St.set1 H18 5 (D' := IsApp g2 m4 5 .u8 ((dg 256 (U * 256 + x / 16777216)).reverse)) rfl (fun v w B h => by rw [← (be_skip U (x / 16777216) (by omega) (by omega) hc19)]; exact h) (l' := [(34, .val (IsB ((decide (x / 16777216 ≠ 0)) || (decide (0 < (List.length ((dg 256 U).reverse) : Int)))))), (7, .val (Lit (.int .u8 (x / 16777216)))), (6, .val (Lit (.int .i64 j))), (5, .val (Lit (.int .u32 x))), (4, .val (Lit (.int .i64 i))), (3, .val (IsApp g2 m4 5 .u8 ((dg 256 (U * 256 + x / 16777216)).reverse))), (904, .val (Sz m4)), (0, .val (IsLb m4 .u32 (dg 4294967296 V))), (2, .val (Lit (.string (strB []))))]) rfl
        clear H18
        refine flow_region (dsts := [some 39, some 40]) (refs := [[.pre 3], [.res 0]]) (outs := [.res 1, .pre 2, .pre 3, .pre 4, .pre 5, .pre 6, .pre 7, .pre 8]) (als := [false, false]) (posts := [.val (Lit (.int .u32 x)), .val (Lit (.int .u32 ((x * 256) % 4294967296)))])
          (out := [(40, .val (Lit (.int .u32 ((x * 256) % 4294967296)))), (6, .val (Lit (.int .i64 j))), (5, .val (Lit (.int .u32 x))), (4, .val (Lit (.int .i64 i))), (3, .val (IsApp g2 m4 5 .u8 ((dg 256 (U * 256 + x / 16777216)).reverse))), (904, .val (Sz m4)), (0, .val (IsLb m4 .u32 (dg 4294967296 V))), (2, .val (Lit (.string (strB []))))]) (nb := []) H28 2 [2] rfl (by kernel_rfl) rfl rfl ?_ ?_
        · refine .cons (.plain rfl (ok_move (.tmp 0 rfl))) ?_
          refine .cons (.plain rfl (ok_shl (r := ((x * 256) % 4294967296)) (.tmp 0 rfl) (.lit) (by omega) (shl8 x))) ?_
          exact .nil
        clear H28 a18 w18 B18
        intro a29 w29 B29 H29
        refine ops_one ?_
        refine tail_op (D := .val (Lit (.int .u32 ((x * 256) % 4294967296)))) (l' := [(5, .val (Lit (.int .u32 ((x * 256) % 4294967296)))), (40, .val (Lit (.int .u32 ((x * 256) % 4294967296)))), (6, .val (Lit (.int .i64 j))), (4, .val (Lit (.int .i64 i))), (3, .val (IsApp g2 m4 5 .u8 ((dg 256 (U * 256 + x / 16777216)).reverse))), (904, .val (Sz m4)), (0, .val (IsLb m4 .u32 (dg 4294967296 V))), (2, .val (Lit (.string (strB []))))]) H29 rfl rfl rfl (.plain rfl (ok_assign (.tmp 0 rfl))) rfl rfl ?_
        clear H29 a29 w29 B29
        intro a30 w30 B30 H30
        refine ops_done ?_
        refine block_normal ?_
        refine then_normal ?_
        refine flow_region (dsts := [some 23, some 24]) (refs := [[.pre 2], [.res 0]]) (outs := [.res 1, .pre 0, .pre 2, .pre 3, .pre 4, .pre 5, .pre 6, .pre 7]) (als := [false, false]) (posts := [.val (Lit (.int .i64 j)), .val (Lit (.int .i64 (j + 1)))])
          (out := [(24, .val (Lit (.int .i64 (j + 1)))), (5, .val (Lit (.int .u32 ((x * 256) % 4294967296)))), (6, .val (Lit (.int .i64 j))), (4, .val (Lit (.int .i64 i))), (3, .val (IsApp g2 m4 5 .u8 ((dg 256 (U * 256 + x / 16777216)).reverse))), (904, .val (Sz m4)), (0, .val (IsLb m4 .u32 (dg 4294967296 V))), (2, .val (Lit (.string (strB []))))]) (nb := []) H30 2 [2] rfl (by kernel_rfl) rfl rfl ?_ ?_
        · refine .cons (.plain rfl (ok_move (.tmp 0 rfl))) ?_
          refine .cons (.plain rfl (ok_add (r := (j + 1)) (.tmp 0 rfl) (.lit) (w_i64 (by omega)))) ?_
          exact .nil
        clear H30 a30 w30 B30
        intro a31 w31 B31 H31
        refine ops_one ?_
        refine tail_op (D := .val (Lit (.int .i64 (j + 1)))) (l' := [(6, .val (Lit (.int .i64 (j + 1)))), (24, .val (Lit (.int .i64 (j + 1)))), (5, .val (Lit (.int .u32 ((x * 256) % 4294967296)))), (4, .val (Lit (.int .i64 i))), (3, .val (IsApp g2 m4 5 .u8 ((dg 256 (U * 256 + x / 16777216)).reverse))), (904, .val (Sz m4)), (0, .val (IsLb m4 .u32 (dg 4294967296 V))), (2, .val (Lit (.string (strB []))))]) H31 rfl rfl rfl (.plain rfl (ok_assign (.tmp 0 rfl))) rfl rfl ?_
        clear H31 a31 w31 B31
        intro a32 w32 B32 H32
        refine ops_done ?_
        exact ⟨⟨g2, j + 1, (x * 256) % 4294967296, U * 256 + x / 16777216⟩, B32, by exact ⟨by omega, by omega, by omega, by omega, be_inv U x T j (by omega) hx hi⟩, St.pick H32 [0, 2, 3, 4, 5, 6, 7] rfl, by show (4 - (j + 1)).toNat < (4 - j).toNat; omega⟩
    · intro hc16
      replace hc16 := of_decide_eq_false hc16
      have hU := be_exit U x T j (by omega) (by omega) hi
      refine wp_exit ?_
      refine then_exit ?_
      refine then_exit ?_
      refine block_exit ?_
      refine block_normal ?_
      refine then_normal ?_
      have H33 := St.set1 H15 4 (D' := IsApp g2 m4 5 .u8 ((dg 256 (val 4294967296 ((dg 4294967296 V).drop ((i - 1) + 1).toNat))).reverse)) rfl (fun v w B h => by rw [show i - 1 + 1 = i by omega, be_drop _ i (by omega), ← hT, ← hU]; exact h) (l' := [(22, .val (IsB (decide (j < 4)))), (6, .val (Lit (.int .i64 j))), (5, .val (Lit (.int .u32 x))), (4, .val (Lit (.int .i64 i))), (3, .val (IsApp g2 m4 5 .u8 ((dg 256 (val 4294967296 ((dg 4294967296 V).drop ((i - 1) + 1).toNat))).reverse))), (904, .val (Sz m4)), (0, .val (IsLb m4 .u32 (dg 4294967296 V))), (2, .val (Lit (.string (strB []))))]) rfl
      clear H15
      refine flow_region (dsts := [some 15, some 16]) (refs := [[.pre 3], [.res 0]]) (outs := [.res 1, .pre 1, .pre 2, .pre 3, .pre 4, .pre 5, .pre 6, .pre 7]) (als := [false, false]) (posts := [.val (Lit (.int .i64 i)), .val (Lit (.int .i64 (i - 1)))])
        (out := [(16, .val (Lit (.int .i64 (i - 1)))), (6, .val (Lit (.int .i64 j))), (5, .val (Lit (.int .u32 x))), (4, .val (Lit (.int .i64 i))), (3, .val (IsApp g2 m4 5 .u8 ((dg 256 (val 4294967296 ((dg 4294967296 V).drop ((i - 1) + 1).toNat))).reverse))), (904, .val (Sz m4)), (0, .val (IsLb m4 .u32 (dg 4294967296 V))), (2, .val (Lit (.string (strB []))))]) (nb := []) H33 2 [2] rfl (by kernel_rfl) rfl rfl ?_ ?_
      · refine .cons (.plain rfl (ok_move (.tmp 0 rfl))) ?_
        refine .cons (.plain rfl (ok_sub (r := (i - 1)) (.tmp 0 rfl) (.lit) (w_i64 (by omega)))) ?_
        exact .nil
      clear H33 a15 w15 B15
      intro a34 w34 B34 H34
      refine ops_one ?_
      refine tail_op (D := .val (Lit (.int .i64 (i - 1)))) (l' := [(4, .val (Lit (.int .i64 (i - 1)))), (16, .val (Lit (.int .i64 (i - 1)))), (6, .val (Lit (.int .i64 j))), (5, .val (Lit (.int .u32 x))), (3, .val (IsApp g2 m4 5 .u8 ((dg 256 (val 4294967296 ((dg 4294967296 V).drop ((i - 1) + 1).toNat))).reverse))), (904, .val (Sz m4)), (0, .val (IsLb m4 .u32 (dg 4294967296 V))), (2, .val (Lit (.string (strB []))))]) H34 rfl rfl rfl (.plain rfl (ok_assign (.tmp 0 rfl))) rfl rfl ?_
      clear H34 a34 w34 B34
      intro a35 w35 B35 H35
      refine ops_done ?_
      exact ⟨⟨g2, i - 1⟩, B35, by exact ⟨by omega, by omega⟩, St.pick H35 [0, 4, 5, 6, 7] rfl, by show (i - 1 + 1).toNat < (i + 1).toNat; omega⟩
  · intro hc11
    replace hc11 := of_decide_eq_false hc11
    have hi1 : i = -1 := by omega
    have hfin : val 4294967296 ((dg 4294967296 V).drop (i + 1).toNat) = V := by rw [hi1]; exact hVL
    refine wp_exit ?_
    refine then_exit ?_
    refine then_exit ?_
    refine block_exit ?_
    refine then_normal ?_
    refine wp_seq ?_
    refine flow_region (dsts := [some 41, some 42, some 2]) (refs := [[.pre 2], [.res 0], [.res 1]]) (outs := [.res 2, .pre 1, .pre 2, .pre 3, .pre 4]) (als := [false, false, false]) (posts := [.val (IsApp g m4 5 .u8 ((dg 256 (val 4294967296 ((dg 4294967296 V).drop (i + 1).toNat))).reverse)), .val (Lit (.string (strB ((dg 256 (val 4294967296 ((dg 4294967296 V).drop (i + 1).toNat))).reverse)))), .val (Lit (.string (strB ((dg 256 (val 4294967296 ((dg 4294967296 V).drop (i + 1).toNat))).reverse))))])
      (out := [(2, .val (Lit (.string (strB ((dg 256 (val 4294967296 ((dg 4294967296 V).drop (i + 1).toNat))).reverse))))), (4, .val (Lit (.int .i64 i))), (3, .val (IsApp g m4 5 .u8 ((dg 256 (val 4294967296 ((dg 4294967296 V).drop (i + 1).toNat))).reverse))), (904, .val (Sz m4)), (0, .val (IsLb m4 .u32 (dg 4294967296 V)))]) (nb := []) H10 3 [] rfl (by kernel_rfl) rfl rfl ?_ ?_
    · refine .cons (.plain rfl (ok_move (.tmp 0 rfl))) ?_
      refine .cons (.plain rfl (ok_convL Tryz.underlying122 Tryz.underlying5 Tryz.underlying9 ((dg_dig 256 (by omega) _).reverse) (.weak (.tmp 0 rfl) weakAppL))) ?_
      refine .cons (.plain rfl (ok_assign (.tmp 0 rfl))) ?_
      exact .nil
    clear H10 a10 w10 B10
    intro a36 w36 B36 H36
    refine ops_done ?_
    refine then_normal ?_
    refine wp_ret ?_
    exact f_ret H36 rfl 0 rfl (fun v w B h => by rw [hfin] at h; exact h)
end Go.Proofs.YtbcbmkeeoognpaaGreatDoor


/- Arrays of plain values in variables. -/
set_option maxRecDepth 50000
namespace Go.Proofs.YtbcbmkeeoognpaaGreatDoor
open Go Go.RowKit

abbrev AL (l : List Value) : VP := Lit (.agg l.toArray)
section
variable {P : Program} {need : List (Tmp × FD)} {d : Option Tmp} {ty : TypeId} {pos : String} {af : Array Edge} {g : Option (Nat × Bool)} {x y x0 x1 x2 x3 : Operand} {D : VP}
theorem ok_allocL {t : TypeId} {n : Nat} {l : List Value} (hz : (P.info? t).map (·.zero) = some (some (.agg l.toArray))) (hn : l.toArray.size = n) : OpOk P ⟨d, .alloc t, ty, pos, af, g⟩ need (.box t n (AL l)) true := ok_alloc hz hn fun w B => rfl
theorem ok_build3 {t : TypeId} {u0 u1 u2 : Value} (hr : ∀ w, (Instr.build t #[(0, u0), (1, u1), (2, u2)]).run P w = .ok (.agg #[u0, u1, u2]) w) (h0 : Opd need x0 (.val (Lit u0))) (h1 : Opd need x1 (.val (Lit u1))) (h2 : Opd need x2 (.val (Lit u2))) :
    OpOk P ⟨d, .build t #[(0, x0), (1, x1), (2, x2)], ty, pos, af, g⟩ need (.val (AL [u0, u1, u2])) false :=
  OpOk.value fun a w B hF => by
    have e0 : a.eval x0 = u0 := h0 a w B hF
    have e1 : a.eval x1 = u1 := h1 a w B hF
    have e2 : a.eval x2 = u2 := h2 a w B hF
    refine ⟨_, ?_, rfl⟩
    have := hr w
    simp [execOp, e0, e1, e2, this]
theorem ok_build4 {t : TypeId} {u0 u1 u2 u3 : Value} (hr : ∀ w, (Instr.build t #[(0, u0), (1, u1), (2, u2), (3, u3)]).run P w = .ok (.agg #[u0, u1, u2, u3]) w) (h0 : Opd need x0 (.val (Lit u0))) (h1 : Opd need x1 (.val (Lit u1))) (h2 : Opd need x2 (.val (Lit u2))) (h3 : Opd need x3 (.val (Lit u3))) :
    OpOk P ⟨d, .build t #[(0, x0), (1, x1), (2, x2), (3, x3)], ty, pos, af, g⟩ need (.val (AL [u0, u1, u2, u3])) false :=
  OpOk.value fun a w B hF => by
    have e0 : a.eval x0 = u0 := h0 a w B hF
    have e1 : a.eval x1 = u1 := h1 a w B hF
    have e2 : a.eval x2 = u2 := h2 a w B hF
    have e3 : a.eval x3 = u3 := h3 a w B hF
    refine ⟨_, ?_, rfl⟩
    have := hr w
    simp [execOp, e0, e1, e2, e3, this]
theorem ok_idxAL {t : TypeId} {n : Nat} {i : Int} (j : Nat) (hr : ∀ b w, (Instr.indexAt t (.pointer (some ⟨b, 0, none⟩)) (.int .i64 i)).run P w = .ok (.pointer (some ⟨b, j, none⟩)) w) (h : Opd need x (.box t n D)) (h' : Opd need y (.val (Lit (.int .i64 i)))) : OpOk P ⟨d, .indexAddr t x y, ty, pos, af, g⟩ need (.ptr t n D j) false :=
  OpOk.value fun a w B hF => by
    obtain ⟨b, cs, h1, h2, h3, h4, h5, h6⟩ := h a w B hF
    have e2 : a.eval y = .int .i64 i := h' a w B hF
    refine ⟨.pointer (some ⟨b, j, none⟩), ?_, b, cs, rfl, h2, h3, h4, h5, h6⟩
    simp only [execOp, h1, e2, Sem.run_bind, hr b w, Result.andThen_ok, Sem.run_pure]
theorem ok_loadAL {t t2 : TypeId} {n j : Nat} {l : List Value} {u : Value} (hs : ∀ w : World, (isAgg t2).run P w = .ok false w) (hj : l[j]? = some u) (hn : j < n) (h : Opd need x (.ptr t n (AL l) j)) : OpOk P ⟨d, .load t2 x, ty, pos, af, g⟩ need (.val (Lit u)) false :=
  ok_loadPtr1 hs h hn fun cs v w B e hv => by
    injection e with e
    subst e
    rw [List.getElem?_toArray, hj] at hv
    injection hv with hv
    exact hv.symm
end
section
variable {P : Program} {need : List (Tmp × FD)} {d : Option Tmp} {ty : TypeId} {pos : String} {af : Array Edge} {g : Option (Nat × Bool)} {x : Operand} {D : VP}
theorem ok_extFB0 {lo : Nat} {b : Bool} (h : Opd need x (.val (IsFrB lo D b))) : OpOk P ⟨d, .extract x 0, ty, pos, af, g⟩ need (.val (IsFr lo D)) false :=
  OpOk.value fun a w B hF => by
    obtain ⟨g, h1, vs, e, hv⟩ := h a w B hF
    obtain ⟨v, h2, h3⟩ := hv.get 0 _ rfl
    refine ⟨v, ?_, g, h1, h3⟩
    simp [execOp, e, Instr.extract, h2, Sem.run_bind]
theorem ok_extFB1 {lo : Nat} {b : Bool} (h : Opd need x (.val (IsFrB lo D b))) : OpOk P ⟨d, .extract x 1, ty, pos, af, g⟩ need (.val (IsB b)) false :=
  OpOk.value fun a w B hF => by
    obtain ⟨g, h1, vs, e, hv⟩ := h a w B hF
    obtain ⟨v, h2, h3⟩ := hv.get 1 _ rfl
    refine ⟨v, ?_, h3⟩
    simp [execOp, e, Instr.extract, h2, Sem.run_bind]
end
/-- What a store into a variable leaves as it is. -/
def KeptV2 (Bs : Nat) (f : FD) : Prop := ∀ (v : Value) (w w' : World) (B : Bx) (b : Nat), Bs ≤ b → B b → (f.isBox = true → v ≠ .pointer (some ⟨b, 0, none⟩)) → Only b w w' → f.p v w B → f.p v w' B
inductive KeepV (Bs : Nat) : List (Tmp × FD) → Prop where
  | nil : KeepV Bs []
  | cons {s : Tmp} {f : FD} {l : List (Tmp × FD)} (h : KeptV2 Bs f) (t : KeepV Bs l) : KeepV Bs ((s, f) :: l)
theorem KeepV.all {Bs : Nat} {l : List (Tmp × FD)} (h : KeepV Bs l) : ∀ x ∈ l, KeptV2 Bs x.2 := by
  induction h with
  | nil => intro x hx; cases hx
  | cons h t ih =>
    intro x hx
    rcases List.mem_cons.1 hx with rfl | hx
    · exact h
    · exact ih x hx
theorem keptV_lit {Bs : Nat} {u : Value} : KeptV2 Bs (.val (Lit u)) := fun _ _ _ _ _ _ _ _ _ h => h
theorem keptV_sz {Bs q : Nat} : KeptV2 Bs (.val (Sz q)) := fun _ _ _ _ _ _ _ _ o h => by
  show q ≤ _
  rw [o.size]; exact h
theorem keptV_tab {Bs lo : Nat} (hl : lo ≤ Bs) : KeptV2 Bs (.val (TabV lo)) := fun v w w' B b hb hB _ o ⟨h1, h2⟩ => ⟨tab32_of (o.rest _ fun e2 => by omega) h1, h2⟩
theorem keptV_boxLit {Bs n : Nat} {t : TypeId} {u : Value} : KeptV2 Bs (.box t n (Lit u)) := fun v w w' B b hb hB hv o ⟨c, cs, h1, h2, h3, h4, h5, h6⟩ =>
  ⟨c, cs, h1, h2, by rw [o.size]; exact h3, (o.rest c fun e => hv rfl (by rw [h1, e])).trans h4, h5, h6⟩
theorem keptV_book {Bs n Bs2 : Nat} {t : TypeId} {Ow : Nat → Prop} {lo hi cnt : Nat} {ex : List (Option Nat)} : KeptV2 Bs (.box t n (IsBook Bs2 Ow lo hi ex cnt)) := fun v w w' B b hb hB hv o ⟨c, cs, k1, k2, k3, k4, k5, rv, L, e1, h1, h2, h3, h4, h5⟩ => by
  refine ⟨c, cs, k1, k2, by rw [o.size]; exact k3, (o.rest c fun e => hv rfl (by rw [k1, e])).trans k4, k5, rv, L, e1, h1, ⟨h2.1, ?_⟩, h3, h4, fun q hq => ⟨⟨(h5 q hq).1.le, (h5 q hq).1.big, (h5 q hq).1.cap, fun hc => ?_⟩, (h5 q hq).2⟩⟩
  · rcases h2.2 with h6 | ⟨g2, cap, cur, e1, e2, e3, e4⟩
    · exact .inl h6
    · exact .inr ⟨g2, cap, cur, e1, e2, (o.rest g2 fun e5 => (h3 g2 (by rw [e1]; rfl)).1 (e5 ▸ hB)).trans e3, e4⟩
  · obtain ⟨x, cs2, f1, f2, f3, f4⟩ := (h5 q hq).1.row hc
    obtain ⟨y, j1, j2, _⟩ := (h5 q hq).2 hc
    rw [f1] at j1
    have j3 : x = y := by injection j1
    subst j3
    exact ⟨x, cs2, f1, f2, (o.rest x fun e => j2 (e ▸ hB)).trans f3, f4⟩
section
variable {P : Program} {ops : Array Oper} {Q : Exit → Act → World → Prop} {N : Nat} {w0 : World} {B0 : Bx} {a : Act} {w : World} {B : Bx} {l : List (Tmp × FD)} {bxs : List Tmp}
theorem store_any {i : Nat} {K : Act → World → Prop} {t : TypeId} {n : Nat} {p : Tmp} {x : Operand} {D0 : VP} {u : List Value} {ty : TypeId} {pos : String} {af : Array Edge} (kp : Nat) (is : List Nat) {ks : List (Tmp × FD)}
    (H : St N w0 B0 a w B l bxs) (ho : ops[i]? = some ⟨none, .store t (.tmp p) x, ty, pos, af, none⟩) (T : TyOk P t n) (hp : l[kp]? = some (p, .box t n D0)) (hx : Opd l x (.val (AL u))) (hn : u.length = n) (h1 : u.all (·.oneCell') = true)
    (hks : is.map (fun i => l[i]?) = ks.map some) (hc : (bxs.contains p && ks.all fun y => y.2.isVal || (y.1 != p && y.2.isBox && bxs.contains y.1)) = true) (hk : KeepV w0.heap.size ks)
    (hK : ∀ w, St N w0 B0 a w B ((p, .box t n (AL u)) :: ks) bxs → K a w) : wpOp P ops Q i K a w := by
  simp only [Bool.and_eq_true, List.all_eq_true, Bool.or_eq_true, bne_iff_ne, ne_eq] at hc
  obtain ⟨hpb, hall⟩ := hc
  rw [List.contains_iff_mem] at hpb
  obtain ⟨b, cs0, e1, hB, hlt, hrow, hsz, hD0⟩ := H.fc.get kp hp
  have hxv : a.eval x = .agg u.toArray := hx a w B H.fc
  obtain ⟨c, k1, k2, k3⟩ := H.bx p hpb
  rw [e1] at k1
  have e4 : b = c := by injection k1 with k1; injection k1 with k1; injection k1
  subst e4
  have hone1 : (u.toArray).all (·.oneCell') = true := by simpa using h1
  have hrun : (storeVar t ⟨b, 0, none⟩ (.agg u.toArray)).run P w = .ok () (w.setRow b u.toArray) := run_storeVar_row w b t t cs0 u.toArray hrow (by rw [T.size, ← hn]; simp) (by rw [hsz, ← hn]; simp) hone1
  have hO : Only b w (w.setRow b u.toArray) := ⟨rfl, rfl, rfl, by simp [World.setRow], fun i hi => by simp [World.setRow, Array.getElem?_modify, Ne.symm hi]⟩
  unfold wpOp
  simp only [ho]
  rw [if_pos (by simp [Region.wanted])]
  refine .inl ?_
  unfold Oper.wp
  have hr2 : (execOp a.eval ⟨none, .store t (.tmp p) x, ty, pos, af, none⟩).run P w = .ok .skip (w.setRow b u.toArray) := by
    have e4 : a.eval (.tmp p) = .pointer (some ⟨b, 0, none⟩) := e1
    simp only [execOp, e4, hxv, Instr.storeAt, Instr.sureAddr, Sem.run_bind, Sem.run_pure, Result.andThen_ok, hrun]
  rw [hr2]
  show K a (w.setRow b u.toArray)
  have hs2 := setRow_heap w b cs0 u.toArray t (0, 0) hrow
  refine hK _ ⟨H.df, H.sz, Fct.of_all fun z hz => ?_, fun z hz => ?_, H.ap, H.bel.trans ⟨hO.os, hO.tape, hO.output, Nat.le_of_eq hO.size.symm, fun k hk => hO.rest k (by omega)⟩, fun k hk2 => by rw [hO.size]; exact H.own k hk2, H.own0⟩
  · rcases List.mem_cons.1 hz with rfl | hz
    · exact ⟨b, u.toArray, e1, hB, by rw [hO.size]; exact hlt, hs2, by simp [hn], rfl⟩
    · have hm : z ∈ l := by
        have h2 : some z ∈ is.map (fun i => l[i]?) := by rw [hks]; exact List.mem_map.2 ⟨z, hz, rfl⟩
        obtain ⟨i, _, hi⟩ := List.mem_map.1 h2
        exact List.mem_of_getElem? hi
      refine hk.all z hz _ _ _ _ b k3 hB (fun hb e => ?_) hO (H.fc.all z hm)
      rcases hall z hz with q3 | ⟨⟨q2, q4⟩, q5⟩
      · cases hf : z.2 with
        | val E => rw [hf] at hb; simp [FD.isBox] at hb
        | ptr t n E off => rw [hf] at q3; simp [FD.isVal] at q3
        | box t n E => rw [hf] at q3; simp [FD.isVal] at q3
      · exact H.ap z.1 (List.contains_iff_mem.1 q5) p hpb q2 (e.trans e1.symm)
  · obtain ⟨c2, k1, k2, k3⟩ := H.bx z hz
    exact ⟨c2, k1, by rw [hO.size]; exact k2, k3⟩
end
end Go.Proofs.YtbcbmkeeoognpaaGreatDoor


/- The arrays of the laws of layer 2. -/
set_option maxRecDepth 50000
namespace Go.Proofs.YtbcbmkeeoognpaaGreatDoor
open Go Go.RowKit

theorem aggStr (w : World) : (isAgg 9).run Tryz.prog w = .ok false w := by go_simp
theorem aggI64 (w : World) : (isAgg 3).run Tryz.prog w = .ok false w := by go_simp
theorem tyA4s : TyOk Tryz.prog 67 4 := ⟨⟨_, Tryz.underlying67, rfl⟩, by kernel_rfl⟩
theorem tyA3w : TyOk Tryz.prog 61 3 := ⟨⟨_, Tryz.underlying61, rfl⟩, by kernel_rfl⟩
theorem tyA3i : TyOk Tryz.prog 62 3 := ⟨⟨_, Tryz.underlying62, rfl⟩, by kernel_rfl⟩
theorem zeroA4s : (Tryz.prog.info? 67).map (·.zero) = some (some (.agg ([.string ⟨#[]⟩, .string ⟨#[]⟩, .string ⟨#[]⟩, .string ⟨#[]⟩] : List Value).toArray)) := by kernel_rfl
theorem zeroA3w : (Tryz.prog.info? 61).map (·.zero) = some (some (.agg ([.int .u32 0, .int .u32 0, .int .u32 0] : List Value).toArray)) := by kernel_rfl
theorem zeroA3i : (Tryz.prog.info? 62).map (·.zero) = some (some (.agg ([.int .i64 0, .int .i64 0, .int .i64 0] : List Value).toArray)) := by kernel_rfl
theorem runA4s (p q r s : ByteArray) (w : World) : (Instr.build 67 #[(0, .string p), (1, .string q), (2, .string r), (3, .string s)]).run Tryz.prog w = .ok (.agg #[.string p, .string q, .string r, .string s]) w := by go_simp
theorem runA3w (p q r : Int) (w : World) : (Instr.build 61 #[(0, .int .u32 p), (1, .int .u32 q), (2, .int .u32 r)]).run Tryz.prog w = .ok (.agg #[.int .u32 p, .int .u32 q, .int .u32 r]) w := by go_simp
theorem runA3i (p q r : Int) (w : World) : (Instr.build 62 #[(0, .int .i64 p), (1, .int .i64 q), (2, .int .i64 r)]).run Tryz.prog w = .ok (.agg #[.int .i64 p, .int .i64 q, .int .i64 r]) w := by go_simp
theorem idxA4s_0 (b : Nat) (w : World) : (Instr.indexAt 67 (.pointer (some ⟨b, 0, none⟩)) (.int .i64 0)).run Tryz.prog w = .ok (.pointer (some ⟨b, 0, none⟩)) w := by go_simp
theorem idxA4s_1 (b : Nat) (w : World) : (Instr.indexAt 67 (.pointer (some ⟨b, 0, none⟩)) (.int .i64 1)).run Tryz.prog w = .ok (.pointer (some ⟨b, 1, none⟩)) w := by go_simp
theorem idxA4s_2 (b : Nat) (w : World) : (Instr.indexAt 67 (.pointer (some ⟨b, 0, none⟩)) (.int .i64 2)).run Tryz.prog w = .ok (.pointer (some ⟨b, 2, none⟩)) w := by go_simp
theorem idxA4s_3 (b : Nat) (w : World) : (Instr.indexAt 67 (.pointer (some ⟨b, 0, none⟩)) (.int .i64 3)).run Tryz.prog w = .ok (.pointer (some ⟨b, 3, none⟩)) w := by go_simp
theorem idxA3w_0 (b : Nat) (w : World) : (Instr.indexAt 61 (.pointer (some ⟨b, 0, none⟩)) (.int .i64 0)).run Tryz.prog w = .ok (.pointer (some ⟨b, 0, none⟩)) w := by go_simp
theorem idxA3w_1 (b : Nat) (w : World) : (Instr.indexAt 61 (.pointer (some ⟨b, 0, none⟩)) (.int .i64 1)).run Tryz.prog w = .ok (.pointer (some ⟨b, 1, none⟩)) w := by go_simp
theorem idxA3w_2 (b : Nat) (w : World) : (Instr.indexAt 61 (.pointer (some ⟨b, 0, none⟩)) (.int .i64 2)).run Tryz.prog w = .ok (.pointer (some ⟨b, 2, none⟩)) w := by go_simp
theorem idxA3i_0 (b : Nat) (w : World) : (Instr.indexAt 62 (.pointer (some ⟨b, 0, none⟩)) (.int .i64 0)).run Tryz.prog w = .ok (.pointer (some ⟨b, 0, none⟩)) w := by go_simp
theorem idxA3i_1 (b : Nat) (w : World) : (Instr.indexAt 62 (.pointer (some ⟨b, 0, none⟩)) (.int .i64 1)).run Tryz.prog w = .ok (.pointer (some ⟨b, 1, none⟩)) w := by go_simp
theorem idxA3i_2 (b : Nat) (w : World) : (Instr.indexAt 62 (.pointer (some ⟨b, 0, none⟩)) (.int .i64 2)).run Tryz.prog w = .ok (.pointer (some ⟨b, 2, none⟩)) w := by go_simp
/-- Texts of lists of at most 2^20 limbs. -/
theorem fit_list {n : Nat} {xs : List Int} (h : xs.length = n) (hd : Dig 4294967296 xs) : FitK n (val 4294967296 xs) ∧ 0 ≤ val 4294967296 xs := by
  have h1 := val_lt (show (0 : Int) < 4294967296 by omega) hd
  have h2 := val_nonneg (show (0 : Int) < 4294967296 by omega) hd
  rw [h] at h1
  exact ⟨by unfold FitK; omega, h2⟩
theorem dg256_lenF {n : Nat} {V : Int} (h : FitK n V) (hV : 0 ≤ V) : (dg 256 V).length ≤ 4 * n := by
  refine dg_length_le 256 (by omega) (4 * n) V ?_
  unfold FitK at h
  rw [Int.pow_mul, show ((256 : Nat) : Int) ^ 4 = 4294967296 from by decide]
  omega
theorem bytes_size {n : Nat} {xs ys : List Int} {w : World} {B : Bx} {v u : Value} {m : Nat} (h : (IsAb m n xs).p v w B) (k : ∃ m n, (IsAb m n ys).p u w B) (hn : n ≤ 1048576) : (strB (dg 256 (val 4294967296 (overL xs ys))).reverse).size ≤ 140737488351232 := by
  obtain ⟨ad, c, _, h1, _⟩ := h
  obtain ⟨_, _, bd, d, _, k1, _⟩ := k
  obtain ⟨f1, f2⟩ := fit_list (n := n) (by rw [overL_len, h1.rds.len]) (overL_dig h1.dig k1.dig)
  have := dg256_lenF f1 f2
  rw [strB_size, List.length_reverse]
  omega
theorem digits_size {n : Nat} {xs ys : List Int} {w : World} {B : Bx} {v u : Value} {m : Nat} (h : (IsAb m n xs).p v w B) (k : ∃ m n, (IsAb m n ys).p u w B) (hn : n ≤ 1048576) : (strB (decL (val 4294967296 (overL xs ys)))).size ≤ 140737488351232 := by
  obtain ⟨ad, c, _, h1, _⟩ := h
  obtain ⟨_, _, bd, d, _, k1, _⟩ := k
  obtain ⟨f1, f2⟩ := fit_list (n := n) (by rw [overL_len, h1.rds.len]) (overL_dig h1.dig k1.dig)
  have := decL_le _ f2 n (by unfold FitK at f1; omega)
  rw [strB_size]
  omega
end Go.Proofs.YtbcbmkeeoognpaaGreatDoor

