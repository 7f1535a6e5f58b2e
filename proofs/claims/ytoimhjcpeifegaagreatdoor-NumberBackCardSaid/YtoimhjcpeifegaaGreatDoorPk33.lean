/- Contracts of functions, and plain facts, part 33. -/
import Derived.Test.YtoimhjcpeifegaaGreatDoorPk31
set_option linter.unusedVariables false
set_option linter.unusedSimpArgs false
/- VParts. (Printed by flow15.py.) -/
namespace Go.Proofs.YtoimhjcpeifegaaGreatDoor
open Go Go.RowKit

set_option maxRecDepth 20000 in
set_option maxHeartbeats 2000000 in
theorem con_parts (l : List VT) : Con Tryz.prog 77 [IsVq l, Lit (.int .i64 1048576)] (IsParts l) := by
  refine f_enter (N := 96) Tryz.ntmps77 (fun _ _ => by go_simp) Tryz.func77 rfl (by simp) ?_
  intro a0 w0 B0 H0
  replace H0 : St 96 w0 B0 a0 w0 B0 [(0, .val (IsVq l)), (1, .val (Lit (.int .i64 1048576)))] [] := H0
  have hbig := big_eq
  refine wp_seq ?_
  refine flow_region (dsts := [some 4]) (refs := [[]]) (outs := [.res 0, .pre 0, .pre 1]) (als := [false]) (posts := [.val (Lit (.int .i64 0))])
    (out := [(4, .val (Lit (.int .i64 0))), (0, .val (IsVq l)), (1, .val (Lit (.int .i64 1048576)))]) (nb := []) H0 1 [] rfl (by kernel_rfl) rfl rfl ?_ ?_
  · refine .cons (.plain rfl (ok_assign (.lit))) ?_
    exact .nil
  clear H0
  intro a1 w1 B1 H1
  refine ops_done ?_
  refine then_normal ?_
  refine wp_seq ?_
  refine flow_region (dsts := [some 5]) (refs := [[]]) (outs := [.res 0, .pre 0, .pre 1, .pre 2]) (als := [false]) (posts := [.val (Lit (.int .i64 0))])
    (out := [(5, .val (Lit (.int .i64 0))), (4, .val (Lit (.int .i64 0))), (0, .val (IsVq l)), (1, .val (Lit (.int .i64 1048576)))]) (nb := []) H1 1 [] rfl (by kernel_rfl) rfl rfl ?_ ?_
  · refine .cons (.plain rfl (ok_assign (.lit))) ?_
    exact .nil
  clear H1 a1 w1 B1
  intro a2 w2 B2 H2
  refine ops_done ?_
  refine then_normal ?_
  refine wp_seq ?_
  refine flow_region (dsts := [some 6]) (refs := [[]]) (outs := [.res 0, .pre 0, .pre 1, .pre 2, .pre 3]) (als := [false]) (posts := [.val (Lit (.int .i64 0))])
    (out := [(6, .val (Lit (.int .i64 0))), (5, .val (Lit (.int .i64 0))), (4, .val (Lit (.int .i64 0))), (0, .val (IsVq l)), (1, .val (Lit (.int .i64 1048576)))]) (nb := []) H2 1 [] rfl (by kernel_rfl) rfl rfl ?_ ?_
  · refine .cons (.plain rfl (ok_assign (.lit))) ?_
    exact .nil
  clear H2 a2 w2 B2
  intro a3 w3 B3 H3
  refine ops_done ?_
  refine then_normal ?_
  refine wp_seq ?_
  obtain ⟨m0, hmm0, hem0, H4⟩ := St.markV H3 904
  clear H3
  have H5 := St.setw H4 4 (D' := IsVl m0 l) rfl (fun v h => by rw [hem0]; exact h) (l' := [(904, .val (Sz m0)), (6, .val (Lit (.int .i64 0))), (5, .val (Lit (.int .i64 0))), (4, .val (Lit (.int .i64 0))), (0, .val (IsVl m0 l)), (1, .val (Lit (.int .i64 1048576)))]) rfl
  clear H4
  clear hem0
  refine flow_region (dsts := [some 12, some 7]) (refs := [[.pre 4], [.res 0]]) (outs := [.res 1, .pre 0, .pre 1, .pre 2, .pre 3, .pre 5]) (als := [false, false]) (posts := [.val (IsVl m0 l), .val (IsVl m0 l)])
    (out := [(7, .val (IsVl m0 l)), (904, .val (Sz m0)), (6, .val (Lit (.int .i64 0))), (5, .val (Lit (.int .i64 0))), (4, .val (Lit (.int .i64 0))), (1, .val (Lit (.int .i64 1048576)))]) (nb := []) H5 2 [] rfl (by kernel_rfl) rfl rfl ?_ ?_
  · refine .cons (.plain rfl (ok_move (.tmp 0 rfl))) ?_
    refine .cons (.plain rfl (ok_assign (.tmp 0 rfl))) ?_
    exact .nil
  clear H5 a3 w3 B3
  intro a6 w6 B6 H6
  refine ops_done ?_
  refine then_normal ?_
  refine wp_seq ?_
  refine wp_seq ?_
  refine flow_region (dsts := [some 8]) (refs := [[]]) (outs := [.res 0, .pre 0, .pre 1, .pre 2, .pre 3, .pre 4, .pre 5]) (als := [false]) (posts := [.val (Lit (.int .i64 0))])
    (out := [(8, .val (Lit (.int .i64 0))), (7, .val (IsVl m0 l)), (904, .val (Sz m0)), (6, .val (Lit (.int .i64 0))), (5, .val (Lit (.int .i64 0))), (4, .val (Lit (.int .i64 0))), (1, .val (Lit (.int .i64 1048576)))]) (nb := []) H6 1 [] rfl (by kernel_rfl) rfl rfl ?_ ?_
  · refine .cons (.plain rfl (ok_assign (.lit))) ?_
    exact .nil
  clear H6 a6 w6 B6
  intro a7 w7 B7 H7
  refine ops_done ?_
  refine then_normal ?_
  refine wp_block ?_
  refine f_loop (fun (⟨lv, n, sz, dp⟩ : List VT × Int × Int × Int) => [(8, .val (Lit (.int .i64 dp))), (7, .val (IsVl m0 lv)), (904, .val (Sz m0)), (6, .val (Lit (.int .i64 sz))), (5, .val (Lit (.int .i64 n))), (4, .val (Lit (.int .i64 0))), (1, .val (Lit (.int .i64 1048576)))]) (fun (⟨lv, n, sz, dp⟩ : List VT × Int × Int × Int) => 0 ≤ n ∧ n ≤ 1048576 ∧ 0 ≤ sz ∧ sz ≤ 2147483648 ∧ 0 ≤ dp ∧ dp ≤ 65537 ∧ ((∀ t ∈ lv, Wn t) → ∀ t ∈ l, Wn t)) (fun (⟨lv, n, sz, dp⟩ : List VT × Int × Int × Int) => (65537 - dp).toNat) (⟨l, 0, 0, 0⟩) (St.pick H7 [0, 1, 2, 3, 4, 5, 6] rfl) (by exact ⟨by omega, by omega, by omega, by omega, by omega, by omega, fun h => h⟩) ?_
  clear H7 a7 w7 B7
  rintro ⟨lv, n, sz, dp⟩ a8 w8 B8 hI8 H8
  replace hI8 : 0 ≤ n ∧ n ≤ 1048576 ∧ 0 ≤ sz ∧ sz ≤ 2147483648 ∧ 0 ≤ dp ∧ dp ≤ 65537 ∧ ((∀ t ∈ lv, Wn t) → ∀ t ∈ l, Wn t) := hI8
  replace H8 : St 96 w0 B0 a8 w8 B8 [(8, .val (Lit (.int .i64 dp))), (7, .val (IsVl m0 lv)), (904, .val (Sz m0)), (6, .val (Lit (.int .i64 sz))), (5, .val (Lit (.int .i64 n))), (4, .val (Lit (.int .i64 0))), (1, .val (Lit (.int .i64 1048576)))] [] := H8
  obtain ⟨n0, n1, s0, s1, d0, d1, hW⟩ := hI8
  refine wp_seq ?_
  refine wp_seq ?_
  have hlv := PVs.len (H8.fc.get 1 rfl : (IsVl m0 lv).p _ _ _)
  refine flow_region (dsts := [some 13, some 14, some 15]) (refs := [[.pre 1], [.res 0], [.res 1]]) (outs := [.res 2, .pre 0, .pre 1, .pre 2, .pre 3, .pre 4, .pre 5, .pre 6]) (als := [false, false, false]) (posts := [.val (IsVl m0 lv), .val (Lit (.int .i64 (List.length lv : Int))), .val (IsB (decide (0 < (List.length lv : Int))))])
    (out := [(15, .val (IsB (decide (0 < (List.length lv : Int))))), (8, .val (Lit (.int .i64 dp))), (7, .val (IsVl m0 lv)), (904, .val (Sz m0)), (6, .val (Lit (.int .i64 sz))), (5, .val (Lit (.int .i64 n))), (4, .val (Lit (.int .i64 0))), (1, .val (Lit (.int .i64 1048576)))]) (nb := []) H8 3 [] rfl (by kernel_rfl) rfl rfl ?_ ?_
  · refine .cons (.plain rfl (ok_move (.tmp 0 rfl))) ?_
    refine .cons (.plain rfl (ok_lenVl Tryz.underlying35 (.tmp 0 rfl))) ?_
    refine .cons (.plain rfl (ok_cmp (.tmp 0 rfl) (.lit) rfl)) ?_
    exact .nil
  clear H8 a8 w8 B8
  intro a9 w9 B9 H9
  refine ops_done ?_
  refine then_normal ?_
  refine f_cond H9 (.tmp 0 rfl) ?_ ?_
  · intro hc10
    replace hc10 := of_decide_eq_true hc10
    refine wp_skip ?_
    refine then_normal ?_
    refine wp_seq ?_
    refine wp_block ?_
    refine wp_seq ?_
    refine flow_region (dsts := [some 18, some 19, some 20, some 21]) (refs := [[.pre 5], [.pre 2], [.res 1], [.res 0, .res 2]]) (outs := [.res 3, .pre 1, .pre 2, .pre 3, .pre 4, .pre 5, .pre 6, .pre 7]) (als := [false, false, false, false]) (posts := [.val (Lit (.int .i64 n)), .val (IsVl m0 lv), .val (Lit (.int .i64 (List.length lv : Int))), .val (Lit (.int .i64 (n + (List.length lv : Int))))])
      (out := [(21, .val (Lit (.int .i64 (n + (List.length lv : Int))))), (8, .val (Lit (.int .i64 dp))), (7, .val (IsVl m0 lv)), (904, .val (Sz m0)), (6, .val (Lit (.int .i64 sz))), (5, .val (Lit (.int .i64 n))), (4, .val (Lit (.int .i64 0))), (1, .val (Lit (.int .i64 1048576)))]) (nb := []) H9 4 [4] rfl (by kernel_rfl) rfl rfl ?_ ?_
    · refine .cons (.plain rfl (ok_move (.tmp 0 rfl))) ?_
      refine .cons (.plain rfl (ok_move (.tmp 0 rfl))) ?_
      refine .cons (.plain rfl (ok_lenVl Tryz.underlying35 (.tmp 0 rfl))) ?_
      refine .cons (.plain rfl (ok_add (r := (n + (List.length lv : Int))) (.tmp 0 rfl) (.tmp 1 rfl) (w_i64 (by omega)))) ?_
      exact .nil
    clear H9 a9 w9 B9
    intro a11 w11 B11 H11
    refine ops_one ?_
    refine tail_op (D := .val (Lit (.int .i64 (n + (List.length lv : Int))))) (l' := [(5, .val (Lit (.int .i64 (n + (List.length lv : Int))))), (21, .val (Lit (.int .i64 (n + (List.length lv : Int))))), (8, .val (Lit (.int .i64 dp))), (7, .val (IsVl m0 lv)), (904, .val (Sz m0)), (6, .val (Lit (.int .i64 sz))), (4, .val (Lit (.int .i64 0))), (1, .val (Lit (.int .i64 1048576)))]) H11 rfl rfl rfl (.plain rfl (ok_assign (.tmp 0 rfl))) rfl rfl ?_
    clear H11 a11 w11 B11
    intro a12 w12 B12 H12
    refine ops_done ?_
    refine then_normal ?_
    refine wp_seq ?_
    refine wp_seq ?_
    refine flow_region (dsts := [some 22, some 23, some 24, some 25, some 26, some 27, some 28]) (refs := [[.pre 0], [.pre 7], [.res 0, .res 1], [.res 2], [.res 3, .pre 2], [.res 3, .res 4], [.res 3, .res 5]]) (outs := [.res 6, .pre 0, .pre 2, .pre 3, .pre 4, .pre 5, .pre 6, .pre 7]) (als := [false, false, false, false, false, false, false]) (posts := [.val (Lit (.int .i64 (n + (List.length lv : Int)))), .val (Lit (.int .i64 1048576)), .val (IsB (decide (1048576 < n + (List.length lv : Int)))), .val (IsB (decide (1048576 < n + (List.length lv : Int)))), .val (Grd ((decide (1048576 < n + (List.length lv : Int))) == false) (Lit (.int .i64 dp))), .val (Grd ((decide (1048576 < n + (List.length lv : Int))) == false) (IsB (decide (65536 < dp)))), .val (IsB ((decide (1048576 < n + (List.length lv : Int))) || (decide (65536 < dp))))])
      (out := [(28, .val (IsB ((decide (1048576 < n + (List.length lv : Int))) || (decide (65536 < dp))))), (5, .val (Lit (.int .i64 (n + (List.length lv : Int))))), (8, .val (Lit (.int .i64 dp))), (7, .val (IsVl m0 lv)), (904, .val (Sz m0)), (6, .val (Lit (.int .i64 sz))), (4, .val (Lit (.int .i64 0))), (1, .val (Lit (.int .i64 1048576)))]) (nb := []) H12 7 [] rfl (by kernel_rfl) rfl rfl ?_ ?_
    · refine .cons (.plain rfl (ok_move (.tmp 0 rfl))) ?_
      refine .cons (.plain rfl (ok_move (.tmp 0 rfl))) ?_
      refine .cons (.plain rfl (ok_cmp (.tmp 0 rfl) (.tmp 1 rfl) rfl)) ?_
      refine .cons (.plain rfl (ok_move (.tmp 0 rfl))) ?_
      refine .cons (.sym 3 false (decide (1048576 < n + (List.length lv : Int))) ((decide (1048576 < n + (List.length lv : Int))) == false) rfl rfl rfl 0 (need' := [(25, .val (IsB (decide (1048576 < n + (List.length lv : Int))))), (8, .val (Lit (.int .i64 dp)))]) rfl rfl (fun a w B e h => ⟨h.1, h.2.1, trivial⟩) (fun e => ok_move (.tmp 1 rfl))) ?_
      refine .cons (.sym 3 false (decide (1048576 < n + (List.length lv : Int))) ((decide (1048576 < n + (List.length lv : Int))) == false) rfl rfl rfl 0 (need' := [(25, .val (IsB (decide (1048576 < n + (List.length lv : Int))))), (26, .val (Lit (.int .i64 dp)))]) rfl rfl (fun a w B e h => ⟨h.1, h.2.1.1 (e), trivial⟩) (fun e => ok_cmp (.tmp 1 rfl) (.lit) rfl)) ?_
      refine .cons (.plain rfl (ok_pickS (decide (1048576 < n + (List.length lv : Int))) (.tmp 0 rfl) (fun e => Opd.eqB (.lit) (by rw [e]; rfl)) (fun e => Opd.eqB (Opd.grd (.tmp 1 rfl) (by first | (rw [e]; rfl) | (simp only [e]; rfl) | (simp [*] at *; done))) (by rw [e]; rfl)))) ?_
      exact .nil
    clear H12 a12 w12 B12
    intro a13 w13 B13 H13
    refine ops_done ?_
    refine then_normal ?_
    refine f_cond H13 (.tmp 0 rfl) ?_ ?_
    · intro hc14
      refine wp_seq ?_
      refine flow_region (dsts := [some 29, some 30, some 4]) (refs := [[.pre 7], [.res 0], [.res 1]]) (outs := [.res 2, .pre 1, .pre 2, .pre 3, .pre 4, .pre 5, .pre 7]) (als := [false, false, false]) (posts := [.val (Lit (.int .i64 1048576)), .val (Lit (.int .i64 1048577)), .val (Lit (.int .i64 1048577))])
        (out := [(4, .val (Lit (.int .i64 1048577))), (5, .val (Lit (.int .i64 (n + (List.length lv : Int))))), (8, .val (Lit (.int .i64 dp))), (7, .val (IsVl m0 lv)), (904, .val (Sz m0)), (6, .val (Lit (.int .i64 sz))), (1, .val (Lit (.int .i64 1048576)))]) (nb := []) H13 3 [] rfl (by kernel_rfl) rfl rfl ?_ ?_
      · refine .cons (.plain rfl (ok_move (.tmp 0 rfl))) ?_
        refine .cons (.plain rfl (ok_add (r := 1048577) (.tmp 0 rfl) (.lit) (by decide))) ?_
        refine .cons (.plain rfl (ok_assign (.tmp 0 rfl))) ?_
        exact .nil
      clear H13 a13 w13 B13
      intro a15 w15 B15 H15
      refine ops_done ?_
      refine then_normal ?_
      refine wp_ret ?_
      refine then_ret ?_
      refine block_ret ?_
      refine then_ret ?_
      refine then_ret ?_
      refine block_ret ?_
      refine then_ret ?_
      exact f_ret H15 rfl 0 rfl (fun v w B h => by exact ⟨1048577, h, fun h => absurd h (by omega)⟩)
    · intro hc14
      have hnd : n + (List.length lv : Int) ≤ 1048576 ∧ dp ≤ 65536 := by simp only [Bool.or_eq_false_iff, decide_eq_false_iff_not] at hc14; omega
      refine wp_skip ?_
      refine then_normal ?_
      refine wp_seq ?_
      obtain ⟨q, hmq, heq, H16⟩ := St.markV H13 916
      clear H13
      have H17 := St.setw H16 4 (D' := IsVs q m0 lv) rfl (fun v h => by rw [heq]; exact h) (l' := [(916, .val (Sz q)), (28, .val (IsB ((decide (1048576 < n + (List.length lv : Int))) || (decide (65536 < dp))))), (5, .val (Lit (.int .i64 (n + (List.length lv : Int))))), (8, .val (Lit (.int .i64 dp))), (7, .val (IsVs q m0 lv)), (904, .val (Sz m0)), (6, .val (Lit (.int .i64 sz))), (4, .val (Lit (.int .i64 0))), (1, .val (Lit (.int .i64 1048576)))]) rfl
      clear H16
      have hmqq : m0 ≤ q := by rw [heq]; exact (H17.fc.get 5 rfl : (Sz m0).p _ _ _)
      clear heq
      refine flow_region (dsts := [some 9]) (refs := [[]]) (outs := [.res 0, .pre 0, .pre 2, .pre 3, .pre 4, .pre 5, .pre 6, .pre 7, .pre 8]) (als := [false]) (posts := [.val (IsNv none q m0 ([]))])
        (out := [(9, .val (IsNv none q m0 ([]))), (916, .val (Sz q)), (5, .val (Lit (.int .i64 (n + (List.length lv : Int))))), (8, .val (Lit (.int .i64 dp))), (7, .val (IsVs q m0 lv)), (904, .val (Sz m0)), (6, .val (Lit (.int .i64 sz))), (4, .val (Lit (.int .i64 0))), (1, .val (Lit (.int .i64 1048576)))]) (nb := []) H17 1 [] rfl (by kernel_rfl) rfl rfl ?_ ?_
      · refine .cons (.plain rfl (ok_nilV)) ?_
        exact .nil
      clear H17 a13 w13 B13
      intro a18 w18 B18 H18
      refine ops_done ?_
      refine then_normal ?_
      refine wp_seq ?_
      refine wp_seq ?_
      refine flow_region (dsts := [some 10]) (refs := [[]]) (outs := [.res 0, .pre 0, .pre 1, .pre 2, .pre 3, .pre 4, .pre 5, .pre 6, .pre 7, .pre 8]) (als := [false]) (posts := [.val (Lit (.int .i64 0))])
        (out := [(10, .val (Lit (.int .i64 0))), (9, .val (IsNv none q m0 ([]))), (916, .val (Sz q)), (5, .val (Lit (.int .i64 (n + (List.length lv : Int))))), (8, .val (Lit (.int .i64 dp))), (7, .val (IsVs q m0 lv)), (904, .val (Sz m0)), (6, .val (Lit (.int .i64 sz))), (4, .val (Lit (.int .i64 0))), (1, .val (Lit (.int .i64 1048576)))]) (nb := []) H18 1 [] rfl (by kernel_rfl) rfl rfl ?_ ?_
      · refine .cons (.plain rfl (ok_assign (.lit))) ?_
        exact .nil
      clear H18 a18 w18 B18
      intro a19 w19 B19 H19
      refine ops_done ?_
      refine then_normal ?_
      refine wp_block ?_
      have H20 := St.set1 H19 1 (D' := IsNv none q m0 (kidsOf (lv.take (0 : Int).toNat))) rfl (fun v w B h => h) (l' := [(10, .val (Lit (.int .i64 0))), (9, .val (IsNv none q m0 (kidsOf (lv.take (0 : Int).toNat)))), (916, .val (Sz q)), (5, .val (Lit (.int .i64 (n + (List.length lv : Int))))), (8, .val (Lit (.int .i64 dp))), (7, .val (IsVs q m0 lv)), (904, .val (Sz m0)), (6, .val (Lit (.int .i64 sz))), (4, .val (Lit (.int .i64 0))), (1, .val (Lit (.int .i64 1048576)))]) rfl
      clear H19
      refine f_loop (fun (⟨g, i, n2, sz2⟩ : Option Nat × Int × Int × Int) => [(10, .val (Lit (.int .i64 i))), (9, .val (IsNv g q m0 (kidsOf (lv.take i.toNat)))), (916, .val (Sz q)), (5, .val (Lit (.int .i64 n2))), (8, .val (Lit (.int .i64 dp))), (7, .val (IsVs q m0 lv)), (904, .val (Sz m0)), (6, .val (Lit (.int .i64 sz2))), (4, .val (Lit (.int .i64 0))), (1, .val (Lit (.int .i64 1048576)))]) (fun (⟨g, i, n2, sz2⟩ : Option Nat × Int × Int × Int) => (0 ≤ i ∧ i ≤ (lv.length : Int)) ∧ 0 ≤ n2 ∧ (0 ≤ sz2 ∧ sz2 ≤ 2147483648) ∧ n2 + ((kidsOf (lv.take i.toNat)).length : Int) ≤ 1048576 ∧ ∀ t ∈ lv.take i.toNat, t.d.xs.length ≤ 1048576 ∧ t.kids.length ≤ 1048576) (fun (⟨g, i, n2, sz2⟩ : Option Nat × Int × Int × Int) => ((lv.length : Int) - i).toNat) (⟨none, 0, n + (List.length lv : Int), sz⟩) (St.pick H20 [0, 1, 2, 3, 4, 5, 6, 7, 8, 9] rfl) (by exact ⟨⟨by omega, by omega⟩, by omega, ⟨by omega, by omega⟩, by rw [show (kidsOf (lv.take (0 : Int).toNat)).length = 0 from rfl]; omega, fun t ht => by cases ht⟩) ?_
      clear H20 a19 w19 B19
      rintro ⟨g, i, n2, sz2⟩ a21 w21 B21 hI21 H21
      replace hI21 : (0 ≤ i ∧ i ≤ (lv.length : Int)) ∧ 0 ≤ n2 ∧ (0 ≤ sz2 ∧ sz2 ≤ 2147483648) ∧ n2 + ((kidsOf (lv.take i.toNat)).length : Int) ≤ 1048576 ∧ ∀ t ∈ lv.take i.toNat, t.d.xs.length ≤ 1048576 ∧ t.kids.length ≤ 1048576 := hI21
      replace H21 : St 96 w0 B0 a21 w21 B21 [(10, .val (Lit (.int .i64 i))), (9, .val (IsNv g q m0 (kidsOf (lv.take i.toNat)))), (916, .val (Sz q)), (5, .val (Lit (.int .i64 n2))), (8, .val (Lit (.int .i64 dp))), (7, .val (IsVs q m0 lv)), (904, .val (Sz m0)), (6, .val (Lit (.int .i64 sz2))), (4, .val (Lit (.int .i64 0))), (1, .val (Lit (.int .i64 1048576)))] [] := H21
      obtain ⟨⟨i0, i1⟩, hi1, ⟨hi2, hi2b⟩, hi3, hi4⟩ := hI21
      refine wp_seq ?_
      refine wp_seq ?_
      refine flow_region (dsts := [some 31, some 32, some 33, some 34]) (refs := [[.pre 0], [.pre 5], [.res 1], [.res 0, .res 2]]) (outs := [.res 3, .pre 0, .pre 1, .pre 2, .pre 3, .pre 4, .pre 5, .pre 6, .pre 7, .pre 8, .pre 9]) (als := [false, false, false, false]) (posts := [.val (Lit (.int .i64 i)), .val (IsVs q m0 lv), .val (Lit (.int .i64 (List.length lv : Int))), .val (IsB (decide (i < (List.length lv : Int))))])
        (out := [(34, .val (IsB (decide (i < (List.length lv : Int))))), (10, .val (Lit (.int .i64 i))), (9, .val (IsNv g q m0 (kidsOf (lv.take i.toNat)))), (916, .val (Sz q)), (5, .val (Lit (.int .i64 n2))), (8, .val (Lit (.int .i64 dp))), (7, .val (IsVs q m0 lv)), (904, .val (Sz m0)), (6, .val (Lit (.int .i64 sz2))), (4, .val (Lit (.int .i64 0))), (1, .val (Lit (.int .i64 1048576)))]) (nb := []) H21 4 [] rfl (by kernel_rfl) rfl rfl ?_ ?_
      · refine .cons (.plain rfl (ok_move (.tmp 0 rfl))) ?_
        refine .cons (.plain rfl (ok_move (.tmp 0 rfl))) ?_
        refine .cons (.plain rfl (ok_lenVs Tryz.underlying35 (.tmp 0 rfl))) ?_
        refine .cons (.plain rfl (ok_cmp (.tmp 0 rfl) (.tmp 1 rfl) rfl)) ?_
        exact .nil
      clear H21 a21 w21 B21
      intro a22 w22 B22 H22
      refine ops_done ?_
      refine then_normal ?_
      refine f_cond H22 (.tmp 0 rfl) ?_ ?_
      · intro hc23
        replace hc23 := of_decide_eq_true hc23
        obtain ⟨t, ht⟩ : ∃ t, lv[i.toNat]? = some t := ⟨_, List.getElem?_eq_getElem (by omega)⟩
        obtain ⟨hb1, hb2, hb3⟩ := PVs.elem (H22.fc.get 6 rfl : (IsVs q m0 lv).p _ _ _) ht
        refine wp_skip ?_
        refine then_normal ?_
        refine wp_seq ?_
        refine wp_block ?_
        refine wp_seq ?_
        refine flow_region (dsts := [some 37, some 38, some 39, some 40, some 41, some 42, some 43, some 44, some 45]) (refs := [[.pre 4], [.pre 6], [.pre 1], [.res 1, .res 2], [.res 3], [.res 4], [.res 5], [.res 6], [.res 0, .res 7]]) (outs := [.res 8, .pre 1, .pre 2, .pre 3, .pre 4, .pre 5, .pre 6, .pre 7, .pre 8, .pre 9, .pre 10]) (als := [false, false, false, false, false, false, false, false, false]) (posts := [.val (Lit (.int .i64 n2)), .val (IsVs q m0 lv), .val (Lit (.int .i64 i)), .val (IsPv q m0 t 0), .val (IsPv q m0 t 2), .val (IsPv q m0 t 3), .val (IsLb m0 .u32 ((VT.d t).xs)), .val (Lit (.int .i64 (List.length ((VT.d t).xs) : Int))), .val (Lit (.int .i64 (n2 + (List.length ((VT.d t).xs) : Int))))])
          (out := [(45, .val (Lit (.int .i64 (n2 + (List.length ((VT.d t).xs) : Int))))), (10, .val (Lit (.int .i64 i))), (9, .val (IsNv g q m0 (kidsOf (lv.take i.toNat)))), (916, .val (Sz q)), (5, .val (Lit (.int .i64 n2))), (8, .val (Lit (.int .i64 dp))), (7, .val (IsVs q m0 lv)), (904, .val (Sz m0)), (6, .val (Lit (.int .i64 sz2))), (4, .val (Lit (.int .i64 0))), (1, .val (Lit (.int .i64 1048576)))]) (nb := []) H22 9 [9] rfl (by kernel_rfl) rfl rfl ?_ ?_
        · refine .cons (.plain rfl (ok_move (.tmp 0 rfl))) ?_
          refine .cons (.plain rfl (ok_move (.tmp 0 rfl))) ?_
          refine .cons (.plain rfl (ok_move (.tmp 0 rfl))) ?_
          refine .cons (.plain rfl (ok_idxVs i.toNat Tryz.underlying35 szV (.tmp 0 rfl) (.tmp 1 rfl) (by omega) ht)) ?_
          refine .cons (.plain rfl (ok_pvF2 (.tmp 0 rfl))) ?_
          refine .cons (.plain rfl (ok_pvI1 (.tmp 0 rfl))) ?_
          refine .cons (.plain rfl (ok_pvMag (.tmp 0 rfl))) ?_
          refine .cons (.plain rfl (ok_lenL Tryz.underlying32 (.weak (.tmp 0 rfl) weakLbL))) ?_
          refine .cons (.plain rfl (ok_add (r := (n2 + (List.length ((VT.d t).xs) : Int))) (.tmp 0 rfl) (.tmp 1 rfl) (w_i64 (by omega)))) ?_
          exact .nil
        clear H22 a22 w22 B22
        intro a24 w24 B24 H24
        refine ops_one ?_
        refine tail_op (D := .val (Lit (.int .i64 (n2 + (List.length ((VT.d t).xs) : Int))))) (l' := [(5, .val (Lit (.int .i64 (n2 + (List.length ((VT.d t).xs) : Int))))), (45, .val (Lit (.int .i64 (n2 + (List.length ((VT.d t).xs) : Int))))), (10, .val (Lit (.int .i64 i))), (9, .val (IsNv g q m0 (kidsOf (lv.take i.toNat)))), (916, .val (Sz q)), (8, .val (Lit (.int .i64 dp))), (7, .val (IsVs q m0 lv)), (904, .val (Sz m0)), (6, .val (Lit (.int .i64 sz2))), (4, .val (Lit (.int .i64 0))), (1, .val (Lit (.int .i64 1048576)))]) H24 rfl rfl rfl (.plain rfl (ok_assign (.tmp 0 rfl))) rfl rfl ?_
        clear H24 a24 w24 B24
        intro a25 w25 B25 H25
        refine ops_done ?_
        refine then_normal ?_
        refine wp_seq ?_
        refine flow_region (dsts := [some 46, some 47, some 48, some 49, some 50, some 51, some 52, some 53]) (refs := [[.pre 8], [.pre 6], [.pre 2], [.res 1, .res 2], [.res 3], [.res 4], [.res 5], [.res 0, .res 6]]) (outs := [.res 7, .pre 0, .pre 2, .pre 3, .pre 4, .pre 5, .pre 6, .pre 7, .pre 8, .pre 9, .pre 10]) (als := [false, false, false, false, false, false, false, false]) (posts := [.val (Lit (.int .i64 sz2)), .val (IsVs q m0 lv), .val (Lit (.int .i64 i)), .val (IsPv q m0 t 0), .val (IsPv q m0 t 6), .val (Lit (.string ((VT.d t).t))), .val (Lit (.int .i64 (((VT.d t).t).size : Int))), .val (Lit (.int .i64 (sz2 + (((VT.d t).t).size : Int))))])
          (out := [(53, .val (Lit (.int .i64 (sz2 + (((VT.d t).t).size : Int))))), (5, .val (Lit (.int .i64 (n2 + (List.length ((VT.d t).xs) : Int))))), (10, .val (Lit (.int .i64 i))), (9, .val (IsNv g q m0 (kidsOf (lv.take i.toNat)))), (916, .val (Sz q)), (8, .val (Lit (.int .i64 dp))), (7, .val (IsVs q m0 lv)), (904, .val (Sz m0)), (6, .val (Lit (.int .i64 sz2))), (4, .val (Lit (.int .i64 0))), (1, .val (Lit (.int .i64 1048576)))]) (nb := []) H25 8 [8] rfl (by kernel_rfl) rfl rfl ?_ ?_
        · refine .cons (.plain rfl (ok_move (.tmp 0 rfl))) ?_
          refine .cons (.plain rfl (ok_move (.tmp 0 rfl))) ?_
          refine .cons (.plain rfl (ok_move (.tmp 0 rfl))) ?_
          refine .cons (.plain rfl (ok_idxVs i.toNat Tryz.underlying35 szV (.tmp 0 rfl) (.tmp 1 rfl) (by omega) ht)) ?_
          refine .cons (.plain rfl (ok_pvF5 (.tmp 0 rfl))) ?_
          refine .cons (.plain rfl (ok_pvText (.tmp 0 rfl))) ?_
          refine .cons (.plain rfl (ok_lenS Tryz.underlying9 (.tmp 0 rfl))) ?_
          refine .cons (.plain rfl (ok_add (r := (sz2 + (((VT.d t).t).size : Int))) (.tmp 0 rfl) (.tmp 1 rfl) (w_i64 (by omega)))) ?_
          exact .nil
        clear H25 a25 w25 B25
        intro a26 w26 B26 H26
        refine ops_one ?_
        refine tail_op (D := .val (Lit (.int .i64 (sz2 + (((VT.d t).t).size : Int))))) (l' := [(6, .val (Lit (.int .i64 (sz2 + (((VT.d t).t).size : Int))))), (53, .val (Lit (.int .i64 (sz2 + (((VT.d t).t).size : Int))))), (5, .val (Lit (.int .i64 (n2 + (List.length ((VT.d t).xs) : Int))))), (10, .val (Lit (.int .i64 i))), (9, .val (IsNv g q m0 (kidsOf (lv.take i.toNat)))), (916, .val (Sz q)), (8, .val (Lit (.int .i64 dp))), (7, .val (IsVs q m0 lv)), (904, .val (Sz m0)), (4, .val (Lit (.int .i64 0))), (1, .val (Lit (.int .i64 1048576)))]) H26 rfl rfl rfl (.plain rfl (ok_assign (.tmp 0 rfl))) rfl rfl ?_
        clear H26 a26 w26 B26
        intro a27 w27 B27 H27
        refine ops_done ?_
        refine then_normal ?_
        refine wp_seq ?_
        refine wp_seq ?_
        refine flow_region (dsts := [some 54, some 55, some 56, some 57, some 58, some 59, some 60, some 61, some 62, some 63, some 64, some 65, some 66, some 67, some 68, some 69, some 70]) (refs := [[.pre 2], [.pre 4], [.res 1], [.res 0, .res 2], [.pre 7], [.pre 3], [.res 4, .res 5], [.res 6], [.res 7], [.res 8], [.res 3, .res 9], [.pre 10], [.res 10, .res 11], [.res 12], [.res 13, .pre 0], [.res 13, .res 14], [.res 13, .res 15]]) (outs := [.res 16, .pre 0, .pre 2, .pre 3, .pre 4, .pre 5, .pre 6, .pre 7, .pre 8, .pre 9, .pre 10]) (als := [false, false, false, false, false, false, false, false, false, false, false, false, false, false, false, false, false]) (posts := [.val (Lit (.int .i64 (n2 + (List.length ((VT.d t).xs) : Int)))), .val (IsNv g q m0 (kidsOf (lv.take i.toNat))), .val (Lit (.int .i64 (List.length (kidsOf (lv.take i.toNat)) : Int))), .val (Lit (.int .i64 ((n2 + (List.length ((VT.d t).xs) : Int)) + (List.length (kidsOf (lv.take i.toNat)) : Int)))), .val (IsVs q m0 lv), .val (Lit (.int .i64 i)), .val (IsPv q m0 t 0), .val (IsPv q m0 t 7), .val (IsVs m0 m0 (VT.kids t)), .val (Lit (.int .i64 (List.length (VT.kids t) : Int))), .val (Lit (.int .i64 (((n2 + (List.length ((VT.d t).xs) : Int)) + (List.length (kidsOf (lv.take i.toNat)) : Int)) + (List.length (VT.kids t) : Int)))), .val (Lit (.int .i64 1048576)), .val (IsB (decide (1048576 < ((n2 + (List.length ((VT.d t).xs) : Int)) + (List.length (kidsOf (lv.take i.toNat)) : Int)) + (List.length (VT.kids t) : Int)))), .val (IsB (decide (1048576 < ((n2 + (List.length ((VT.d t).xs) : Int)) + (List.length (kidsOf (lv.take i.toNat)) : Int)) + (List.length (VT.kids t) : Int)))), .val (Grd ((decide (1048576 < ((n2 + (List.length ((VT.d t).xs) : Int)) + (List.length (kidsOf (lv.take i.toNat)) : Int)) + (List.length (VT.kids t) : Int))) == false) (Lit (.int .i64 (sz2 + (((VT.d t).t).size : Int))))), .val (Grd ((decide (1048576 < ((n2 + (List.length ((VT.d t).xs) : Int)) + (List.length (kidsOf (lv.take i.toNat)) : Int)) + (List.length (VT.kids t) : Int))) == false) (IsB (decide (2147483648 < sz2 + (((VT.d t).t).size : Int))))), .val (IsB ((decide (1048576 < ((n2 + (List.length ((VT.d t).xs) : Int)) + (List.length (kidsOf (lv.take i.toNat)) : Int)) + (List.length (VT.kids t) : Int))) || (decide (2147483648 < sz2 + (((VT.d t).t).size : Int)))))])
          (out := [(70, .val (IsB ((decide (1048576 < ((n2 + (List.length ((VT.d t).xs) : Int)) + (List.length (kidsOf (lv.take i.toNat)) : Int)) + (List.length (VT.kids t) : Int))) || (decide (2147483648 < sz2 + (((VT.d t).t).size : Int)))))), (6, .val (Lit (.int .i64 (sz2 + (((VT.d t).t).size : Int))))), (5, .val (Lit (.int .i64 (n2 + (List.length ((VT.d t).xs) : Int))))), (10, .val (Lit (.int .i64 i))), (9, .val (IsNv g q m0 (kidsOf (lv.take i.toNat)))), (916, .val (Sz q)), (8, .val (Lit (.int .i64 dp))), (7, .val (IsVs q m0 lv)), (904, .val (Sz m0)), (4, .val (Lit (.int .i64 0))), (1, .val (Lit (.int .i64 1048576)))]) (nb := []) H27 17 [] rfl (by kernel_rfl) rfl rfl ?_ ?_
        · refine .cons (.plain rfl (ok_move (.tmp 0 rfl))) ?_
          refine .cons (.plain rfl (ok_move (.tmp 0 rfl))) ?_
          refine .cons (.plain rfl (ok_lenNv Tryz.underlying35 (.tmp 0 rfl))) ?_
          refine .cons (.plain rfl (ok_add (r := ((n2 + (List.length ((VT.d t).xs) : Int)) + (List.length (kidsOf (lv.take i.toNat)) : Int))) (.tmp 0 rfl) (.tmp 1 rfl) (w_i64 (by omega)))) ?_
          refine .cons (.plain rfl (ok_move (.tmp 0 rfl))) ?_
          refine .cons (.plain rfl (ok_move (.tmp 0 rfl))) ?_
          refine .cons (.plain rfl (ok_idxVs i.toNat Tryz.underlying35 szV (.tmp 0 rfl) (.tmp 1 rfl) (by omega) ht)) ?_
          refine .cons (.plain rfl (ok_pvF6 (.tmp 0 rfl))) ?_
          refine .cons (.plain rfl (ok_pvKids (.tmp 0 rfl))) ?_
          refine .cons (.plain rfl (ok_lenVs Tryz.underlying35 (.tmp 0 rfl))) ?_
          refine .cons (.plain rfl (ok_add (r := (((n2 + (List.length ((VT.d t).xs) : Int)) + (List.length (kidsOf (lv.take i.toNat)) : Int)) + (List.length (VT.kids t) : Int))) (.tmp 0 rfl) (.tmp 1 rfl) (w_i64 (by omega)))) ?_
          refine .cons (.plain rfl (ok_move (.tmp 0 rfl))) ?_
          refine .cons (.plain rfl (ok_cmp (.tmp 0 rfl) (.tmp 1 rfl) rfl)) ?_
          refine .cons (.plain rfl (ok_move (.tmp 0 rfl))) ?_
          refine .cons (.sym 13 false (decide (1048576 < ((n2 + (List.length ((VT.d t).xs) : Int)) + (List.length (kidsOf (lv.take i.toNat)) : Int)) + (List.length (VT.kids t) : Int))) ((decide (1048576 < ((n2 + (List.length ((VT.d t).xs) : Int)) + (List.length (kidsOf (lv.take i.toNat)) : Int)) + (List.length (VT.kids t) : Int))) == false) rfl rfl rfl 0 (need' := [(67, .val (IsB (decide (1048576 < ((n2 + (List.length ((VT.d t).xs) : Int)) + (List.length (kidsOf (lv.take i.toNat)) : Int)) + (List.length (VT.kids t) : Int))))), (6, .val (Lit (.int .i64 (sz2 + (((VT.d t).t).size : Int)))))]) rfl rfl (fun a w B e h => ⟨h.1, h.2.1, trivial⟩) (fun e => ok_move (.tmp 1 rfl))) ?_
          refine .cons (.sym 13 false (decide (1048576 < ((n2 + (List.length ((VT.d t).xs) : Int)) + (List.length (kidsOf (lv.take i.toNat)) : Int)) + (List.length (VT.kids t) : Int))) ((decide (1048576 < ((n2 + (List.length ((VT.d t).xs) : Int)) + (List.length (kidsOf (lv.take i.toNat)) : Int)) + (List.length (VT.kids t) : Int))) == false) rfl rfl rfl 0 (need' := [(67, .val (IsB (decide (1048576 < ((n2 + (List.length ((VT.d t).xs) : Int)) + (List.length (kidsOf (lv.take i.toNat)) : Int)) + (List.length (VT.kids t) : Int))))), (68, .val (Lit (.int .i64 (sz2 + (((VT.d t).t).size : Int)))))]) rfl rfl (fun a w B e h => ⟨h.1, h.2.1.1 (e), trivial⟩) (fun e => ok_cmp (.tmp 1 rfl) (.lit) rfl)) ?_
          refine .cons (.plain rfl (ok_pickS (decide (1048576 < ((n2 + (List.length ((VT.d t).xs) : Int)) + (List.length (kidsOf (lv.take i.toNat)) : Int)) + (List.length (VT.kids t) : Int))) (.tmp 0 rfl) (fun e => Opd.eqB (.lit) (by rw [e]; rfl)) (fun e => Opd.eqB (Opd.grd (.tmp 1 rfl) (by first | (rw [e]; rfl) | (simp only [e]; rfl) | (simp [*] at *; done))) (by rw [e]; rfl)))) ?_
          exact .nil
        clear H27 a27 w27 B27
        intro a28 w28 B28 H28
        refine ops_done ?_
        refine then_normal ?_
        refine f_cond H28 (.tmp 0 rfl) ?_ ?_
        · intro hc29
          refine wp_seq ?_
          refine flow_region (dsts := [some 71, some 72, some 4]) (refs := [[.pre 10], [.res 0], [.res 1]]) (outs := [.res 2, .pre 1, .pre 2, .pre 3, .pre 4, .pre 5, .pre 6, .pre 7, .pre 8, .pre 10]) (als := [false, false, false]) (posts := [.val (Lit (.int .i64 1048576)), .val (Lit (.int .i64 1048577)), .val (Lit (.int .i64 1048577))])
            (out := [(4, .val (Lit (.int .i64 1048577))), (6, .val (Lit (.int .i64 (sz2 + (((VT.d t).t).size : Int))))), (5, .val (Lit (.int .i64 (n2 + (List.length ((VT.d t).xs) : Int))))), (10, .val (Lit (.int .i64 i))), (9, .val (IsNv g q m0 (kidsOf (lv.take i.toNat)))), (916, .val (Sz q)), (8, .val (Lit (.int .i64 dp))), (7, .val (IsVs q m0 lv)), (904, .val (Sz m0)), (1, .val (Lit (.int .i64 1048576)))]) (nb := []) H28 3 [] rfl (by kernel_rfl) rfl rfl ?_ ?_
          · refine .cons (.plain rfl (ok_move (.tmp 0 rfl))) ?_
            refine .cons (.plain rfl (ok_add (r := 1048577) (.tmp 0 rfl) (.lit) (by decide))) ?_
            refine .cons (.plain rfl (ok_assign (.tmp 0 rfl))) ?_
            exact .nil
          clear H28 a28 w28 B28
          intro a30 w30 B30 H30
          refine ops_done ?_
          refine then_normal ?_
          refine wp_ret ?_
          refine then_ret ?_
          refine block_ret ?_
          refine then_ret ?_
          refine then_ret ?_
          refine block_ret ?_
          refine then_ret ?_
          refine block_ret ?_
          refine then_ret ?_
          refine then_ret ?_
          refine block_ret ?_
          refine then_ret ?_
          exact f_ret H30 rfl 0 rfl (fun v w B h => by exact ⟨1048577, h, fun h => absurd h (by omega)⟩)
        · intro hc29
          have hne : n2 + (List.length (VT.d t).xs : Int) + (List.length (kidsOf (lv.take i.toNat)) : Int) + (List.length (VT.kids t) : Int) ≤ 1048576 ∧ sz2 + ((VT.d t).t.size : Int) ≤ 2147483648 := by simp only [Bool.or_eq_false_iff, decide_eq_false_iff_not] at hc29; omega
          refine wp_skip ?_
          refine then_normal ?_
          refine wp_seq ?_
          refine flow_region (dsts := [some 11]) (refs := [[]]) (outs := [.res 0, .pre 1, .pre 2, .pre 3, .pre 4, .pre 5, .pre 6, .pre 7, .pre 8, .pre 9, .pre 10]) (als := [false]) (posts := [.val (Lit (.int .i64 0))])
            (out := [(11, .val (Lit (.int .i64 0))), (6, .val (Lit (.int .i64 (sz2 + (((VT.d t).t).size : Int))))), (5, .val (Lit (.int .i64 (n2 + (List.length ((VT.d t).xs) : Int))))), (10, .val (Lit (.int .i64 i))), (9, .val (IsNv g q m0 (kidsOf (lv.take i.toNat)))), (916, .val (Sz q)), (8, .val (Lit (.int .i64 dp))), (7, .val (IsVs q m0 lv)), (904, .val (Sz m0)), (4, .val (Lit (.int .i64 0))), (1, .val (Lit (.int .i64 1048576)))]) (nb := []) H28 1 [] rfl (by kernel_rfl) rfl rfl ?_ ?_
          · refine .cons (.plain rfl (ok_assign (.lit))) ?_
            exact .nil
          clear H28 a28 w28 B28
          intro a31 w31 B31 H31
          refine ops_done ?_
          refine then_normal ?_
          refine wp_block ?_
          have H32 := St.set1 H31 4 (D' := IsNv g q m0 (kidsOf (lv.take i.toNat) ++ (VT.kids t).take (0 : Int).toNat)) rfl (fun v w B h => by rw [show ((VT.kids t).take (0 : Int).toNat) = [] from rfl, List.append_nil]; exact h) (l' := [(11, .val (Lit (.int .i64 0))), (6, .val (Lit (.int .i64 (sz2 + (((VT.d t).t).size : Int))))), (5, .val (Lit (.int .i64 (n2 + (List.length ((VT.d t).xs) : Int))))), (10, .val (Lit (.int .i64 i))), (9, .val (IsNv g q m0 (kidsOf (lv.take i.toNat) ++ (VT.kids t).take (0 : Int).toNat))), (916, .val (Sz q)), (8, .val (Lit (.int .i64 dp))), (7, .val (IsVs q m0 lv)), (904, .val (Sz m0)), (4, .val (Lit (.int .i64 0))), (1, .val (Lit (.int .i64 1048576)))]) rfl
          clear H31
          refine f_loop (fun (⟨g2, k⟩ : Option Nat × Int) => [(11, .val (Lit (.int .i64 k))), (6, .val (Lit (.int .i64 (sz2 + (((VT.d t).t).size : Int))))), (5, .val (Lit (.int .i64 (n2 + (List.length ((VT.d t).xs) : Int))))), (10, .val (Lit (.int .i64 i))), (9, .val (IsNv g2 q m0 (kidsOf (lv.take i.toNat) ++ (VT.kids t).take k.toNat))), (916, .val (Sz q)), (8, .val (Lit (.int .i64 dp))), (7, .val (IsVs q m0 lv)), (904, .val (Sz m0)), (4, .val (Lit (.int .i64 0))), (1, .val (Lit (.int .i64 1048576)))]) (fun (⟨g2, k⟩ : Option Nat × Int) => 0 ≤ k ∧ k ≤ ((VT.kids t).length : Int)) (fun (⟨g2, k⟩ : Option Nat × Int) => (((VT.kids t).length : Int) - k).toNat) (⟨g, 0⟩) (St.pick H32 [0, 1, 2, 3, 4, 5, 6, 7, 8, 9, 10] rfl) (by exact ⟨by omega, by omega⟩) ?_
          clear H32 a31 w31 B31
          rintro ⟨g2, k⟩ a33 w33 B33 hI33 H33
          replace hI33 : 0 ≤ k ∧ k ≤ ((VT.kids t).length : Int) := hI33
          replace H33 : St 96 w0 B0 a33 w33 B33 [(11, .val (Lit (.int .i64 k))), (6, .val (Lit (.int .i64 (sz2 + (((VT.d t).t).size : Int))))), (5, .val (Lit (.int .i64 (n2 + (List.length ((VT.d t).xs) : Int))))), (10, .val (Lit (.int .i64 i))), (9, .val (IsNv g2 q m0 (kidsOf (lv.take i.toNat) ++ (VT.kids t).take k.toNat))), (916, .val (Sz q)), (8, .val (Lit (.int .i64 dp))), (7, .val (IsVs q m0 lv)), (904, .val (Sz m0)), (4, .val (Lit (.int .i64 0))), (1, .val (Lit (.int .i64 1048576)))] [] := H33
          obtain ⟨k0, k1⟩ := hI33
          refine wp_seq ?_
          refine wp_seq ?_
          refine flow_region (dsts := [some 73, some 74, some 75, some 76, some 77, some 78, some 79, some 80]) (refs := [[.pre 0], [.pre 7], [.pre 3], [.res 1, .res 2], [.res 3], [.res 4], [.res 5], [.res 0, .res 6]]) (outs := [.res 7, .pre 0, .pre 1, .pre 2, .pre 3, .pre 4, .pre 5, .pre 6, .pre 7, .pre 8, .pre 9, .pre 10]) (als := [false, false, false, false, false, false, false, false]) (posts := [.val (Lit (.int .i64 k)), .val (IsVs q m0 lv), .val (Lit (.int .i64 i)), .val (IsPv q m0 t 0), .val (IsPv q m0 t 7), .val (IsVs m0 m0 (VT.kids t)), .val (Lit (.int .i64 (List.length (VT.kids t) : Int))), .val (IsB (decide (k < (List.length (VT.kids t) : Int))))])
            (out := [(80, .val (IsB (decide (k < (List.length (VT.kids t) : Int))))), (11, .val (Lit (.int .i64 k))), (6, .val (Lit (.int .i64 (sz2 + (((VT.d t).t).size : Int))))), (5, .val (Lit (.int .i64 (n2 + (List.length ((VT.d t).xs) : Int))))), (10, .val (Lit (.int .i64 i))), (9, .val (IsNv g2 q m0 (kidsOf (lv.take i.toNat) ++ (VT.kids t).take k.toNat))), (916, .val (Sz q)), (8, .val (Lit (.int .i64 dp))), (7, .val (IsVs q m0 lv)), (904, .val (Sz m0)), (4, .val (Lit (.int .i64 0))), (1, .val (Lit (.int .i64 1048576)))]) (nb := []) H33 8 [] rfl (by kernel_rfl) rfl rfl ?_ ?_
          · refine .cons (.plain rfl (ok_move (.tmp 0 rfl))) ?_
            refine .cons (.plain rfl (ok_move (.tmp 0 rfl))) ?_
            refine .cons (.plain rfl (ok_move (.tmp 0 rfl))) ?_
            refine .cons (.plain rfl (ok_idxVs i.toNat Tryz.underlying35 szV (.tmp 0 rfl) (.tmp 1 rfl) (by omega) ht)) ?_
            refine .cons (.plain rfl (ok_pvF6 (.tmp 0 rfl))) ?_
            refine .cons (.plain rfl (ok_pvKids (.tmp 0 rfl))) ?_
            refine .cons (.plain rfl (ok_lenVs Tryz.underlying35 (.tmp 0 rfl))) ?_
            refine .cons (.plain rfl (ok_cmp (.tmp 0 rfl) (.tmp 1 rfl) rfl)) ?_
            exact .nil
          clear H33 a33 w33 B33
          intro a34 w34 B34 H34
          refine ops_done ?_
          refine then_normal ?_
          refine f_cond H34 (.tmp 0 rfl) ?_ ?_
          · intro hc35
            replace hc35 := of_decide_eq_true hc35
            obtain ⟨u, hu⟩ : ∃ u, (VT.kids t)[k.toNat]? = some u := ⟨_, List.getElem?_eq_getElem (by omega)⟩
            refine wp_skip ?_
            refine then_normal ?_
            refine wp_seq ?_
            refine wp_block ?_
            refine flow_region (dsts := [some 83, some 84, some 85, some 86, some 87, some 88, some 89, some 90, some 91, some 92]) (refs := [[.pre 5], [.pre 8], [.pre 4], [.res 1, .res 2], [.res 3], [.res 4], [.pre 1], [.res 5, .res 6], [.res 7], [.res 8]]) (outs := [.res 0, .res 9, .pre 1, .pre 2, .pre 3, .pre 4, .pre 5, .pre 6, .pre 7, .pre 8, .pre 9, .pre 10, .pre 11]) (als := [false, false, false, false, false, false, false, false, false, false]) (posts := [.val (IsNv g2 q m0 (kidsOf (lv.take i.toNat) ++ (VT.kids t).take k.toNat)), .val (IsVs q m0 lv), .val (Lit (.int .i64 i)), .val (IsPv q m0 t 0), .val (IsPv q m0 t 7), .val (IsVs m0 m0 (VT.kids t)), .val (Lit (.int .i64 k)), .val (IsPv m0 m0 u 0), .val (IsV m0 u), .val (IsVl m0 ([u]))])
              (out := [(83, .val (IsNv g2 q m0 (kidsOf (lv.take i.toNat) ++ (VT.kids t).take k.toNat))), (92, .val (IsVl m0 ([u]))), (11, .val (Lit (.int .i64 k))), (6, .val (Lit (.int .i64 (sz2 + (((VT.d t).t).size : Int))))), (5, .val (Lit (.int .i64 (n2 + (List.length ((VT.d t).xs) : Int))))), (10, .val (Lit (.int .i64 i))), (9, .val (IsNv g2 q m0 (kidsOf (lv.take i.toNat) ++ (VT.kids t).take k.toNat))), (916, .val (Sz q)), (8, .val (Lit (.int .i64 dp))), (7, .val (IsVs q m0 lv)), (904, .val (Sz m0)), (4, .val (Lit (.int .i64 0))), (1, .val (Lit (.int .i64 1048576)))]) (nb := []) H34 10 [10, 11] rfl (by kernel_rfl) rfl rfl ?_ ?_
            · refine .cons (.plain rfl (ok_move (.tmp 0 rfl))) ?_
              refine .cons (.plain rfl (ok_move (.tmp 0 rfl))) ?_
              refine .cons (.plain rfl (ok_move (.tmp 0 rfl))) ?_
              refine .cons (.plain rfl (ok_idxVs i.toNat Tryz.underlying35 szV (.tmp 0 rfl) (.tmp 1 rfl) (by omega) ht)) ?_
              refine .cons (.plain rfl (ok_pvF6 (.tmp 0 rfl))) ?_
              refine .cons (.plain rfl (ok_pvKids (.tmp 0 rfl))) ?_
              refine .cons (.plain rfl (ok_move (.tmp 0 rfl))) ?_
              refine .cons (.plain rfl (ok_idxVs k.toNat Tryz.underlying35 szV (.tmp 0 rfl) (.tmp 1 rfl) (by omega) hu)) ?_
              refine .cons (.plain rfl (ok_loadV8 tyV (.tmp 0 rfl))) ?_
              refine .cons (.plain rfl (ok_oneV (.tmp 0 rfl))) ?_
              exact .nil
            clear H34 a34 w34 B34
            intro a36 w36 B36 H36
            refine ops_one ?_
            refine app_opV (us := (kidsOf (lv.take i.toNat) ++ (VT.kids t).take k.toNat)) (ys := ([u])) (ks := [(11, .val (Lit (.int .i64 k))), (6, .val (Lit (.int .i64 (sz2 + (((VT.d t).t).size : Int))))), (5, .val (Lit (.int .i64 (n2 + (List.length ((VT.d t).xs) : Int))))), (10, .val (Lit (.int .i64 i))), (916, .val (Sz q)), (8, .val (Lit (.int .i64 dp))), (7, .val (IsVs q m0 lv)), (904, .val (Sz m0)), (4, .val (Lit (.int .i64 0))), (1, .val (Lit (.int .i64 1048576)))]) [2, 3, 4, 5, 7, 8, 9, 10, 11, 12] H36 hmq (by omega) rfl (.tmp 0 rfl) (.tmp 1 rfl) (by simp) (by simp only [List.length_append, List.length_take, List.length_singleton]; omega) 7 rfl rfl rfl rfl (by kernel_rfl) (.cons (kept_lit) (.cons (kept_lit) (.cons (kept_lit) (.cons (kept_lit) (.cons (kept_sz) (.cons (kept_lit) (.cons (kept_vs (Nat.le_refl _) (by omega)) (.cons (kept_sz) (.cons (kept_lit) (.cons (kept_lit) (.nil))))))))))) ?_
            clear H36
            intro a37 w37 B37 g37 H37
            replace H37 : St 96 w0 B0 a37 w37 B37 [(93, .val (IsNv g37 q m0 ((kidsOf (lv.take i.toNat) ++ (VT.kids t).take k.toNat) ++ ([u])))), (11, .val (Lit (.int .i64 k))), (6, .val (Lit (.int .i64 (sz2 + (((VT.d t).t).size : Int))))), (5, .val (Lit (.int .i64 (n2 + (List.length ((VT.d t).xs) : Int))))), (10, .val (Lit (.int .i64 i))), (916, .val (Sz q)), (8, .val (Lit (.int .i64 dp))), (7, .val (IsVs q m0 lv)), (904, .val (Sz m0)), (4, .val (Lit (.int .i64 0))), (1, .val (Lit (.int .i64 1048576)))] [] := H37
            refine ops_one ?_
            refine tail_op (D := .val (IsNv g37 q m0 ((kidsOf (lv.take i.toNat) ++ (VT.kids t).take k.toNat) ++ ([u])))) (l' := [(9, .val (IsNv g37 q m0 ((kidsOf (lv.take i.toNat) ++ (VT.kids t).take k.toNat) ++ ([u])))), (93, .val (IsNv g37 q m0 ((kidsOf (lv.take i.toNat) ++ (VT.kids t).take k.toNat) ++ ([u])))), (11, .val (Lit (.int .i64 k))), (6, .val (Lit (.int .i64 (sz2 + (((VT.d t).t).size : Int))))), (5, .val (Lit (.int .i64 (n2 + (List.length ((VT.d t).xs) : Int))))), (10, .val (Lit (.int .i64 i))), (916, .val (Sz q)), (8, .val (Lit (.int .i64 dp))), (7, .val (IsVs q m0 lv)), (904, .val (Sz m0)), (4, .val (Lit (.int .i64 0))), (1, .val (Lit (.int .i64 1048576)))]) H37 rfl rfl rfl (.plain rfl (ok_assign (.tmp 0 rfl))) rfl rfl ?_
            clear H37 a37 w37 B37
            intro a38 w38 B38 H38
            refine ops_done ?_
            refine block_normal ?_
            refine then_normal ?_
            refine flow_region (dsts := [some 81, some 82]) (refs := [[.pre 2], [.res 0]]) (outs := [.res 1, .pre 0, .pre 2, .pre 3, .pre 4, .pre 5, .pre 6, .pre 7, .pre 8, .pre 9, .pre 10, .pre 11]) (als := [false, false]) (posts := [.val (Lit (.int .i64 k)), .val (Lit (.int .i64 (k + 1)))])
              (out := [(82, .val (Lit (.int .i64 (k + 1)))), (9, .val (IsNv g37 q m0 ((kidsOf (lv.take i.toNat) ++ (VT.kids t).take k.toNat) ++ ([u])))), (11, .val (Lit (.int .i64 k))), (6, .val (Lit (.int .i64 (sz2 + (((VT.d t).t).size : Int))))), (5, .val (Lit (.int .i64 (n2 + (List.length ((VT.d t).xs) : Int))))), (10, .val (Lit (.int .i64 i))), (916, .val (Sz q)), (8, .val (Lit (.int .i64 dp))), (7, .val (IsVs q m0 lv)), (904, .val (Sz m0)), (4, .val (Lit (.int .i64 0))), (1, .val (Lit (.int .i64 1048576)))]) (nb := []) H38 2 [2] rfl (by kernel_rfl) rfl rfl ?_ ?_
            · refine .cons (.plain rfl (ok_move (.tmp 0 rfl))) ?_
              refine .cons (.plain rfl (ok_add (r := (k + 1)) (.tmp 0 rfl) (.lit) (w_i64 (by omega)))) ?_
              exact .nil
            clear H38 a38 w38 B38
            intro a39 w39 B39 H39
            refine ops_one ?_
            refine tail_op (D := .val (Lit (.int .i64 (k + 1)))) (l' := [(11, .val (Lit (.int .i64 (k + 1)))), (82, .val (Lit (.int .i64 (k + 1)))), (9, .val (IsNv g37 q m0 ((kidsOf (lv.take i.toNat) ++ (VT.kids t).take k.toNat) ++ ([u])))), (6, .val (Lit (.int .i64 (sz2 + (((VT.d t).t).size : Int))))), (5, .val (Lit (.int .i64 (n2 + (List.length ((VT.d t).xs) : Int))))), (10, .val (Lit (.int .i64 i))), (916, .val (Sz q)), (8, .val (Lit (.int .i64 dp))), (7, .val (IsVs q m0 lv)), (904, .val (Sz m0)), (4, .val (Lit (.int .i64 0))), (1, .val (Lit (.int .i64 1048576)))]) H39 rfl rfl rfl (.plain rfl (ok_assign (.tmp 0 rfl))) rfl rfl ?_
            clear H39 a39 w39 B39
            intro a40 w40 B40 H40
            refine ops_done ?_
            have H41 := St.set1 H40 2 (D' := IsNv g37 q m0 (kidsOf (lv.take i.toNat) ++ (VT.kids t).take (k + 1).toNat)) rfl (fun v w B h => by rw [show (k + 1).toNat = k.toNat + 1 by omega, take_kid hu, ← List.append_assoc]; exact h) (l' := [(11, .val (Lit (.int .i64 (k + 1)))), (82, .val (Lit (.int .i64 (k + 1)))), (9, .val (IsNv g37 q m0 (kidsOf (lv.take i.toNat) ++ (VT.kids t).take (k + 1).toNat))), (6, .val (Lit (.int .i64 (sz2 + (((VT.d t).t).size : Int))))), (5, .val (Lit (.int .i64 (n2 + (List.length ((VT.d t).xs) : Int))))), (10, .val (Lit (.int .i64 i))), (916, .val (Sz q)), (8, .val (Lit (.int .i64 dp))), (7, .val (IsVs q m0 lv)), (904, .val (Sz m0)), (4, .val (Lit (.int .i64 0))), (1, .val (Lit (.int .i64 1048576)))]) rfl
            clear H40
            exact ⟨⟨g37, k + 1⟩, B40, by exact ⟨by omega, by omega⟩, St.pick H41 [0, 3, 4, 5, 2, 6, 7, 8, 9, 10, 11] rfl, by show (((VT.kids t).length : Int) - (k + 1)).toNat < (((VT.kids t).length : Int) - k).toNat; omega⟩
          · intro hc35
            replace hc35 := of_decide_eq_false hc35
            refine wp_exit ?_
            refine then_exit ?_
            refine then_exit ?_
            refine block_exit ?_
            refine block_normal ?_
            refine then_normal ?_
            refine flow_region (dsts := [some 35, some 36]) (refs := [[.pre 4], [.res 0]]) (outs := [.res 1, .pre 1, .pre 2, .pre 3, .pre 4, .pre 5, .pre 6, .pre 7, .pre 8, .pre 9, .pre 10, .pre 11]) (als := [false, false]) (posts := [.val (Lit (.int .i64 i)), .val (Lit (.int .i64 (i + 1)))])
              (out := [(36, .val (Lit (.int .i64 (i + 1)))), (11, .val (Lit (.int .i64 k))), (6, .val (Lit (.int .i64 (sz2 + (((VT.d t).t).size : Int))))), (5, .val (Lit (.int .i64 (n2 + (List.length ((VT.d t).xs) : Int))))), (10, .val (Lit (.int .i64 i))), (9, .val (IsNv g2 q m0 (kidsOf (lv.take i.toNat) ++ (VT.kids t).take k.toNat))), (916, .val (Sz q)), (8, .val (Lit (.int .i64 dp))), (7, .val (IsVs q m0 lv)), (904, .val (Sz m0)), (4, .val (Lit (.int .i64 0))), (1, .val (Lit (.int .i64 1048576)))]) (nb := []) H34 2 [2] rfl (by kernel_rfl) rfl rfl ?_ ?_
            · refine .cons (.plain rfl (ok_move (.tmp 0 rfl))) ?_
              refine .cons (.plain rfl (ok_add (r := (i + 1)) (.tmp 0 rfl) (.lit) (w_i64 (by omega)))) ?_
              exact .nil
            clear H34 a34 w34 B34
            intro a42 w42 B42 H42
            refine ops_one ?_
            refine tail_op (D := .val (Lit (.int .i64 (i + 1)))) (l' := [(10, .val (Lit (.int .i64 (i + 1)))), (36, .val (Lit (.int .i64 (i + 1)))), (11, .val (Lit (.int .i64 k))), (6, .val (Lit (.int .i64 (sz2 + (((VT.d t).t).size : Int))))), (5, .val (Lit (.int .i64 (n2 + (List.length ((VT.d t).xs) : Int))))), (9, .val (IsNv g2 q m0 (kidsOf (lv.take i.toNat) ++ (VT.kids t).take k.toNat))), (916, .val (Sz q)), (8, .val (Lit (.int .i64 dp))), (7, .val (IsVs q m0 lv)), (904, .val (Sz m0)), (4, .val (Lit (.int .i64 0))), (1, .val (Lit (.int .i64 1048576)))]) H42 rfl rfl rfl (.plain rfl (ok_assign (.tmp 0 rfl))) rfl rfl ?_
            clear H42 a42 w42 B42
            intro a43 w43 B43 H43
            refine ops_done ?_
            have H44 := St.set1 H43 5 (D' := IsNv g2 q m0 (kidsOf (lv.take (i + 1).toNat))) rfl (fun v w B h => by rw [List.take_of_length_le (show (VT.kids t).length ≤ k.toNat by omega)] at h; rw [show (i + 1).toNat = i.toNat + 1 by omega, kids_take ht]; exact h) (l' := [(10, .val (Lit (.int .i64 (i + 1)))), (36, .val (Lit (.int .i64 (i + 1)))), (11, .val (Lit (.int .i64 k))), (6, .val (Lit (.int .i64 (sz2 + (((VT.d t).t).size : Int))))), (5, .val (Lit (.int .i64 (n2 + (List.length ((VT.d t).xs) : Int))))), (9, .val (IsNv g2 q m0 (kidsOf (lv.take (i + 1).toNat)))), (916, .val (Sz q)), (8, .val (Lit (.int .i64 dp))), (7, .val (IsVs q m0 lv)), (904, .val (Sz m0)), (4, .val (Lit (.int .i64 0))), (1, .val (Lit (.int .i64 1048576)))]) rfl
            clear H43
            have hke : (kidsOf (lv.take (i + 1).toNat)).length = (kidsOf (lv.take i.toNat)).length + (VT.kids t).length := by rw [show (i + 1).toNat = i.toNat + 1 by omega, kids_take ht, List.length_append]
            have hi5 : ∀ t ∈ lv.take (i + 1).toNat, t.d.xs.length ≤ 1048576 ∧ t.kids.length ≤ 1048576 := by
              rw [show (i + 1).toNat = i.toNat + 1 by omega, take_kid ht]
              intro z hz
              rcases List.mem_append.1 hz with hz | hz
              · exact hi4 z hz
              · rw [List.mem_singleton] at hz; subst hz; exact ⟨by omega, by omega⟩
            exact ⟨⟨g2, i + 1, n2 + (List.length (VT.d t).xs : Int), sz2 + ((VT.d t).t.size : Int)⟩, B43, by exact ⟨⟨by omega, by omega⟩, by omega, ⟨by omega, by omega⟩, by rw [hke]; omega, hi5⟩, St.pick H44 [0, 5, 6, 4, 7, 8, 9, 3, 10, 11] rfl, by show ((lv.length : Int) - (i + 1)).toNat < ((lv.length : Int) - i).toNat; omega⟩
      · intro hc23
        replace hc23 := of_decide_eq_false hc23
        refine wp_exit ?_
        refine then_exit ?_
        refine then_exit ?_
        refine block_exit ?_
        refine then_normal ?_
        have htk : lv.take i.toNat = lv := List.take_of_length_le (by omega)
        rw [htk] at hi3 hi4
        have H45 := St.set1 H22 2 (D' := IsNv g q m0 (kidsOf lv)) rfl (fun v w B h => by rw [htk] at h; exact h) (l' := [(34, .val (IsB (decide (i < (List.length lv : Int))))), (10, .val (Lit (.int .i64 i))), (9, .val (IsNv g q m0 (kidsOf lv))), (916, .val (Sz q)), (5, .val (Lit (.int .i64 n2))), (8, .val (Lit (.int .i64 dp))), (7, .val (IsVs q m0 lv)), (904, .val (Sz m0)), (6, .val (Lit (.int .i64 sz2))), (4, .val (Lit (.int .i64 0))), (1, .val (Lit (.int .i64 1048576)))]) rfl
        clear H22
        refine flow_region (dsts := [some 94, some 7]) (refs := [[.pre 2], [.res 0]]) (outs := [.res 1, .pre 1, .pre 2, .pre 3, .pre 4, .pre 5, .pre 7, .pre 8, .pre 9, .pre 10]) (als := [false, false]) (posts := [.val (IsNv g q m0 (kidsOf lv)), .val (IsNv g q m0 (kidsOf lv))])
          (out := [(7, .val (IsNv g q m0 (kidsOf lv))), (10, .val (Lit (.int .i64 i))), (9, .val (IsNv g q m0 (kidsOf lv))), (916, .val (Sz q)), (5, .val (Lit (.int .i64 n2))), (8, .val (Lit (.int .i64 dp))), (904, .val (Sz m0)), (6, .val (Lit (.int .i64 sz2))), (4, .val (Lit (.int .i64 0))), (1, .val (Lit (.int .i64 1048576)))]) (nb := []) H45 2 [] rfl (by kernel_rfl) rfl rfl ?_ ?_
        · refine .cons (.plain rfl (ok_move (.tmp 0 rfl))) ?_
          refine .cons (.plain rfl (ok_assign (.tmp 0 rfl))) ?_
          exact .nil
        clear H45 a22 w22 B22
        intro a46 w46 B46 H46
        refine ops_done ?_
        refine block_normal ?_
        refine then_normal ?_
        refine flow_region (dsts := [some 16, some 17]) (refs := [[.pre 5], [.res 0]]) (outs := [.res 1, .pre 0, .pre 1, .pre 2, .pre 3, .pre 4, .pre 5, .pre 6, .pre 7, .pre 8, .pre 9]) (als := [false, false]) (posts := [.val (Lit (.int .i64 dp)), .val (Lit (.int .i64 (dp + 1)))])
          (out := [(17, .val (Lit (.int .i64 (dp + 1)))), (7, .val (IsNv g q m0 (kidsOf lv))), (10, .val (Lit (.int .i64 i))), (9, .val (IsNv g q m0 (kidsOf lv))), (916, .val (Sz q)), (5, .val (Lit (.int .i64 n2))), (8, .val (Lit (.int .i64 dp))), (904, .val (Sz m0)), (6, .val (Lit (.int .i64 sz2))), (4, .val (Lit (.int .i64 0))), (1, .val (Lit (.int .i64 1048576)))]) (nb := []) H46 2 [2] rfl (by kernel_rfl) rfl rfl ?_ ?_
        · refine .cons (.plain rfl (ok_move (.tmp 0 rfl))) ?_
          refine .cons (.plain rfl (ok_add (r := (dp + 1)) (.tmp 0 rfl) (.lit) (w_i64 (by omega)))) ?_
          exact .nil
        clear H46 a46 w46 B46
        intro a47 w47 B47 H47
        refine ops_one ?_
        refine tail_op (D := .val (Lit (.int .i64 (dp + 1)))) (l' := [(8, .val (Lit (.int .i64 (dp + 1)))), (17, .val (Lit (.int .i64 (dp + 1)))), (7, .val (IsNv g q m0 (kidsOf lv))), (10, .val (Lit (.int .i64 i))), (9, .val (IsNv g q m0 (kidsOf lv))), (916, .val (Sz q)), (5, .val (Lit (.int .i64 n2))), (904, .val (Sz m0)), (6, .val (Lit (.int .i64 sz2))), (4, .val (Lit (.int .i64 0))), (1, .val (Lit (.int .i64 1048576)))]) H47 rfl rfl rfl (.plain rfl (ok_assign (.tmp 0 rfl))) rfl rfl ?_
        clear H47 a47 w47 B47
        intro a48 w48 B48 H48
        refine ops_done ?_
        have H49 := St.set1 H48 2 (D' := IsVl m0 (kidsOf lv)) rfl (weakNvl (by omega)) (l' := [(8, .val (Lit (.int .i64 (dp + 1)))), (17, .val (Lit (.int .i64 (dp + 1)))), (7, .val (IsVl m0 (kidsOf lv))), (10, .val (Lit (.int .i64 i))), (9, .val (IsNv g q m0 (kidsOf lv))), (916, .val (Sz q)), (5, .val (Lit (.int .i64 n2))), (904, .val (Sz m0)), (6, .val (Lit (.int .i64 sz2))), (4, .val (Lit (.int .i64 0))), (1, .val (Lit (.int .i64 1048576)))]) rfl
        clear H48
        have hW2 : (∀ t ∈ kidsOf lv, Wn t) → ∀ t ∈ l, Wn t := fun h => hW (wn_up hi4 h)
        exact ⟨⟨kidsOf lv, n2, sz2, dp + 1⟩, B48, by exact ⟨by omega, by omega, by omega, by omega, by omega, by omega, hW2⟩, St.pick H49 [0, 2, 7, 8, 6, 9, 10] rfl, by show (65537 - (dp + 1)).toNat < (65537 - dp).toNat; omega⟩
  · intro hc10
    replace hc10 := of_decide_eq_false hc10
    refine wp_exit ?_
    refine then_exit ?_
    refine then_exit ?_
    refine block_exit ?_
    refine then_normal ?_
    refine wp_seq ?_
    refine flow_region (dsts := [some 95, some 4]) (refs := [[.pre 5], [.res 0]]) (outs := [.res 1, .pre 1, .pre 2, .pre 3, .pre 4, .pre 5, .pre 7]) (als := [false, false]) (posts := [.val (Lit (.int .i64 n)), .val (Lit (.int .i64 n))])
      (out := [(4, .val (Lit (.int .i64 n))), (8, .val (Lit (.int .i64 dp))), (7, .val (IsVl m0 lv)), (904, .val (Sz m0)), (6, .val (Lit (.int .i64 sz))), (5, .val (Lit (.int .i64 n))), (1, .val (Lit (.int .i64 1048576)))]) (nb := []) H9 2 [] rfl (by kernel_rfl) rfl rfl ?_ ?_
    · refine .cons (.plain rfl (ok_move (.tmp 0 rfl))) ?_
      refine .cons (.plain rfl (ok_assign (.tmp 0 rfl))) ?_
      exact .nil
    clear H9 a9 w9 B9
    intro a50 w50 B50 H50
    refine ops_done ?_
    refine then_normal ?_
    refine wp_ret ?_
    exact f_ret H50 rfl 0 rfl (fun v w B h => by exact ⟨_, h, fun _ => hW (fun t ht => by rw [List.length_eq_zero_iff.1 (show lv.length = 0 by omega)] at ht; cases ht)⟩)

set_option maxRecDepth 20000 in
set_option maxHeartbeats 2000000 in
theorem con_beyondV (l : List VT) : Con Tryz.prog 27 [IsVq l] (IsIf True (∀ t ∈ l, Wn t)) := by
  refine f_enter (N := 6) Tryz.ntmps27 (fun _ _ => by go_simp) Tryz.func27 rfl (by simp) ?_
  intro a0 w0 B0 H0
  replace H0 : St 6 w0 B0 a0 w0 B0 [(0, .val (IsVq l))] [] := H0
  refine wp_seq ?_
  refine flow_region (dsts := [some 2]) (refs := [[]]) (outs := [.res 0, .pre 0]) (als := [false]) (posts := [.val (IsB false)])
    (out := [(2, .val (IsB false)), (0, .val (IsVq l))]) (nb := []) H0 1 [] rfl (by kernel_rfl) rfl rfl ?_ ?_
  · refine .cons (.plain rfl (ok_assign (.lit))) ?_
    exact .nil
  clear H0
  intro a1 w1 B1 H1
  refine ops_done ?_
  refine then_normal ?_
  refine wp_seq ?_
  refine flow_region (dsts := [some 3, some 4, some 5, some 2]) (refs := [[.pre 1], [.res 0], [.res 1], [.res 2]]) (outs := [.res 3]) (als := [false, false, false, false]) (posts := [.val (IsVq l), .val (IsParts l), .val (IsIf True (∀ t ∈ l, Wn t)), .val (IsIf True (∀ t ∈ l, Wn t))])
    (out := [(2, .val (IsIf True (∀ t ∈ l, Wn t)))]) (nb := []) H1 4 [] rfl (by kernel_rfl) rfl rfl ?_ ?_
  · refine .cons (.plain rfl (ok_move (.tmp 0 rfl))) ?_
    refine .cons (.plain rfl (ok_call (con_parts l) (.cons (.tmp 0 rfl) (.cons (.lit) (.nil))))) ?_
    refine .cons (.plain rfl (ok_gtrParts (.tmp 0 rfl))) ?_
    refine .cons (.plain rfl (ok_assign (.tmp 0 rfl))) ?_
    exact .nil
  clear H1 a1 w1 B1
  intro a2 w2 B2 H2
  refine ops_done ?_
  refine then_normal ?_
  refine wp_ret ?_
  exact f_ret H2 rfl 0 rfl (fun _ _ _ h => h)
end Go.Proofs.YtoimhjcpeifegaaGreatDoor

