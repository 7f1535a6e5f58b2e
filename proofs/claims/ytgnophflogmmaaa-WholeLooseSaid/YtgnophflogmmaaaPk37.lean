/- Contracts of functions, and plain facts, part 37. -/
import Derived.Test.YtgnophflogmmaaaPk10
import Derived.Test.YtgnophflogmmaaaPk25
import Derived.Test.YtgnophflogmmaaaPk27
import Derived.Test.YtgnophflogmmaaaPk36
set_option linter.unusedVariables false
set_option linter.unusedSimpArgs false
/- R3twos. (Printed by flowfn.py.) -/
namespace Go.Proofs.Ytgnophflogmmaaa
open Go Go.RowKit

theorem fit_pow (r k : Nat) (h : r < 32 * k) : FitK k (2 ^ r) := by
  unfold FitK
  have e : (4294967296 : Int) ^ k = ((2 ^ (32 * k) : Nat) : Int) := by
    rw [show (4294967296 : Int) = 2 ^ 32 from rfl, ← Int.pow_mul]
    simp
  have e2 : (((2 : Int) ^ r).natAbs : Int) = ((2 ^ r : Nat) : Int) := by
    rw [Int.natAbs_pow]; rfl
  rw [e, e2]
  exact Int.ofNat_lt.2 (Nat.pow_lt_pow_right (by omega) h)
theorem con_rshl1 (r : Int) (hr : 0 ≤ r ∧ r ≤ 8388607) : Con Try.prog 92 [IsM 1, Lit (.int .i64 r)] (Tup [IsC (2 ^ r.toNat), IsB true]) := by
  refine ⟨fun _ _ => by go_simp, fun vs w B hB hV => ?_⟩
  match vs, hV with
  | [v, u], ⟨h1, h2, _⟩ =>
    obtain ⟨ad, n, c, rfl, k, l⟩ := h1
    obtain rfl := h2
    refine (num_rshl ad n c 1 r w k (by have := lim_eq; omega) (by omega)).mono ?_
    have hok : shlOk 1 r = true := decide_eq_true ⟨hr.1, .inr (by rw [show blen (1 : Int).toNat = 1 from by decide]; omega)⟩
    have hnum : shlNum 1 r = 2 ^ r.toNat := by unfold shlNum; rw [hok, if_pos rfl, Int.one_mul]
    rintro e w' ⟨ad1, n1, c1, rfl, k1, hb⟩
    rw [hnum] at k1
    rw [hok]
    have hp : (0 : Int) < 2 ^ r.toNat := Int.pow_pos (by omega)
    have hf := fit_pow r.toNat 262144 (by omega)
    unfold FitK at hf
    exact ⟨_, rfl, ⟨_, rfl, ⟨ad1, n1, c1, rfl, k1, Nat.le_trans (k1.len_le 262144 (by omega)) (by rw [lim_eq]; omega), by omega⟩, rfl, trivial⟩, hb⟩

set_option maxRecDepth 20000 in
set_option maxHeartbeats 2000000 in
theorem con_r3power (n : Int) (hn : 0 ≤ n ∧ n ≤ 8388607) : Con Try.prog 65 [Lit (.int .i64 n)] (IsI (2 ^ n.toNat)) := by
  refine f_enter (N := 13) Try.ntmps65 (fun _ _ => by go_simp) Try.func65 rfl (by simp) ?_
  intro a0 w0 B0 H0
  replace H0 : St 13 w0 B0 a0 w0 B0 [(0, .val (Lit (.int .i64 n)))] [] := H0
  refine wp_seq ?_
  refine flow_region (dsts := [some 2]) (refs := [[]]) (outs := [.res 0, .pre 0]) (als := [true]) (posts := [.box 25 2 (Zero2)])
    (out := [(2, .box 25 2 (Zero2)), (0, .val (Lit (.int .i64 n)))]) (nb := [2]) H0 1 [] rfl (by kernel_rfl) rfl rfl ?_ ?_
  · refine .cons (.plain rfl (ok_alloc (D := Zero2) zeroI rfl (fun _ _ => rfl))) ?_
    exact .nil
  clear H0
  intro a1 w1 B1 H1
  simp only [List.cons_append, List.nil_append] at H1
  refine ops_done ?_
  refine then_normal ?_
  refine wp_seq ?_
  refine flow_region (dsts := [some 6, some 7, some 8, some 5, some 9, some 10, some 3, some 4]) (refs := [[], [.pre 1], [.res 0, .res 1], [.res 2], [.res 3], [.res 3], [.res 4], [.res 5]]) (outs := [.res 6, .pre 0]) (als := [false, false, false, false, false, false, false, false]) (posts := [.val (IsM 1), .val (Lit (.int .i64 n)), .val (Tup [IsC (2 ^ n.toNat), IsB true]), .val (Tup [IsC (2 ^ n.toNat), IsB true]), .val (IsC (2 ^ n.toNat)), .val (IsB true), .val (IsC (2 ^ n.toNat)), .val (IsB true)])
    (out := [(3, .val (IsC (2 ^ n.toNat))), (2, .box 25 2 (Zero2))]) (nb := []) H1 8 [] rfl (by kernel_rfl) rfl rfl ?_ ?_
  · refine .cons (.plain rfl (ok_nat1 (by omega) (.lit))) ?_
    refine .cons (.plain rfl (ok_move (.tmp 0 rfl))) ?_
    refine .cons (.plain rfl (ok_call (con_rshl1 n (by omega)) (.cons (.tmp 0 rfl) (.cons (.tmp 1 rfl) (.nil))))) ?_
    refine .cons (.plain rfl (ok_move (.tmp 0 rfl))) ?_
    refine .cons (.plain rfl (ok_extract 0 (.tmp 0 rfl) rfl)) ?_
    refine .cons (.plain rfl (ok_extract 1 (.tmp 0 rfl) rfl)) ?_
    refine .cons (.plain rfl (ok_assign (.tmp 0 rfl))) ?_
    refine .cons (.plain rfl (ok_assign (.tmp 0 rfl))) ?_
    exact .nil
  clear H1 a1 w1 B1
  intro a2 w2 B2 H2
  refine ops_done ?_
  refine then_normal ?_
  refine wp_seq ?_
  refine flow_region (dsts := [some 11, some 12]) (refs := [[.pre 0], [.res 0]]) (outs := [.res 1, .pre 1]) (als := [false, false]) (posts := [.val (IsC (2 ^ n.toNat)), .val (IsI (2 ^ n.toNat))])
    (out := [(12, .val (IsI (2 ^ n.toNat))), (2, .box 25 2 (Zero2))]) (nb := []) H2 2 [2] rfl (by kernel_rfl) rfl rfl ?_ ?_
  · refine .cons (.plain rfl (ok_move (.tmp 0 rfl))) ?_
    refine .cons (.plain rfl (ok_buildI1 (.tmp 0 rfl))) ?_
    exact .nil
  clear H2 a2 w2 B2
  intro a3 w3 B3 H3
  refine ops_one ?_
  refine store_op (l' := [(12, .val (IsI (2 ^ n.toNat))), (2, .box 25 2 (IsI (2 ^ n.toNat)))]) 1 H3 rfl tyI rfl (.tmp 0 rfl) shape_Z shape_I rfl rfl ?_
  clear H3 w3
  intro w4 H4
  refine ops_done ?_
  refine then_normal ?_
  refine wp_ret ?_
  exact f_retC H4 tyI rfl 1 rfl (fun _ _ _ h => h)

theorem tw_pow (n : Int) (hn : 1 ≤ n) : (2 : Int) ^ ((8 * n) - 1).toNat = 128 * 256 ^ (n.toNat - 1) ∧ (256 : Int) ^ n.toNat = 256 * 256 ^ (n.toNat - 1) := by
  obtain ⟨m, hm⟩ : ∃ m : Nat, n = (m : Int) + 1 := ⟨n.toNat - 1, by omega⟩
  subst hm
  rw [show ((8 * ((m : Int) + 1)) - 1).toNat = 7 + 8 * m by omega, show ((m : Int) + 1).toNat = m + 1 by omega, Nat.add_sub_cancel]
  refine ⟨?_, by rw [Int.pow_succ, Int.mul_comm]⟩
  rw [Int.pow_add, Int.pow_mul]
  rfl
theorem tw_cmp (x y : Int) : (x < y ∧ cmpI x y = -1) ∨ (x = y ∧ cmpI x y = 0) ∨ (y < x ∧ cmpI x y = 1) := by
  unfold cmpI
  rcases Int.lt_trichotomy x y with h | h | h
  · rw [if_pos h]; exact .inl ⟨h, rfl⟩
  · subst h; rw [if_neg (by omega)]; exact .inr (.inl ⟨rfl, by simp⟩)
  · rw [if_neg (by omega)]; refine .inr (.inr ⟨h, ?_⟩); simp; omega
theorem tw_no {X n : Int} (h : ¬ (1 ≤ n ∧ n ≤ 1048576 ∧ -(128 * 256 ^ (n.toNat - 1)) ≤ X ∧ X < 128 * 256 ^ (n.toNat - 1))) : false = twosOk X n ∧ strB [] = strB (twosL X n) := by
  have e : twosOk X n = false := decide_eq_false h
  refine ⟨e.symm, ?_⟩
  unfold twosL
  rw [e]; rfl
theorem tw_long {X n : Int} (hn : 1 ≤ n) (h : 8 * n < bitsOf (X.natAbs : Int)) : ¬ (1 ≤ n ∧ n ≤ 1048576 ∧ -(128 * 256 ^ (n.toNat - 1)) ≤ X ∧ X < 128 * 256 ^ (n.toNat - 1)) := by
  rintro ⟨_, _, h1, h2⟩
  have := (bits_fit (X.natAbs : Int) (by omega) n.toNat).2
  have e := (tw_pow n hn).2
  have hp : (0 : Int) < 256 ^ (n.toNat - 1) := Int.pow_pos (by omega)
  generalize (256 : Int) ^ (n.toNat - 1) = P at *
  have := this (by omega)
  omega
theorem tw_fin (X Y n : Int) (hn : 1 ≤ n) (hok : true = twosOk X n) (hY : 0 ≤ Y ∧ Y < 256 ^ n.toNat) (he : Y = X ∨ Y = X + 256 ^ n.toNat) :
    strB (List.replicate (n - ((strB (dg 256 (Y.natAbs : Int)).reverse).size : Int)).toNat 0) ++ strB (dg 256 (Y.natAbs : Int)).reverse = strB (twosL X n) := by
  unfold twosL
  rw [← hok, if_pos rfl, strB_append, strB_size, List.length_reverse, show (Y.natAbs : Int) = Y by omega, beB_pad _ Y hY.1]
  have hl := dg256_len Y n.toNat hY.2
  rw [show (n - ((dg 256 Y).length : Int)).toNat + (dg 256 Y).length = n.toNat by omega]
  unfold beB
  rcases he with rfl | rfl
  · rfl
  · rw [← leL_mod n.toNat (X + 256 ^ n.toNat), Int.add_emod_right, leL_mod]
theorem tw_len (Y n : Int) (hn : 1 ≤ n) (hY : 0 ≤ Y ∧ Y < 256 ^ n.toNat) : ((strB (dg 256 (Y.natAbs : Int)).reverse).size : Int) ≤ n := by
  have hl := dg256_len Y n.toNat hY.2
  rw [strB_size, List.length_reverse, show (Y.natAbs : Int) = Y by omega]
  omega

set_option maxRecDepth 20000 in
set_option maxHeartbeats 2000000 in
theorem con_r3twos (X n : Int) (hn : -9223372036854775808 ≤ n ∧ n < 9223372036854775808) : Con Try.prog 26 [IsN X, Lit (.int .i64 n)] (Tup [Lit (.string (strB (twosL X n))), IsB (twosOk X n)]) := by
  refine f_enter (N := 55) Try.ntmps26 (fun _ _ => by go_simp) Try.func26 rfl (by simp) ?_
  intro a0 w0 B0 H0
  replace H0 : St 55 w0 B0 a0 w0 B0 [(0, .val (IsN X)), (1, .val (Lit (.int .i64 n)))] [] := H0
  obtain ⟨kx, hkx, hf⟩ : Fits X := PN.fit (H0.fc.get 0 rfl)
  have hlim := lim_eq
  refine wp_seq ?_
  refine flow_region (dsts := [some 2, some 4, some 5]) (refs := [[.pre 0], [], []]) (outs := [.res 0, .res 1, .res 2, .pre 1]) (als := [true, false, false]) (posts := [.box 25 2 (IsN X), .val (Lit (.string (strB []))), .val (IsB false)])
    (out := [(2, .box 25 2 (IsN X)), (4, .val (Lit (.string (strB [])))), (5, .val (IsB false)), (1, .val (Lit (.int .i64 n)))]) (nb := [2]) H0 3 [] rfl (by kernel_rfl) rfl rfl ?_ ?_
  · refine .cons (.plain rfl (ok_box (.tmp 0 rfl) shape_N.two)) ?_
    refine .cons (.plain rfl (ok_assign (.const (fun _ _ => by rfl)))) ?_
    refine .cons (.plain rfl (ok_assign (.lit))) ?_
    exact .nil
  clear H0
  intro a1 w1 B1 H1
  simp only [List.cons_append, List.nil_append] at H1
  refine ops_done ?_
  refine then_normal ?_
  refine wp_seq ?_
  refine wp_seq ?_
  rcases (show n < 1 ∨ (¬ n < 1 ∧ 1048576 < n) ∨ (¬ n < 1 ∧ ¬ 1048576 < n ∧ 8 * n < bitsOf (X.natAbs : Int)) ∨ (¬ n < 1 ∧ ¬ 1048576 < n ∧ ¬ 8 * n < bitsOf (X.natAbs : Int)) by omega) with c1 | ⟨c1, c2⟩ | ⟨c1, c2, c3⟩ | ⟨c1, c2, c3⟩
  · have hno : ¬ (1 ≤ n ∧ n ≤ 1048576 ∧ -(128 * 256 ^ (n.toNat - 1)) ≤ X ∧ X < 128 * 256 ^ (n.toNat - 1)) := by omega
    refine flow_region (dsts := [some 8, some 9, some 10, some 11, some 12, some 13, some 14, some 15, some 16, some 17, some 18, some 19, some 20, some 21]) (refs := [[.pre 3], [.res 0], [.res 1], [.res 2], [.res 2], [.res 2], [.res 5], [.res 6], [.res 6], [.res 6], [.res 6], [.res 6], [.res 6], [.res 6]]) (outs := [.res 13, .pre 0, .pre 1, .pre 2, .pre 3]) (als := [false, false, false, false, false, false, false, false, false, false, false, false, false, false]) (posts := [.val (Lit (.int .i64 n)), .val (IsB true), .val (IsB true), .val (IsUndef), .val (IsUndef), .val (IsB true), .val (IsB true), .val (IsUndef), .val (IsUndef), .val (IsUndef), .val (IsUndef), .val (IsUndef), .val (IsUndef), .val (IsB true)])
      (out := [(21, .val (IsB true)), (2, .box 25 2 (IsN X)), (4, .val (Lit (.string (strB [])))), (5, .val (IsB false)), (1, .val (Lit (.int .i64 n)))]) (nb := []) H1 14 [] rfl (by kernel_rfl) rfl rfl ?_ ?_
    · refine .cons (.plain rfl (ok_move (.tmp 0 rfl))) ?_
      refine .cons (.plain rfl (ok_cmp (b := true) (.tmp 0 rfl) (.lit) ((decide_eq_true (c1)).symm))) ?_
      refine .cons (.plain rfl (ok_move (.tmp 0 rfl))) ?_
      refine .cons (.unwanted 2 false rfl rfl rfl 0 rfl) ?_
      refine .cons (.unwanted 2 false rfl rfl rfl 0 rfl) ?_
      refine .cons (.plain rfl (ok_pickT (.tmp 0 rfl) (.lit))) ?_
      refine .cons (.plain rfl (ok_move (.tmp 0 rfl))) ?_
      refine .cons (.unwanted 6 false rfl rfl rfl 0 rfl) ?_
      refine .cons (.unwanted 6 false rfl rfl rfl 0 rfl) ?_
      refine .cons (.unwanted 6 false rfl rfl rfl 0 rfl) ?_
      refine .cons (.unwanted 6 false rfl rfl rfl 0 rfl) ?_
      refine .cons (.unwanted 6 false rfl rfl rfl 0 rfl) ?_
      refine .cons (.unwanted 6 false rfl rfl rfl 0 rfl) ?_
      refine .cons (.plain rfl (ok_pickT (.tmp 0 rfl) (.lit))) ?_
      exact .nil
    clear H1 a1 w1 B1
    intro a2 w2 B2 H2
    refine ops_done ?_
    refine then_normal ?_
    refine f_condT H2 (.tmp 0 rfl) ?_
    refine wp_seq ?_
    refine flow_region (dsts := [some 4, some 5]) (refs := [[], []]) (outs := [.res 0, .res 1, .pre 1, .pre 4]) (als := [false, false]) (posts := [.val (Lit (.string (strB []))), .val (IsB false)])
      (out := [(4, .val (Lit (.string (strB [])))), (5, .val (IsB false)), (2, .box 25 2 (IsN X)), (1, .val (Lit (.int .i64 n)))]) (nb := []) H2 2 [] rfl (by kernel_rfl) rfl rfl ?_ ?_
    · refine .cons (.plain rfl (ok_assign (.const (fun _ _ => by rfl)))) ?_
      refine .cons (.plain rfl (ok_assign (.lit))) ?_
      exact .nil
    clear H2 a2 w2 B2
    intro a3 w3 B3 H3
    refine ops_done ?_
    refine then_normal ?_
    refine wp_ret ?_
    refine then_ret ?_
    exact f_retN H3 rfl rfl (.tmp 0 rfl (fun v w B h => by exact str_eq ((tw_no hno).2) h) (.tmp 1 rfl (fun v w B h => by exact isB_eq ((tw_no hno).1) h) (.nil)))
  · have hno : ¬ (1 ≤ n ∧ n ≤ 1048576 ∧ -(128 * 256 ^ (n.toNat - 1)) ≤ X ∧ X < 128 * 256 ^ (n.toNat - 1)) := by omega
    refine flow_region (dsts := [some 8, some 9, some 10, some 11, some 12, some 13, some 14, some 15, some 16, some 17, some 18, some 19, some 20, some 21]) (refs := [[.pre 3], [.res 0], [.res 1], [.res 2, .pre 3], [.res 2, .res 3], [.res 2, .res 4], [.res 5], [.res 6], [.res 6], [.res 6], [.res 6], [.res 6], [.res 6], [.res 6]]) (outs := [.res 13, .pre 0, .pre 1, .pre 2, .pre 3]) (als := [false, false, false, false, false, false, false, false, false, false, false, false, false, false]) (posts := [.val (Lit (.int .i64 n)), .val (IsB false), .val (IsB false), .val (Lit (.int .i64 n)), .val (IsB true), .val (IsB true), .val (IsB true), .val (IsUndef), .val (IsUndef), .val (IsUndef), .val (IsUndef), .val (IsUndef), .val (IsUndef), .val (IsB true)])
      (out := [(21, .val (IsB true)), (2, .box 25 2 (IsN X)), (4, .val (Lit (.string (strB [])))), (5, .val (IsB false)), (1, .val (Lit (.int .i64 n)))]) (nb := []) H1 14 [] rfl (by kernel_rfl) rfl rfl ?_ ?_
    · refine .cons (.plain rfl (ok_move (.tmp 0 rfl))) ?_
      refine .cons (.plain rfl (ok_cmp (b := false) (.tmp 0 rfl) (.lit) ((decide_eq_false (c1)).symm))) ?_
      refine .cons (.plain rfl (ok_move (.tmp 0 rfl))) ?_
      refine .cons (.wanted 2 false rfl rfl rfl 0 rfl (ok_move (.tmp 1 rfl))) ?_
      refine .cons (.wanted 2 false rfl rfl rfl 0 rfl (ok_cmp (b := true) (.tmp 1 rfl) (.lit) ((decide_eq_true (c2)).symm))) ?_
      refine .cons (.plain rfl (ok_pickF (.tmp 0 rfl) (.tmp 1 rfl))) ?_
      refine .cons (.plain rfl (ok_move (.tmp 0 rfl))) ?_
      refine .cons (.unwanted 6 false rfl rfl rfl 0 rfl) ?_
      refine .cons (.unwanted 6 false rfl rfl rfl 0 rfl) ?_
      refine .cons (.unwanted 6 false rfl rfl rfl 0 rfl) ?_
      refine .cons (.unwanted 6 false rfl rfl rfl 0 rfl) ?_
      refine .cons (.unwanted 6 false rfl rfl rfl 0 rfl) ?_
      refine .cons (.unwanted 6 false rfl rfl rfl 0 rfl) ?_
      refine .cons (.plain rfl (ok_pickT (.tmp 0 rfl) (.lit))) ?_
      exact .nil
    clear H1 a1 w1 B1
    intro a4 w4 B4 H4
    refine ops_done ?_
    refine then_normal ?_
    refine f_condT H4 (.tmp 0 rfl) ?_
    refine wp_seq ?_
    refine flow_region (dsts := [some 4, some 5]) (refs := [[], []]) (outs := [.res 0, .res 1, .pre 1, .pre 4]) (als := [false, false]) (posts := [.val (Lit (.string (strB []))), .val (IsB false)])
      (out := [(4, .val (Lit (.string (strB [])))), (5, .val (IsB false)), (2, .box 25 2 (IsN X)), (1, .val (Lit (.int .i64 n)))]) (nb := []) H4 2 [] rfl (by kernel_rfl) rfl rfl ?_ ?_
    · refine .cons (.plain rfl (ok_assign (.const (fun _ _ => by rfl)))) ?_
      refine .cons (.plain rfl (ok_assign (.lit))) ?_
      exact .nil
    clear H4 a4 w4 B4
    intro a5 w5 B5 H5
    refine ops_done ?_
    refine then_normal ?_
    refine wp_ret ?_
    refine then_ret ?_
    exact f_retN H5 rfl rfl (.tmp 0 rfl (fun v w B h => by exact str_eq ((tw_no hno).2) h) (.tmp 1 rfl (fun v w B h => by exact isB_eq ((tw_no hno).1) h) (.nil)))
  · have hno := tw_long (by omega) c3
    refine flow_region (dsts := [some 8, some 9, some 10, some 11, some 12, some 13, some 14, some 15, some 16, some 17, some 18, some 19, some 20, some 21]) (refs := [[.pre 3], [.res 0], [.res 1], [.res 2, .pre 3], [.res 2, .res 3], [.res 2, .res 4], [.res 5], [.res 6, .pre 0], [.res 6, .res 7], [.res 6, .res 8], [.res 6, .pre 3], [.res 6, .res 10], [.res 6, .res 9, .res 11], [.res 6, .res 12]]) (outs := [.res 13, .pre 0, .pre 1, .pre 2, .pre 3]) (als := [false, false, false, false, false, false, false, false, false, false, false, false, false, false]) (posts := [.val (Lit (.int .i64 n)), .val (IsB false), .val (IsB false), .val (Lit (.int .i64 n)), .val (IsB false), .val (IsB false), .val (IsB false), .ptr 25 2 (IsN X) 1, .val (IsM ((X).natAbs : Int)), .val (Lit (.int .i64 (bitsOf ((X).natAbs : Int)))), .val (Lit (.int .i64 n)), .val (Lit (.int .i64 (8 * n))), .val (IsB true), .val (IsB true)])
      (out := [(21, .val (IsB true)), (2, .box 25 2 (IsN X)), (4, .val (Lit (.string (strB [])))), (5, .val (IsB false)), (1, .val (Lit (.int .i64 n)))]) (nb := []) H1 14 [] rfl (by kernel_rfl) rfl rfl ?_ ?_
    · refine .cons (.plain rfl (ok_move (.tmp 0 rfl))) ?_
      refine .cons (.plain rfl (ok_cmp (b := false) (.tmp 0 rfl) (.lit) ((decide_eq_false (c1)).symm))) ?_
      refine .cons (.plain rfl (ok_move (.tmp 0 rfl))) ?_
      refine .cons (.wanted 2 false rfl rfl rfl 0 rfl (ok_move (.tmp 1 rfl))) ?_
      refine .cons (.wanted 2 false rfl rfl rfl 0 rfl (ok_cmp (b := false) (.tmp 1 rfl) (.lit) ((decide_eq_false (c2)).symm))) ?_
      refine .cons (.plain rfl (ok_pickF (.tmp 0 rfl) (.tmp 1 rfl))) ?_
      refine .cons (.plain rfl (ok_move (.tmp 0 rfl))) ?_
      refine .cons (.wanted 6 false rfl rfl rfl 0 rfl (ok_addrI1 (.tmp 1 rfl))) ?_
      refine .cons (.wanted 6 false rfl rfl rfl 0 rfl (ok_loadMagN (.tmp 1 rfl))) ?_
      refine .cons (.wanted 6 false rfl rfl rfl 0 rfl (ok_call (con_rlen ((X).natAbs : Int)) (.cons (.tmp 1 rfl) (.nil)))) ?_
      refine .cons (.wanted 6 false rfl rfl rfl 0 rfl (ok_move (.tmp 1 rfl))) ?_
      refine .cons (.wanted 6 false rfl rfl rfl 0 rfl (ok_mul (r := (8 * n)) (.lit) (.tmp 1 rfl) (w_i64 (by omega)))) ?_
      refine .cons (.wanted 6 false rfl rfl rfl 0 rfl (ok_cmp (b := true) (.tmp 1 rfl) (.tmp 2 rfl) ((decide_eq_true (c3)).symm))) ?_
      refine .cons (.plain rfl (ok_pickF (.tmp 0 rfl) (.tmp 1 rfl))) ?_
      exact .nil
    clear H1 a1 w1 B1
    intro a6 w6 B6 H6
    refine ops_done ?_
    refine then_normal ?_
    refine f_condT H6 (.tmp 0 rfl) ?_
    refine wp_seq ?_
    refine flow_region (dsts := [some 4, some 5]) (refs := [[], []]) (outs := [.res 0, .res 1, .pre 1, .pre 4]) (als := [false, false]) (posts := [.val (Lit (.string (strB []))), .val (IsB false)])
      (out := [(4, .val (Lit (.string (strB [])))), (5, .val (IsB false)), (2, .box 25 2 (IsN X)), (1, .val (Lit (.int .i64 n)))]) (nb := []) H6 2 [] rfl (by kernel_rfl) rfl rfl ?_ ?_
    · refine .cons (.plain rfl (ok_assign (.const (fun _ _ => by rfl)))) ?_
      refine .cons (.plain rfl (ok_assign (.lit))) ?_
      exact .nil
    clear H6 a6 w6 B6
    intro a7 w7 B7 H7
    refine ops_done ?_
    refine then_normal ?_
    refine wp_ret ?_
    refine then_ret ?_
    exact f_retN H7 rfl rfl (.tmp 0 rfl (fun v w B h => by exact str_eq ((tw_no hno).2) h) (.tmp 1 rfl (fun v w B h => by exact isB_eq ((tw_no hno).1) h) (.nil)))
  · have h1 : 1 ≤ n := by omega
    obtain ⟨hp1, hp2⟩ := tw_pow n h1
    refine flow_region (dsts := [some 8, some 9, some 10, some 11, some 12, some 13, some 14, some 15, some 16, some 17, some 18, some 19, some 20, some 21]) (refs := [[.pre 3], [.res 0], [.res 1], [.res 2, .pre 3], [.res 2, .res 3], [.res 2, .res 4], [.res 5], [.res 6, .pre 0], [.res 6, .res 7], [.res 6, .res 8], [.res 6, .pre 3], [.res 6, .res 10], [.res 6, .res 9, .res 11], [.res 6, .res 12]]) (outs := [.res 13, .pre 0, .pre 1, .pre 2, .pre 3]) (als := [false, false, false, false, false, false, false, false, false, false, false, false, false, false]) (posts := [.val (Lit (.int .i64 n)), .val (IsB false), .val (IsB false), .val (Lit (.int .i64 n)), .val (IsB false), .val (IsB false), .val (IsB false), .ptr 25 2 (IsN X) 1, .val (IsM ((X).natAbs : Int)), .val (Lit (.int .i64 (bitsOf ((X).natAbs : Int)))), .val (Lit (.int .i64 n)), .val (Lit (.int .i64 (8 * n))), .val (IsB false), .val (IsB false)])
      (out := [(21, .val (IsB false)), (2, .box 25 2 (IsN X)), (4, .val (Lit (.string (strB [])))), (5, .val (IsB false)), (1, .val (Lit (.int .i64 n)))]) (nb := []) H1 14 [] rfl (by kernel_rfl) rfl rfl ?_ ?_
    · refine .cons (.plain rfl (ok_move (.tmp 0 rfl))) ?_
      refine .cons (.plain rfl (ok_cmp (b := false) (.tmp 0 rfl) (.lit) ((decide_eq_false (c1)).symm))) ?_
      refine .cons (.plain rfl (ok_move (.tmp 0 rfl))) ?_
      refine .cons (.wanted 2 false rfl rfl rfl 0 rfl (ok_move (.tmp 1 rfl))) ?_
      refine .cons (.wanted 2 false rfl rfl rfl 0 rfl (ok_cmp (b := false) (.tmp 1 rfl) (.lit) ((decide_eq_false (c2)).symm))) ?_
      refine .cons (.plain rfl (ok_pickF (.tmp 0 rfl) (.tmp 1 rfl))) ?_
      refine .cons (.plain rfl (ok_move (.tmp 0 rfl))) ?_
      refine .cons (.wanted 6 false rfl rfl rfl 0 rfl (ok_addrI1 (.tmp 1 rfl))) ?_
      refine .cons (.wanted 6 false rfl rfl rfl 0 rfl (ok_loadMagN (.tmp 1 rfl))) ?_
      refine .cons (.wanted 6 false rfl rfl rfl 0 rfl (ok_call (con_rlen ((X).natAbs : Int)) (.cons (.tmp 1 rfl) (.nil)))) ?_
      refine .cons (.wanted 6 false rfl rfl rfl 0 rfl (ok_move (.tmp 1 rfl))) ?_
      refine .cons (.wanted 6 false rfl rfl rfl 0 rfl (ok_mul (r := (8 * n)) (.lit) (.tmp 1 rfl) (w_i64 (by omega)))) ?_
      refine .cons (.wanted 6 false rfl rfl rfl 0 rfl (ok_cmp (b := false) (.tmp 1 rfl) (.tmp 2 rfl) ((decide_eq_false (c3)).symm))) ?_
      refine .cons (.plain rfl (ok_pickF (.tmp 0 rfl) (.tmp 1 rfl))) ?_
      exact .nil
    clear H1 a1 w1 B1
    intro a8 w8 B8 H8
    refine ops_done ?_
    refine then_normal ?_
    refine f_condF H8 (.tmp 0 rfl) ?_
    refine wp_skip ?_
    refine then_normal ?_
    refine wp_seq ?_
    refine flow_region (dsts := [some 22, some 23, some 24, some 25, some 6]) (refs := [[.pre 4], [.res 0], [.res 1], [.res 2], []]) (outs := [.res 3, .res 4, .pre 1, .pre 2, .pre 3, .pre 4]) (als := [false, false, false, false, true]) (posts := [.val (Lit (.int .i64 n)), .val (Lit (.int .i64 (8 * n))), .val (Lit (.int .i64 ((8 * n) - 1))), .val (IsI (2 ^ ((8 * n) - 1).toNat)), .box 25 2 (Zero2)])
      (out := [(25, .val (IsI (2 ^ ((8 * n) - 1).toNat))), (6, .box 25 2 (Zero2)), (2, .box 25 2 (IsN X)), (4, .val (Lit (.string (strB [])))), (5, .val (IsB false)), (1, .val (Lit (.int .i64 n)))]) (nb := [6]) H8 5 [5] rfl (by kernel_rfl) rfl rfl ?_ ?_
    · refine .cons (.plain rfl (ok_move (.tmp 0 rfl))) ?_
      refine .cons (.plain rfl (ok_mul (r := (8 * n)) (.lit) (.tmp 0 rfl) (w_i64 (by omega)))) ?_
      refine .cons (.plain rfl (ok_sub (r := ((8 * n) - 1)) (.tmp 0 rfl) (.lit) (w_i64 (by omega)))) ?_
      refine .cons (.plain rfl (ok_call (con_r3power ((8 * n) - 1) (by omega)) (.cons (.tmp 0 rfl) (.nil)))) ?_
      refine .cons (.plain rfl (ok_alloc (D := Zero2) zeroI rfl (fun _ _ => rfl))) ?_
      exact .nil
    clear H8 a8 w8 B8
    intro a9 w9 B9 H9
    simp only [List.cons_append, List.nil_append] at H9
    refine ops_one ?_
    refine store_op (l' := [(25, .val (IsI (2 ^ ((8 * n) - 1).toNat))), (6, .box 25 2 (IsI (2 ^ ((8 * n) - 1).toNat))), (2, .box 25 2 (IsN X)), (4, .val (Lit (.string (strB [])))), (5, .val (IsB false)), (1, .val (Lit (.int .i64 n)))]) 1 H9 rfl tyI rfl (.tmp 0 rfl) shape_Z shape_I rfl rfl ?_
    clear H9 w9
    intro w10 H10
    refine ops_done ?_
    refine then_normal ?_
    refine wp_seq ?_
    refine wp_seq ?_
    rcases (show 2 ^ ((8 * n) - 1).toNat ≤ X ∨ (¬ 2 ^ ((8 * n) - 1).toNat ≤ X ∧ X < -(2 ^ ((8 * n) - 1).toNat)) ∨ (¬ 2 ^ ((8 * n) - 1).toNat ≤ X ∧ ¬ X < -(2 ^ ((8 * n) - 1).toNat)) by omega) with d1 | ⟨d1, d2⟩ | ⟨d1, d2⟩
    · rw [hp1] at d1
      have hno : ¬ (1 ≤ n ∧ n ≤ 1048576 ∧ -(128 * 256 ^ (n.toNat - 1)) ≤ X ∧ X < 128 * 256 ^ (n.toNat - 1)) := fun h => by have := h.2.2.2; omega
      rw [← hp1] at d1
      refine flow_drawT (dsts := [some 26, some 27, some 28, some 29, some 30, some 31, some 32, some 33, some 34, some 35, some 36]) (refs := [[.pre 2], [.pre 1], [.res 0, .res 1], [.res 2], [.res 3], [.res 4], [.res 4], [.res 4], [.res 4], [.res 4], [.res 4]]) (outs := [.res 10, .pre 1, .pre 2, .pre 3, .pre 4, .pre 5]) (als := [false, false, false, false, false, false, false, false, false, false, false]) (posts := [.val (IsN X), .val (IsI (2 ^ ((8 * n) - 1).toNat)), .val (Lit (.int .i64 (cmpI X (2 ^ ((8 * n) - 1).toNat)))), .val (IsB true), .val (IsB true), .val (IsUndef), .val (IsUndef), .val (IsUndef), .val (IsUndef), .val (IsUndef), .val (IsB true)])
        (out := [(36, .val (IsB true)), (6, .box 25 2 (IsI (2 ^ ((8 * n) - 1).toNat))), (2, .box 25 2 (IsN X)), (4, .val (Lit (.string (strB [])))), (5, .val (IsB false)), (1, .val (Lit (.int .i64 n)))]) (nb := []) H10 (by kernel_rfl) 11 0 #[true, true, true, true, true, true, true, true, true, true, true] (by kernel_rfl) (by kernel_rfl) rfl rfl ?_ ?_
      · refine .cons (.plain rfl (ok_load tyI (.tmp 0 rfl))) ?_
        refine .cons (.plain rfl (ok_load tyI (.tmp 0 rfl))) ?_
        refine .cons (.plain rfl (ok_call (con_r3cmp X (2 ^ ((8 * n) - 1).toNat)) (.cons (.tmp 0 rfl) (.cons (.weak (.tmp 1 rfl) weakIN) (.nil))))) ?_
        refine .cons (.plain rfl (ok_cmp (b := true) (.tmp 0 rfl) (.lit) ((decide_eq_true (by have := tw_cmp X (2 ^ ((8 * n) - 1).toNat); omega)).symm))) ?_
        refine .cons (.plain rfl (ok_move (.tmp 0 rfl))) ?_
        refine .cons (.unwanted 4 false rfl rfl rfl 0 rfl) ?_
        refine .cons (.unwanted 4 false rfl rfl rfl 0 rfl) ?_
        refine .cons (.unwanted 4 false rfl rfl rfl 0 rfl) ?_
        refine .cons (.unwanted 4 false rfl rfl rfl 0 rfl) ?_
        refine .cons (.unwanted 4 false rfl rfl rfl 0 rfl) ?_
        refine .cons (.plain rfl (ok_pickT (.tmp 0 rfl) (.lit))) ?_
        exact .nil
      clear H10 a9 w10 B9
      intro a11 w11 B11 H11
      refine any_done (by kernel_rfl) ?_
      refine then_normal ?_
      refine f_condT H11 (.tmp 0 rfl) ?_
      refine wp_seq ?_
      refine flow_region (dsts := [some 4, some 5]) (refs := [[], []]) (outs := [.res 0, .res 1, .pre 1, .pre 2, .pre 5]) (als := [false, false]) (posts := [.val (Lit (.string (strB []))), .val (IsB false)])
        (out := [(4, .val (Lit (.string (strB [])))), (5, .val (IsB false)), (6, .box 25 2 (IsI (2 ^ ((8 * n) - 1).toNat))), (2, .box 25 2 (IsN X)), (1, .val (Lit (.int .i64 n)))]) (nb := []) H11 2 [] rfl (by kernel_rfl) rfl rfl ?_ ?_
      · refine .cons (.plain rfl (ok_assign (.const (fun _ _ => by rfl)))) ?_
        refine .cons (.plain rfl (ok_assign (.lit))) ?_
        exact .nil
      clear H11 a11 w11 B11
      intro a12 w12 B12 H12
      refine ops_done ?_
      refine then_normal ?_
      refine wp_ret ?_
      refine then_ret ?_
      exact f_retN H12 rfl rfl (.tmp 0 rfl (fun v w B h => by exact str_eq ((tw_no hno).2) h) (.tmp 1 rfl (fun v w B h => by exact isB_eq ((tw_no hno).1) h) (.nil)))
    · rw [hp1] at d2
      have hno : ¬ (1 ≤ n ∧ n ≤ 1048576 ∧ -(128 * 256 ^ (n.toNat - 1)) ≤ X ∧ X < 128 * 256 ^ (n.toNat - 1)) := fun h => by have := h.2.2.1; omega
      rw [← hp1] at d2
      refine flow_drawT (dsts := [some 26, some 27, some 28, some 29, some 30, some 31, some 32, some 33, some 34, some 35, some 36]) (refs := [[.pre 2], [.pre 1], [.res 0, .res 1], [.res 2], [.res 3], [.res 4, .pre 2], [.res 4, .pre 1], [.res 4, .res 6], [.res 4, .res 5, .res 7], [.res 4, .res 8], [.res 4, .res 9]]) (outs := [.res 10, .pre 1, .pre 2, .pre 3, .pre 4, .pre 5]) (als := [false, false, false, false, false, false, false, false, false, false, false]) (posts := [.val (IsN X), .val (IsI (2 ^ ((8 * n) - 1).toNat)), .val (Lit (.int .i64 (cmpI X (2 ^ ((8 * n) - 1).toNat)))), .val (IsB false), .val (IsB false), .val (IsN X), .val (IsI (2 ^ ((8 * n) - 1).toNat)), .val (IsI (-(2 ^ ((8 * n) - 1).toNat))), .val (Lit (.int .i64 (cmpI X (-(2 ^ ((8 * n) - 1).toNat))))), .val (IsB true), .val (IsB true)])
        (out := [(36, .val (IsB true)), (6, .box 25 2 (IsI (2 ^ ((8 * n) - 1).toNat))), (2, .box 25 2 (IsN X)), (4, .val (Lit (.string (strB [])))), (5, .val (IsB false)), (1, .val (Lit (.int .i64 n)))]) (nb := []) H10 (by kernel_rfl) 11 0 #[true, true, true, true, true, true, true, true, true, true, true] (by kernel_rfl) (by kernel_rfl) rfl rfl ?_ ?_
      · refine .cons (.plain rfl (ok_load tyI (.tmp 0 rfl))) ?_
        refine .cons (.plain rfl (ok_load tyI (.tmp 0 rfl))) ?_
        refine .cons (.plain rfl (ok_call (con_r3cmp X (2 ^ ((8 * n) - 1).toNat)) (.cons (.tmp 0 rfl) (.cons (.weak (.tmp 1 rfl) weakIN) (.nil))))) ?_
        refine .cons (.plain rfl (ok_cmp (b := false) (.tmp 0 rfl) (.lit) ((decide_eq_false (by have := tw_cmp X (2 ^ ((8 * n) - 1).toNat); omega)).symm))) ?_
        refine .cons (.plain rfl (ok_move (.tmp 0 rfl))) ?_
        refine .cons (.wanted 4 false rfl rfl rfl 0 rfl (ok_load tyI (.tmp 1 rfl))) ?_
        refine .cons (.wanted 4 false rfl rfl rfl 0 rfl (ok_load tyI (.tmp 1 rfl))) ?_
        refine .cons (.wanted 4 false rfl rfl rfl 0 rfl (ok_call (con_r3neg (2 ^ ((8 * n) - 1).toNat)) (.cons (.weak (.tmp 1 rfl) weakIN) (.nil)))) ?_
        refine .cons (.wanted 4 false rfl rfl rfl 0 rfl (ok_call (con_r3cmp X (-(2 ^ ((8 * n) - 1).toNat))) (.cons (.tmp 1 rfl) (.cons (.weak (.tmp 2 rfl) weakIN) (.nil))))) ?_
        refine .cons (.wanted 4 false rfl rfl rfl 0 rfl (ok_cmp (b := true) (.tmp 1 rfl) (.lit) ((decide_eq_true (by have := tw_cmp X (-(2 ^ ((8 * n) - 1).toNat)); omega)).symm))) ?_
        refine .cons (.plain rfl (ok_pickF (.tmp 0 rfl) (.tmp 1 rfl))) ?_
        exact .nil
      clear H10 a9 w10 B9
      intro a13 w13 B13 H13
      refine any_done (by kernel_rfl) ?_
      refine then_normal ?_
      refine f_condT H13 (.tmp 0 rfl) ?_
      refine wp_seq ?_
      refine flow_region (dsts := [some 4, some 5]) (refs := [[], []]) (outs := [.res 0, .res 1, .pre 1, .pre 2, .pre 5]) (als := [false, false]) (posts := [.val (Lit (.string (strB []))), .val (IsB false)])
        (out := [(4, .val (Lit (.string (strB [])))), (5, .val (IsB false)), (6, .box 25 2 (IsI (2 ^ ((8 * n) - 1).toNat))), (2, .box 25 2 (IsN X)), (1, .val (Lit (.int .i64 n)))]) (nb := []) H13 2 [] rfl (by kernel_rfl) rfl rfl ?_ ?_
      · refine .cons (.plain rfl (ok_assign (.const (fun _ _ => by rfl)))) ?_
        refine .cons (.plain rfl (ok_assign (.lit))) ?_
        exact .nil
      clear H13 a13 w13 B13
      intro a14 w14 B14 H14
      refine ops_done ?_
      refine then_normal ?_
      refine wp_ret ?_
      refine then_ret ?_
      exact f_retN H14 rfl rfl (.tmp 0 rfl (fun v w B h => by exact str_eq ((tw_no hno).2) h) (.tmp 1 rfl (fun v w B h => by exact isB_eq ((tw_no hno).1) h) (.nil)))
    · have hf2 : FitK 262144 X := (fit_pow ((8 * n) - 1).toNat 262144 (by omega)).le (by omega)
      have hok : true = twosOk X n := (decide_eq_true ⟨by omega, by omega, by rw [← hp1]; omega, by rw [← hp1]; omega⟩).symm
      refine flow_drawT (dsts := [some 26, some 27, some 28, some 29, some 30, some 31, some 32, some 33, some 34, some 35, some 36]) (refs := [[.pre 2], [.pre 1], [.res 0, .res 1], [.res 2], [.res 3], [.res 4, .pre 2], [.res 4, .pre 1], [.res 4, .res 6], [.res 4, .res 5, .res 7], [.res 4, .res 8], [.res 4, .res 9]]) (outs := [.res 10, .pre 1, .pre 2, .pre 3, .pre 4, .pre 5]) (als := [false, false, false, false, false, false, false, false, false, false, false]) (posts := [.val (IsN X), .val (IsI (2 ^ ((8 * n) - 1).toNat)), .val (Lit (.int .i64 (cmpI X (2 ^ ((8 * n) - 1).toNat)))), .val (IsB false), .val (IsB false), .val (IsN X), .val (IsI (2 ^ ((8 * n) - 1).toNat)), .val (IsI (-(2 ^ ((8 * n) - 1).toNat))), .val (Lit (.int .i64 (cmpI X (-(2 ^ ((8 * n) - 1).toNat))))), .val (IsB false), .val (IsB false)])
        (out := [(36, .val (IsB false)), (6, .box 25 2 (IsI (2 ^ ((8 * n) - 1).toNat))), (2, .box 25 2 (IsN X)), (4, .val (Lit (.string (strB [])))), (5, .val (IsB false)), (1, .val (Lit (.int .i64 n)))]) (nb := []) H10 (by kernel_rfl) 11 0 #[true, true, true, true, true, true, true, true, true, true, true] (by kernel_rfl) (by kernel_rfl) rfl rfl ?_ ?_
      · refine .cons (.plain rfl (ok_load tyI (.tmp 0 rfl))) ?_
        refine .cons (.plain rfl (ok_load tyI (.tmp 0 rfl))) ?_
        refine .cons (.plain rfl (ok_call (con_r3cmp X (2 ^ ((8 * n) - 1).toNat)) (.cons (.tmp 0 rfl) (.cons (.weak (.tmp 1 rfl) weakIN) (.nil))))) ?_
        refine .cons (.plain rfl (ok_cmp (b := false) (.tmp 0 rfl) (.lit) ((decide_eq_false (by have := tw_cmp X (2 ^ ((8 * n) - 1).toNat); omega)).symm))) ?_
        refine .cons (.plain rfl (ok_move (.tmp 0 rfl))) ?_
        refine .cons (.wanted 4 false rfl rfl rfl 0 rfl (ok_load tyI (.tmp 1 rfl))) ?_
        refine .cons (.wanted 4 false rfl rfl rfl 0 rfl (ok_load tyI (.tmp 1 rfl))) ?_
        refine .cons (.wanted 4 false rfl rfl rfl 0 rfl (ok_call (con_r3neg (2 ^ ((8 * n) - 1).toNat)) (.cons (.weak (.tmp 1 rfl) weakIN) (.nil)))) ?_
        refine .cons (.wanted 4 false rfl rfl rfl 0 rfl (ok_call (con_r3cmp X (-(2 ^ ((8 * n) - 1).toNat))) (.cons (.tmp 1 rfl) (.cons (.weak (.tmp 2 rfl) weakIN) (.nil))))) ?_
        refine .cons (.wanted 4 false rfl rfl rfl 0 rfl (ok_cmp (b := false) (.tmp 1 rfl) (.lit) ((decide_eq_false (by have := tw_cmp X (-(2 ^ ((8 * n) - 1).toNat)); omega)).symm))) ?_
        refine .cons (.plain rfl (ok_pickF (.tmp 0 rfl) (.tmp 1 rfl))) ?_
        exact .nil
      clear H10 a9 w10 B9
      intro a15 w15 B15 H15
      refine any_done (by kernel_rfl) ?_
      refine then_normal ?_
      refine f_condF H15 (.tmp 0 rfl) ?_
      refine wp_skip ?_
      refine then_normal ?_
      refine wp_seq ?_
      refine wp_seq ?_
      refine flow_region (dsts := [some 37, some 38]) (refs := [[.pre 2], [.res 0]]) (outs := [.res 1, .pre 1, .pre 2, .pre 3, .pre 4, .pre 5]) (als := [false, false]) (posts := [.val (IsN X), .val (IsB (decide (X < 0)))])
        (out := [(38, .val (IsB (decide (X < 0)))), (6, .box 25 2 (IsI (2 ^ ((8 * n) - 1).toNat))), (2, .box 25 2 (IsN X)), (4, .val (Lit (.string (strB [])))), (5, .val (IsB false)), (1, .val (Lit (.int .i64 n)))]) (nb := []) H15 2 [] rfl (by kernel_rfl) rfl rfl ?_ ?_
      · refine .cons (.plain rfl (ok_load tyI (.tmp 0 rfl))) ?_
        refine .cons (.plain rfl (ok_call (con_r3below X) (.cons (.tmp 0 rfl) (.nil)))) ?_
        exact .nil
      clear H15 a15 w15 B15
      intro a16 w16 B16 H16
      refine ops_done ?_
      refine then_normal ?_
      refine f_cond H16 (.tmp 0 rfl) ?_ ?_
      · intro hc17
        replace hc17 := of_decide_eq_true hc17
        have hY : 0 ≤ X + ((2 ^ ((8 * n) - 1).toNat) + (2 ^ ((8 * n) - 1).toNat)) ∧ X + ((2 ^ ((8 * n) - 1).toNat) + (2 ^ ((8 * n) - 1).toNat)) < 256 ^ n.toNat := by rw [hp2]; rw [hp1]; rw [hp1] at d1 d2; generalize (256 : Int) ^ (n.toNat - 1) = Q at *; omega
        have hE : X + ((2 ^ ((8 * n) - 1).toNat) + (2 ^ ((8 * n) - 1).toNat)) = X ∨ X + ((2 ^ ((8 * n) - 1).toNat) + (2 ^ ((8 * n) - 1).toNat)) = X + 256 ^ n.toNat := .inr (by rw [hp2, hp1]; omega)
        have hsz := tw_len (X + ((2 ^ ((8 * n) - 1).toNat) + (2 ^ ((8 * n) - 1).toNat))) n h1 hY
        refine flow_drawT (dsts := [some 39, some 40, some 41, some 42, some 43]) (refs := [[.pre 2], [.pre 1], [.pre 1], [.res 1, .res 2], [.res 0, .res 3]]) (outs := [.res 4, .pre 2, .pre 3, .pre 4, .pre 5]) (als := [false, false, false, false, false]) (posts := [.val (IsN X), .val (IsI (2 ^ ((8 * n) - 1).toNat)), .val (IsI (2 ^ ((8 * n) - 1).toNat)), .val (IsI ((2 ^ ((8 * n) - 1).toNat) + (2 ^ ((8 * n) - 1).toNat))), .val (IsI (X + ((2 ^ ((8 * n) - 1).toNat) + (2 ^ ((8 * n) - 1).toNat))))])
          (out := [(43, .val (IsI (X + ((2 ^ ((8 * n) - 1).toNat) + (2 ^ ((8 * n) - 1).toNat))))), (2, .box 25 2 (IsN X)), (4, .val (Lit (.string (strB [])))), (5, .val (IsB false)), (1, .val (Lit (.int .i64 n)))]) (nb := []) H16 (by kernel_rfl) 5 1 #[true, true, true, true, true, false] (by kernel_rfl) (by kernel_rfl) rfl rfl ?_ ?_
        · refine .cons (.plain rfl (ok_load tyI (.tmp 0 rfl))) ?_
          refine .cons (.plain rfl (ok_load tyI (.tmp 0 rfl))) ?_
          refine .cons (.plain rfl (ok_load tyI (.tmp 0 rfl))) ?_
          refine .cons (.plain rfl (ok_call (con_r3add (2 ^ ((8 * n) - 1).toNat) (2 ^ ((8 * n) - 1).toNat) (fit_pow ((8 * n) - 1).toNat 262144 (by omega)) (fit_pow ((8 * n) - 1).toNat 262144 (by omega)) (by omega)) (.cons (.weak (.tmp 0 rfl) weakIN) (.cons (.weak (.tmp 1 rfl) weakIN) (.nil))))) ?_
          refine .cons (.plain rfl (ok_call (con_r3add X ((2 ^ ((8 * n) - 1).toNat) + (2 ^ ((8 * n) - 1).toNat)) hf2 ((fit_pow ((8 * n) - 1).toNat 262144 (by omega)).add (fit_pow ((8 * n) - 1).toNat 262144 (by omega))) (by omega)) (.cons (.tmp 0 rfl) (.cons (.weak (.tmp 1 rfl) weakIN) (.nil))))) ?_
          exact .nil
        clear H16 a16 w16 B16
        intro a18 w18 B18 H18
        refine any_oneT (l' := #[true, true, true, true, true, true]) 5 (by kernel_rfl) ?_
        refine store_op (l' := [(43, .val (IsI (X + ((2 ^ ((8 * n) - 1).toNat) + (2 ^ ((8 * n) - 1).toNat))))), (2, .box 25 2 (IsI (X + ((2 ^ ((8 * n) - 1).toNat) + (2 ^ ((8 * n) - 1).toNat))))), (4, .val (Lit (.string (strB [])))), (5, .val (IsB false)), (1, .val (Lit (.int .i64 n)))]) 1 H18 rfl tyI rfl (.tmp 0 rfl) shape_N shape_I rfl rfl ?_
        clear H18 w18
        intro w19 H19
        refine any_done (by kernel_rfl) ?_
        refine then_normal ?_
        refine wp_seq ?_
        refine flow_region (dsts := [some 44, some 45, some 46, some 7]) (refs := [[.pre 1], [.res 0], [.res 1], [.res 2]]) (outs := [.res 3, .pre 2, .pre 3, .pre 4]) (als := [false, false, false, false]) (posts := [.ptr 25 2 (IsI (X + ((2 ^ ((8 * n) - 1).toNat) + (2 ^ ((8 * n) - 1).toNat)))) 1, .val (IsC ((X + ((2 ^ ((8 * n) - 1).toNat) + (2 ^ ((8 * n) - 1).toNat))).natAbs : Int)), .val (Lit (.string (strB (dg 256 ((X + ((2 ^ ((8 * n) - 1).toNat) + (2 ^ ((8 * n) - 1).toNat))).natAbs : Int)).reverse))), .val (Lit (.string (strB (dg 256 ((X + ((2 ^ ((8 * n) - 1).toNat) + (2 ^ ((8 * n) - 1).toNat))).natAbs : Int)).reverse)))])
          (out := [(7, .val (Lit (.string (strB (dg 256 ((X + ((2 ^ ((8 * n) - 1).toNat) + (2 ^ ((8 * n) - 1).toNat))).natAbs : Int)).reverse)))), (4, .val (Lit (.string (strB [])))), (5, .val (IsB false)), (1, .val (Lit (.int .i64 n)))]) (nb := []) H19 4 [] rfl (by kernel_rfl) rfl rfl ?_ ?_
        · refine .cons (.plain rfl (ok_addrI1 (.tmp 0 rfl))) ?_
          refine .cons (.plain rfl (ok_loadMagI (.tmp 0 rfl))) ?_
          refine .cons (.plain rfl (ok_call (con_r2bytes ((X + ((2 ^ ((8 * n) - 1).toNat) + (2 ^ ((8 * n) - 1).toNat))).natAbs : Int)) (.cons (.weak (.tmp 0 rfl) weakCM) (.nil)))) ?_
          refine .cons (.plain rfl (ok_assign (.tmp 0 rfl))) ?_
          exact .nil
        clear H19 a18 w19 B18
        intro a20 w20 B20 H20
        refine ops_done ?_
        refine then_normal ?_
        refine wp_seq ?_
        obtain ⟨m21, hm21, hw21, hL21, H21⟩ := St.mark H20 921
        clear H20
        clear hL21 hw21
        refine flow_region (dsts := [some 47, some 48, some 49, some 50, some 51, some 52, some 53, some 54, some 4, some 5]) (refs := [[.pre 4], [.pre 1], [.res 1], [.res 0, .res 2], [.res 3, .pre 0], [.res 4], [.pre 1], [.res 5, .res 6], [.res 7], []]) (outs := [.res 8, .res 9, .pre 0]) (als := [false, false, false, false, false, false, false, false, false, false]) (posts := [.val (Lit (.int .i64 n)), .val (Lit (.string (strB (dg 256 ((X + ((2 ^ ((8 * n) - 1).toNat) + (2 ^ ((8 * n) - 1).toNat))).natAbs : Int)).reverse))), .val (Lit (.int .i64 ((strB (dg 256 ((X + ((2 ^ ((8 * n) - 1).toNat) + (2 ^ ((8 * n) - 1).toNat))).natAbs : Int)).reverse).size : Int))), .val (Lit (.int .i64 (n - ((strB (dg 256 ((X + ((2 ^ ((8 * n) - 1).toNat) + (2 ^ ((8 * n) - 1).toNat))).natAbs : Int)).reverse).size : Int)))), .val (IsNew m21 5 .u8 (List.replicate ((n - ((strB (dg 256 ((X + ((2 ^ ((8 * n) - 1).toNat) + (2 ^ ((8 * n) - 1).toNat))).natAbs : Int)).reverse).size : Int)).toNat) 0)), .val (Lit (.string (strB (List.replicate ((n - ((strB (dg 256 ((X + ((2 ^ ((8 * n) - 1).toNat) + (2 ^ ((8 * n) - 1).toNat))).natAbs : Int)).reverse).size : Int)).toNat) 0)))), .val (Lit (.string (strB (dg 256 ((X + ((2 ^ ((8 * n) - 1).toNat) + (2 ^ ((8 * n) - 1).toNat))).natAbs : Int)).reverse))), .val (Lit (.string (strB (List.replicate ((n - ((strB (dg 256 ((X + ((2 ^ ((8 * n) - 1).toNat) + (2 ^ ((8 * n) - 1).toNat))).natAbs : Int)).reverse).size : Int)).toNat) 0) ++ strB (dg 256 ((X + ((2 ^ ((8 * n) - 1).toNat) + (2 ^ ((8 * n) - 1).toNat))).natAbs : Int)).reverse))), .val (Lit (.string (strB (List.replicate ((n - ((strB (dg 256 ((X + ((2 ^ ((8 * n) - 1).toNat) + (2 ^ ((8 * n) - 1).toNat))).natAbs : Int)).reverse).size : Int)).toNat) 0) ++ strB (dg 256 ((X + ((2 ^ ((8 * n) - 1).toNat) + (2 ^ ((8 * n) - 1).toNat))).natAbs : Int)).reverse))), .val (IsB true)])
          (out := [(4, .val (Lit (.string (strB (List.replicate ((n - ((strB (dg 256 ((X + ((2 ^ ((8 * n) - 1).toNat) + (2 ^ ((8 * n) - 1).toNat))).natAbs : Int)).reverse).size : Int)).toNat) 0) ++ strB (dg 256 ((X + ((2 ^ ((8 * n) - 1).toNat) + (2 ^ ((8 * n) - 1).toNat))).natAbs : Int)).reverse)))), (5, .val (IsB true)), (921, .val (Sz m21))]) (nb := []) H21 10 [] rfl (by kernel_rfl) rfl rfl ?_ ?_
        · refine .cons (.plain rfl (ok_move (.tmp 0 rfl))) ?_
          refine .cons (.plain rfl (ok_move (.tmp 0 rfl))) ?_
          refine .cons (.plain rfl (ok_lenS Try.underlying9 (.tmp 0 rfl))) ?_
          refine .cons (.plain rfl (ok_sub (r := (n - ((strB (dg 256 ((X + ((2 ^ ((8 * n) - 1).toNat) + (2 ^ ((8 * n) - 1).toNat))).natAbs : Int)).reverse).size : Int))) (.tmp 0 rfl) (.tmp 1 rfl) (w_i64 (by omega)))) ?_
          refine .cons (.plain rfl (ok_make ((n - ((strB (dg 256 ((X + ((2 ^ ((8 * n) - 1).toNat) + (2 ^ ((8 * n) - 1).toNat))).natAbs : Int)).reverse).size : Int)).toNat) 1 (.inr rfl) Try.underlying50 info_byte (by omega) (by omega) (.tmp 0 rfl) (.tmp 0 rfl) (by omega) rfl)) ?_
          refine .cons (.plain rfl (ok_convL Try.underlying50 Try.underlying5 Try.underlying9 (Dig.replicate _ (by omega) _) (.weak (.tmp 0 rfl) weakNewL))) ?_
          refine .cons (.plain rfl (ok_move (.tmp 0 rfl))) ?_
          refine .cons (.plain rfl (ok_catS (v := strB (List.replicate ((n - ((strB (dg 256 ((X + ((2 ^ ((8 * n) - 1).toNat) + (2 ^ ((8 * n) - 1).toNat))).natAbs : Int)).reverse).size : Int)).toNat) 0) ++ strB (dg 256 ((X + ((2 ^ ((8 * n) - 1).toNat) + (2 ^ ((8 * n) - 1).toNat))).natAbs : Int)).reverse) (.tmp 0 rfl) (.tmp 1 rfl) (by rw [strB_size (List.replicate _ _), List.length_replicate]; omega) (rfl))) ?_
          refine .cons (.plain rfl (ok_assign (.tmp 0 rfl))) ?_
          refine .cons (.plain rfl (ok_assign (.lit))) ?_
          exact .nil
        clear H21 a20 w20 B20
        intro a22 w22 B22 H22
        refine ops_done ?_
        refine then_normal ?_
        refine wp_ret ?_
        exact f_retN H22 rfl rfl (.tmp 0 rfl (fun v w B h => str_eq (tw_fin X (X + ((2 ^ ((8 * n) - 1).toNat) + (2 ^ ((8 * n) - 1).toNat))) n h1 hok hY hE) h) (.tmp 1 rfl (fun v w B h => isB_eq hok h) (.nil)))
      · intro hc17
        replace hc17 := of_decide_eq_false hc17
        have hY : 0 ≤ X ∧ X < 256 ^ n.toNat := by rw [hp2]; rw [hp1] at d1 d2; generalize (256 : Int) ^ (n.toNat - 1) = Q at *; omega
        have hE : X = X ∨ X = X + 256 ^ n.toNat := .inl rfl
        have hsz := tw_len (X) n h1 hY
        refine wp_skip ?_
        refine then_normal ?_
        refine wp_seq ?_
        refine flow_region (dsts := [some 44, some 45, some 46, some 7]) (refs := [[.pre 2], [.res 0], [.res 1], [.res 2]]) (outs := [.res 3, .pre 3, .pre 4, .pre 5]) (als := [false, false, false, false]) (posts := [.ptr 25 2 (IsN X) 1, .val (IsM ((X).natAbs : Int)), .val (Lit (.string (strB (dg 256 ((X).natAbs : Int)).reverse))), .val (Lit (.string (strB (dg 256 ((X).natAbs : Int)).reverse)))])
          (out := [(7, .val (Lit (.string (strB (dg 256 ((X).natAbs : Int)).reverse)))), (4, .val (Lit (.string (strB [])))), (5, .val (IsB false)), (1, .val (Lit (.int .i64 n)))]) (nb := []) H16 4 [] rfl (by kernel_rfl) rfl rfl ?_ ?_
        · refine .cons (.plain rfl (ok_addrI1 (.tmp 0 rfl))) ?_
          refine .cons (.plain rfl (ok_loadMagN (.tmp 0 rfl))) ?_
          refine .cons (.plain rfl (ok_call (con_r2bytes ((X).natAbs : Int)) (.cons (.tmp 0 rfl) (.nil)))) ?_
          refine .cons (.plain rfl (ok_assign (.tmp 0 rfl))) ?_
          exact .nil
        clear H16 a16 w16 B16
        intro a23 w23 B23 H23
        refine ops_done ?_
        refine then_normal ?_
        refine wp_seq ?_
        obtain ⟨m24, hm24, hw24, hL24, H24⟩ := St.mark H23 924
        clear H23
        clear hL24 hw24
        refine flow_region (dsts := [some 47, some 48, some 49, some 50, some 51, some 52, some 53, some 54, some 4, some 5]) (refs := [[.pre 4], [.pre 1], [.res 1], [.res 0, .res 2], [.res 3, .pre 0], [.res 4], [.pre 1], [.res 5, .res 6], [.res 7], []]) (outs := [.res 8, .res 9, .pre 0]) (als := [false, false, false, false, false, false, false, false, false, false]) (posts := [.val (Lit (.int .i64 n)), .val (Lit (.string (strB (dg 256 ((X).natAbs : Int)).reverse))), .val (Lit (.int .i64 ((strB (dg 256 ((X).natAbs : Int)).reverse).size : Int))), .val (Lit (.int .i64 (n - ((strB (dg 256 ((X).natAbs : Int)).reverse).size : Int)))), .val (IsNew m24 5 .u8 (List.replicate ((n - ((strB (dg 256 ((X).natAbs : Int)).reverse).size : Int)).toNat) 0)), .val (Lit (.string (strB (List.replicate ((n - ((strB (dg 256 ((X).natAbs : Int)).reverse).size : Int)).toNat) 0)))), .val (Lit (.string (strB (dg 256 ((X).natAbs : Int)).reverse))), .val (Lit (.string (strB (List.replicate ((n - ((strB (dg 256 ((X).natAbs : Int)).reverse).size : Int)).toNat) 0) ++ strB (dg 256 ((X).natAbs : Int)).reverse))), .val (Lit (.string (strB (List.replicate ((n - ((strB (dg 256 ((X).natAbs : Int)).reverse).size : Int)).toNat) 0) ++ strB (dg 256 ((X).natAbs : Int)).reverse))), .val (IsB true)])
          (out := [(4, .val (Lit (.string (strB (List.replicate ((n - ((strB (dg 256 ((X).natAbs : Int)).reverse).size : Int)).toNat) 0) ++ strB (dg 256 ((X).natAbs : Int)).reverse)))), (5, .val (IsB true)), (924, .val (Sz m24))]) (nb := []) H24 10 [] rfl (by kernel_rfl) rfl rfl ?_ ?_
        · refine .cons (.plain rfl (ok_move (.tmp 0 rfl))) ?_
          refine .cons (.plain rfl (ok_move (.tmp 0 rfl))) ?_
          refine .cons (.plain rfl (ok_lenS Try.underlying9 (.tmp 0 rfl))) ?_
          refine .cons (.plain rfl (ok_sub (r := (n - ((strB (dg 256 ((X).natAbs : Int)).reverse).size : Int))) (.tmp 0 rfl) (.tmp 1 rfl) (w_i64 (by omega)))) ?_
          refine .cons (.plain rfl (ok_make ((n - ((strB (dg 256 ((X).natAbs : Int)).reverse).size : Int)).toNat) 1 (.inr rfl) Try.underlying50 info_byte (by omega) (by omega) (.tmp 0 rfl) (.tmp 0 rfl) (by omega) rfl)) ?_
          refine .cons (.plain rfl (ok_convL Try.underlying50 Try.underlying5 Try.underlying9 (Dig.replicate _ (by omega) _) (.weak (.tmp 0 rfl) weakNewL))) ?_
          refine .cons (.plain rfl (ok_move (.tmp 0 rfl))) ?_
          refine .cons (.plain rfl (ok_catS (v := strB (List.replicate ((n - ((strB (dg 256 ((X).natAbs : Int)).reverse).size : Int)).toNat) 0) ++ strB (dg 256 ((X).natAbs : Int)).reverse) (.tmp 0 rfl) (.tmp 1 rfl) (by rw [strB_size (List.replicate _ _), List.length_replicate]; omega) (rfl))) ?_
          refine .cons (.plain rfl (ok_assign (.tmp 0 rfl))) ?_
          refine .cons (.plain rfl (ok_assign (.lit))) ?_
          exact .nil
        clear H24 a23 w23 B23
        intro a25 w25 B25 H25
        refine ops_done ?_
        refine then_normal ?_
        refine wp_ret ?_
        exact f_retN H25 rfl rfl (.tmp 0 rfl (fun v w B h => str_eq (tw_fin X X n h1 hok hY hE) h) (.tmp 1 rfl (fun v w B h => isB_eq hok h) (.nil)))
end Go.Proofs.Ytgnophflogmmaaa
