/- Contracts of functions, and plain facts, part 36. -/
import Derived.Test.YtgnophflogmmaaaPk8
import Derived.Test.YtgnophflogmmaaaPk35
set_option linter.unusedVariables false
set_option linter.unusedSimpArgs false
/- R2Bytes. (Printed by flowfn.py.) -/
namespace Go.Proofs.Ytgnophflogmmaaa
open Go Go.RowKit

theorem be_start (L : List Int) : (dg 256 (val 4294967296 (L.drop ((L.length : Int) - 1 + 1).toNat))).reverse = [] := by
  rw [List.drop_of_length_le (by omega)]
  show (dg 256 0).reverse = []
  rw [dg_zero]; rfl
theorem be_step (U b : Int) (hU : 0 ≤ U) (hb : 0 ≤ b ∧ b < 256) (h : (decide (b ≠ 0) || decide (0 < ((dg 256 U).reverse.length : Int))) = true) : (dg 256 U).reverse ++ [b] = (dg 256 (U * 256 + b)).reverse := by
  rw [Bool.or_eq_true, decide_eq_true_eq, decide_eq_true_eq] at h
  rw [dg_more U b hU hb ?_]
  rcases h with h | h
  · omega
  · rw [List.length_reverse] at h
    rcases Int.lt_or_eq_of_le hU with h2 | h2
    · omega
    · rw [← h2, dg_zero] at h; simp at h
theorem be_skip (U b : Int) (hU : 0 ≤ U) (hb : 0 ≤ b ∧ b < 256) (h : (decide (b ≠ 0) || decide (0 < ((dg 256 U).reverse.length : Int))) = false) : (dg 256 U).reverse = (dg 256 (U * 256 + b)).reverse := by
  rw [Bool.or_eq_false_iff, decide_eq_false_iff_not, decide_eq_false_iff_not, List.length_reverse] at h
  have h1 : dg 256 U = [] := List.length_eq_zero_iff.1 (by omega)
  have h2 : U = 0 := by
    have := val_dg 256 (by omega) U hU
    rw [h1] at this
    exact this.symm
  rw [h2, show b = 0 by omega]
  simp
theorem be_inv (U x T : Int) (j : Int) (hj : 0 ≤ j) (hx : 0 ≤ x ∧ x < 4294967296) (h : U * 4294967296 + x = 256 ^ j.toNat * T) : (U * 256 + x / 16777216) * 4294967296 + (x * 256) % 4294967296 = 256 ^ (j + 1).toNat * T := by
  rw [show (j + 1).toNat = j.toNat + 1 by omega, Int.pow_succ, Int.mul_right_comm, ← h]
  omega
theorem be_exit (U x T : Int) (j : Int) (hj : 0 ≤ j ∧ j ≤ 4 ∧ ¬ j < 4) (hx : 0 ≤ x ∧ x < 4294967296) (h : U * 4294967296 + x = 256 ^ j.toNat * T) : U = T := by
  rw [show j.toNat = 4 by omega, show (256 : Int) ^ 4 = 4294967296 from rfl] at h
  omega
theorem be_le (U x T : Int) (j : Int) (hj : 0 ≤ j ∧ j ≤ 4) (hx : 0 ≤ x ∧ x < 4294967296) (hT : 0 ≤ T) (h : U * 4294967296 + x = 256 ^ j.toNat * T) : U ≤ T := by
  have h1 : (256 : Int) ^ j.toNat ≤ 256 ^ 4 := pow_le (by omega) (by omega)
  rw [show (256 : Int) ^ 4 = 4294967296 from rfl] at h1
  have h2 := Int.mul_le_mul_of_nonneg_right h1 hT
  omega
theorem be_drop (L : List Int) (i : Int) (hi : 0 ≤ i ∧ i < L.length) : val 4294967296 (L.drop i.toNat) = val 4294967296 (L.drop (i + 1).toNat) * 4294967296 + L[i.toNat]?.getD 0 := by
  rw [show (i + 1).toNat = i.toNat + 1 by omega, List.drop_eq_getElem_cons (show i.toNat < L.length by omega), List.getElem?_eq_getElem (by omega)]
  simp only [val, Option.getD_some]
  omega
theorem be_dropLe (L : List Int) (d : Dig 4294967296 L) (n : Nat) : 0 ≤ val 4294967296 (L.drop n) ∧ val 4294967296 (L.drop n) ≤ val 4294967296 L := by
  have h0 := val_nonneg (show (0 : Int) < 4294967296 by omega) (d.drop n)
  refine ⟨h0, ?_⟩
  conv => rhs; rw [← List.take_append_drop n L, val_append]
  have h1 := val_nonneg (show (0 : Int) < 4294967296 by omega) (d.take n)
  have h2 : (1 : Int) ≤ 4294967296 ^ (L.take n).length := Int.pow_pos (by omega)
  have h3 := Int.mul_le_mul_of_nonneg_right h2 h0
  omega
theorem be_room (U V : Int) (k : Nat) (h0 : 0 ≤ U) (h : U ≤ V) (hf : FitK k V) : (dg 256 U).length ≤ 4 * k := by
  refine dg_length_le 256 (by omega) _ _ ?_
  unfold FitK at hf
  rw [show ((256 : Nat) : Int) = 256 from rfl, pow4]
  omega
theorem shr24 (x : Int) (h : 0 ≤ x) : x.fdiv (2 ^ (min (24 : Int).toNat IntKind.u32.bits)) = x / 16777216 := by
  show x.fdiv 16777216 = _
  exact Int.fdiv_eq_ediv_of_nonneg _ (by omega)
theorem shl8 (x : Int) : IntKind.u32.wrap (x * 2 ^ (min (8 : Int).toNat IntKind.u32.bits)) = (x * 256) % 4294967296 := by
  show IntKind.u32.wrap (x * 256) = _
  rw [IntKind.wrap_u32]

set_option maxRecDepth 20000 in
set_option maxHeartbeats 2000000 in
theorem con_r2bytes (V : Int) : Con Try.prog 66 [IsM V] (Lit (.string (strB (dg 256 V).reverse))) := by
  refine f_enter (N := 43) Try.ntmps66 (fun _ _ => by go_simp) Try.func66 rfl (by simp) ?_
  intro a0 w0 B0 H0
  replace H0 : St 43 w0 B0 a0 w0 B0 [(0, .val (IsM V))] [] := H0
  obtain ⟨k0, hk0, hf⟩ : Fits V := PM.fit (H0.fc.get 0 rfl)
  have hV := PM.nonneg (H0.fc.get 0 rfl)
  have hlim := lim_eq
  have hD : Dig 4294967296 (dg 4294967296 V) := dg_dig 4294967296 (by omega) _
  have hVL : val 4294967296 (dg 4294967296 V) = V := val_dg 4294967296 (by omega) V hV
  have hlen : (dg 4294967296 V).length ≤ k0 := dg_length_le 4294967296 (by omega) k0 V (by unfold FitK at hf; rw [show ((4294967296 : Nat) : Int) = 4294967296 from rfl]; omega)
  refine wp_seq ?_
  refine flow_region (dsts := [some 2]) (refs := [[]]) (outs := [.res 0, .pre 0]) (als := [false]) (posts := [.val (Lit (.string (strB [])))])
    (out := [(2, .val (Lit (.string (strB [])))), (0, .val (IsM V))]) (nb := []) H0 1 [] rfl (by kernel_rfl) rfl rfl ?_ ?_
  · refine .cons (.plain rfl (ok_assign (.const (fun _ _ => by rfl)))) ?_
    exact .nil
  clear H0
  intro a1 w1 B1 H1
  refine ops_done ?_
  refine then_normal ?_
  refine wp_seq ?_
  refine flow_region (dsts := [some 8, some 9]) (refs := [[.pre 1], [.res 0]]) (outs := [.res 1, .pre 0, .pre 1]) (als := [false, false]) (posts := [.val (IsM V), .val (IsC V)])
    (out := [(9, .val (IsC V)), (2, .val (Lit (.string (strB [])))), (0, .val (IsM V))]) (nb := []) H1 2 [2] rfl (by kernel_rfl) rfl rfl ?_ ?_
  · refine .cons (.plain rfl (ok_move (.tmp 0 rfl))) ?_
    refine .cons (.plain rfl (ok_call (con_rnorm V) (.cons (.tmp 0 rfl) (.nil)))) ?_
    exact .nil
  clear H1 a1 w1 B1
  intro a2 w2 B2 H2
  refine ops_one ?_
  refine tail_op (D := .val (IsC V)) (l' := [(0, .val (IsC V)), (9, .val (IsC V)), (2, .val (Lit (.string (strB []))))]) H2 rfl rfl rfl (.plain rfl (ok_assign (.tmp 0 rfl))) rfl rfl ?_
  clear H2 a2 w2 B2
  intro a3 w3 B3 H3
  refine ops_done ?_
  refine then_normal ?_
  refine wp_seq ?_
  obtain ⟨m4, hm4, hw4, hL4, H4⟩ := St.mark H3 904
  clear H3
  have H5 := St.setw H4 1 (D' := IsLb m4 .u32 (dg 4294967296 V)) rfl (fun v h => hL4 _ _ _ (weakCL v _ _ h)) (l' := [(904, .val (Sz m4)), (0, .val (IsLb m4 .u32 (dg 4294967296 V))), (9, .val (IsC V)), (2, .val (Lit (.string (strB []))))]) rfl
  clear H4
  clear hL4 hw4
  refine flow_region (dsts := [some 3]) (refs := [[]]) (outs := [.res 0, .pre 0, .pre 1, .pre 3]) (als := [false]) (posts := [.val (IsApp none m4 5 .u8 ([]))])
    (out := [(3, .val (IsApp none m4 5 .u8 ([]))), (904, .val (Sz m4)), (0, .val (IsLb m4 .u32 (dg 4294967296 V))), (2, .val (Lit (.string (strB []))))]) (nb := []) H5 1 [] rfl (by kernel_rfl) rfl rfl ?_ ?_
  · refine .cons (.plain rfl (ok_nilApp (.inr rfl))) ?_
    exact .nil
  clear H5 a3 w3 B3
  intro a6 w6 B6 H6
  refine ops_done ?_
  refine then_normal ?_
  refine wp_seq ?_
  refine wp_seq ?_
  refine flow_region (dsts := [some 10, some 11, some 12, some 4]) (refs := [[.pre 2], [.res 0], [.res 1], [.res 2]]) (outs := [.res 3, .pre 0, .pre 1, .pre 2, .pre 3]) (als := [false, false, false, false]) (posts := [.val (IsLb m4 .u32 (dg 4294967296 V)), .val (Lit (.int .i64 (List.length (dg 4294967296 V) : Int))), .val (Lit (.int .i64 ((List.length (dg 4294967296 V) : Int) - 1))), .val (Lit (.int .i64 ((List.length (dg 4294967296 V) : Int) - 1)))])
    (out := [(4, .val (Lit (.int .i64 ((List.length (dg 4294967296 V) : Int) - 1)))), (3, .val (IsApp none m4 5 .u8 ([]))), (904, .val (Sz m4)), (0, .val (IsLb m4 .u32 (dg 4294967296 V))), (2, .val (Lit (.string (strB []))))]) (nb := []) H6 4 [] rfl (by kernel_rfl) rfl rfl ?_ ?_
  · refine .cons (.plain rfl (ok_move (.tmp 0 rfl))) ?_
    refine .cons (.plain rfl (ok_lenL Try.underlying23 (.weak (.tmp 0 rfl) weakLbL))) ?_
    refine .cons (.plain rfl (ok_sub (r := ((List.length (dg 4294967296 V) : Int) - 1)) (.tmp 0 rfl) (.lit) (w_i64 (by omega)))) ?_
    refine .cons (.plain rfl (ok_assign (.tmp 0 rfl))) ?_
    exact .nil
  clear H6 a6 w6 B6
  intro a7 w7 B7 H7
  refine ops_done ?_
  refine then_normal ?_
  refine wp_block ?_
  have H8 := St.set1 H7 1 (D' := IsApp none m4 5 .u8 ((dg 256 (val 4294967296 ((dg 4294967296 V).drop (((dg 4294967296 V).length : Int) - 1 + 1).toNat))).reverse)) rfl (fun v w B h => by rw [be_start]; exact h) (l' := [(4, .val (Lit (.int .i64 ((List.length (dg 4294967296 V) : Int) - 1)))), (3, .val (IsApp none m4 5 .u8 ((dg 256 (val 4294967296 ((dg 4294967296 V).drop (((dg 4294967296 V).length : Int) - 1 + 1).toNat))).reverse))), (904, .val (Sz m4)), (0, .val (IsLb m4 .u32 (dg 4294967296 V))), (2, .val (Lit (.string (strB []))))]) rfl
  clear H7
  refine f_loop (fun (⟨g, i⟩ : Option Nat × Int) => [(4, .val (Lit (.int .i64 i))), (3, .val (IsApp g m4 5 .u8 ((dg 256 (val 4294967296 ((dg 4294967296 V).drop (i + 1).toNat))).reverse))), (904, .val (Sz m4)), (0, .val (IsLb m4 .u32 (dg 4294967296 V))), (2, .val (Lit (.string (strB []))))]) (fun (⟨g, i⟩ : Option Nat × Int) => -1 ≤ i ∧ i < ((dg 4294967296 V).length : Int)) (fun (⟨g, i⟩ : Option Nat × Int) => (i + 1).toNat) (⟨none, ((dg 4294967296 V).length : Int) - 1⟩) (St.pick H8 [0, 1, 2, 3, 4] rfl) (by exact ⟨by omega, by omega⟩) ?_
  clear H8 a7 w7 B7
  rintro ⟨g, i⟩ a9 w9 B9 hI9 H9
  replace hI9 : -1 ≤ i ∧ i < ((dg 4294967296 V).length : Int) := hI9
  replace H9 : St 43 w0 B0 a9 w9 B9 [(4, .val (Lit (.int .i64 i))), (3, .val (IsApp g m4 5 .u8 ((dg 256 (val 4294967296 ((dg 4294967296 V).drop (i + 1).toNat))).reverse))), (904, .val (Sz m4)), (0, .val (IsLb m4 .u32 (dg 4294967296 V))), (2, .val (Lit (.string (strB []))))] [] := H9
  refine wp_seq ?_
  refine wp_seq ?_
  refine flow_region (dsts := [some 13, some 14]) (refs := [[.pre 0], [.res 0]]) (outs := [.res 1, .pre 0, .pre 1, .pre 2, .pre 3, .pre 4]) (als := [false, false]) (posts := [.val (Lit (.int .i64 i)), .val (IsB (decide (0 ≤ i)))])
    (out := [(14, .val (IsB (decide (0 ≤ i)))), (4, .val (Lit (.int .i64 i))), (3, .val (IsApp g m4 5 .u8 ((dg 256 (val 4294967296 ((dg 4294967296 V).drop (i + 1).toNat))).reverse))), (904, .val (Sz m4)), (0, .val (IsLb m4 .u32 (dg 4294967296 V))), (2, .val (Lit (.string (strB []))))]) (nb := []) H9 2 [] rfl (by kernel_rfl) rfl rfl ?_ ?_
  · refine .cons (.plain rfl (ok_move (.tmp 0 rfl))) ?_
    refine .cons (.plain rfl (ok_cmp (.tmp 0 rfl) (.lit) rfl)) ?_
    exact .nil
  clear H9 a9 w9 B9
  intro a10 w10 B10 H10
  refine ops_done ?_
  refine then_normal ?_
  refine f_cond H10 (.tmp 0 rfl) ?_ ?_
  · intro hc11
    replace hc11 := of_decide_eq_true hc11
    refine wp_skip ?_
    refine then_normal ?_
    refine wp_seq ?_
    refine wp_block ?_
    refine wp_seq ?_
    refine flow_region (dsts := [some 17, some 18, some 19, some 20, some 5]) (refs := [[.pre 4], [.pre 1], [.res 0, .res 1], [.res 2], [.res 3]]) (outs := [.res 4, .pre 1, .pre 2, .pre 3, .pre 4, .pre 5]) (als := [false, false, false, false, false]) (posts := [.val (IsLb m4 .u32 (dg 4294967296 V)), .val (Lit (.int .i64 i)), .val (IsCell .u32 ((dg 4294967296 V)[i.toNat]?.getD 0)), .val (Lit (.int .u32 ((dg 4294967296 V)[i.toNat]?.getD 0))), .val (Lit (.int .u32 ((dg 4294967296 V)[i.toNat]?.getD 0)))])
      (out := [(5, .val (Lit (.int .u32 ((dg 4294967296 V)[i.toNat]?.getD 0)))), (4, .val (Lit (.int .i64 i))), (3, .val (IsApp g m4 5 .u8 ((dg 256 (val 4294967296 ((dg 4294967296 V).drop (i + 1).toNat))).reverse))), (904, .val (Sz m4)), (0, .val (IsLb m4 .u32 (dg 4294967296 V))), (2, .val (Lit (.string (strB []))))]) (nb := []) H10 5 [] rfl (by kernel_rfl) rfl rfl ?_ ?_
    · refine .cons (.plain rfl (ok_move (.tmp 0 rfl))) ?_
      refine .cons (.plain rfl (ok_move (.tmp 0 rfl))) ?_
      refine .cons (.plain rfl (ok_idxL (xs := (dg 4294967296 V)) i.toNat Try.underlying23 size32 (.weak (.tmp 0 rfl) weakLbL) (.tmp 1 rfl) (by omega) (by omega))) ?_
      refine .cons (.plain rfl (ok_loadCell aggU32 (.tmp 0 rfl))) ?_
      refine .cons (.plain rfl (ok_assign (.tmp 0 rfl))) ?_
      exact .nil
    clear H10 a10 w10 B10
    intro a12 w12 B12 H12
    refine ops_done ?_
    refine then_normal ?_
    refine wp_seq ?_
    refine flow_region (dsts := [some 6]) (refs := [[]]) (outs := [.res 0, .pre 0, .pre 1, .pre 2, .pre 3, .pre 4, .pre 5]) (als := [false]) (posts := [.val (Lit (.int .i64 0))])
      (out := [(6, .val (Lit (.int .i64 0))), (5, .val (Lit (.int .u32 ((dg 4294967296 V)[i.toNat]?.getD 0)))), (4, .val (Lit (.int .i64 i))), (3, .val (IsApp g m4 5 .u8 ((dg 256 (val 4294967296 ((dg 4294967296 V).drop (i + 1).toNat))).reverse))), (904, .val (Sz m4)), (0, .val (IsLb m4 .u32 (dg 4294967296 V))), (2, .val (Lit (.string (strB []))))]) (nb := []) H12 1 [] rfl (by kernel_rfl) rfl rfl ?_ ?_
    · refine .cons (.plain rfl (ok_assign (.lit))) ?_
      exact .nil
    clear H12 a12 w12 B12
    intro a13 w13 B13 H13
    refine ops_done ?_
    refine then_normal ?_
    refine wp_block ?_
    obtain ⟨T, hT⟩ : ∃ T, T = val 4294967296 ((dg 4294967296 V).drop (i + 1).toNat) * 4294967296 + (dg 4294967296 V)[i.toNat]?.getD 0 := ⟨_, rfl⟩
    have hTV : 0 ≤ T ∧ T ≤ V := by rw [hT, ← be_drop _ i (by omega)]; have := be_dropLe _ hD i.toNat; rwa [hVL] at this
    have hx := hD.get (by omega) i.toNat
    have hu := be_dropLe _ hD (i + 1).toNat
    rw [hVL] at hu
    refine f_loop (fun (⟨g2, j, x, U⟩ : Option Nat × Int × Int × Int) => [(6, .val (Lit (.int .i64 j))), (5, .val (Lit (.int .u32 x))), (4, .val (Lit (.int .i64 i))), (3, .val (IsApp g2 m4 5 .u8 ((dg 256 U).reverse))), (904, .val (Sz m4)), (0, .val (IsLb m4 .u32 (dg 4294967296 V))), (2, .val (Lit (.string (strB []))))]) (fun (⟨g2, j, x, U⟩ : Option Nat × Int × Int × Int) => 0 ≤ j ∧ j ≤ 4 ∧ (0 ≤ x ∧ x < 4294967296) ∧ 0 ≤ U ∧ U * 4294967296 + x = 256 ^ j.toNat * T) (fun (⟨g2, j, x, U⟩ : Option Nat × Int × Int × Int) => (4 - j).toNat) (⟨g, 0, (dg 4294967296 V)[i.toNat]?.getD 0, val 4294967296 ((dg 4294967296 V).drop (i + 1).toNat)⟩) (St.pick H13 [0, 1, 2, 3, 4, 5, 6] rfl) (by exact ⟨by omega, by omega, hx, hu.1, by rw [hT]; exact (Int.one_mul _).symm⟩) ?_
    clear H13 a13 w13 B13
    rintro ⟨g2, j, x, U⟩ a14 w14 B14 hI14 H14
    replace hI14 : 0 ≤ j ∧ j ≤ 4 ∧ (0 ≤ x ∧ x < 4294967296) ∧ 0 ≤ U ∧ U * 4294967296 + x = 256 ^ j.toNat * T := hI14
    replace H14 : St 43 w0 B0 a14 w14 B14 [(6, .val (Lit (.int .i64 j))), (5, .val (Lit (.int .u32 x))), (4, .val (Lit (.int .i64 i))), (3, .val (IsApp g2 m4 5 .u8 ((dg 256 U).reverse))), (904, .val (Sz m4)), (0, .val (IsLb m4 .u32 (dg 4294967296 V))), (2, .val (Lit (.string (strB []))))] [] := H14
    obtain ⟨j0, j1, hx, hU0, hi⟩ := hI14
    have hle := be_le U x T j (by omega) hx hTV.1 hi
    refine wp_seq ?_
    refine wp_seq ?_
    refine flow_region (dsts := [some 21, some 22]) (refs := [[.pre 0], [.res 0]]) (outs := [.res 1, .pre 0, .pre 1, .pre 2, .pre 3, .pre 4, .pre 5, .pre 6]) (als := [false, false]) (posts := [.val (Lit (.int .i64 j)), .val (IsB (decide (j < 4)))])
      (out := [(22, .val (IsB (decide (j < 4)))), (6, .val (Lit (.int .i64 j))), (5, .val (Lit (.int .u32 x))), (4, .val (Lit (.int .i64 i))), (3, .val (IsApp g2 m4 5 .u8 ((dg 256 U).reverse))), (904, .val (Sz m4)), (0, .val (IsLb m4 .u32 (dg 4294967296 V))), (2, .val (Lit (.string (strB []))))]) (nb := []) H14 2 [] rfl (by kernel_rfl) rfl rfl ?_ ?_
    · refine .cons (.plain rfl (ok_move (.tmp 0 rfl))) ?_
      refine .cons (.plain rfl (ok_cmp (.tmp 0 rfl) (.lit) rfl)) ?_
      exact .nil
    clear H14 a14 w14 B14
    intro a15 w15 B15 H15
    refine ops_done ?_
    refine then_normal ?_
    refine f_cond H15 (.tmp 0 rfl) ?_ ?_
    · intro hc16
      replace hc16 := of_decide_eq_true hc16
      refine wp_skip ?_
      refine then_normal ?_
      refine wp_seq ?_
      refine wp_block ?_
      refine wp_seq ?_
      refine flow_region (dsts := [some 25, some 26, some 27, some 7]) (refs := [[.pre 2], [.res 0], [.res 1], [.res 2]]) (outs := [.res 3, .pre 1, .pre 2, .pre 3, .pre 4, .pre 5, .pre 6, .pre 7]) (als := [false, false, false, false]) (posts := [.val (Lit (.int .u32 x)), .val (Lit (.int .u32 (x / 16777216))), .val (Lit (.int .u8 (x / 16777216))), .val (Lit (.int .u8 (x / 16777216)))])
        (out := [(7, .val (Lit (.int .u8 (x / 16777216)))), (6, .val (Lit (.int .i64 j))), (5, .val (Lit (.int .u32 x))), (4, .val (Lit (.int .i64 i))), (3, .val (IsApp g2 m4 5 .u8 ((dg 256 U).reverse))), (904, .val (Sz m4)), (0, .val (IsLb m4 .u32 (dg 4294967296 V))), (2, .val (Lit (.string (strB []))))]) (nb := []) H15 4 [] rfl (by kernel_rfl) rfl rfl ?_ ?_
      · refine .cons (.plain rfl (ok_move (.tmp 0 rfl))) ?_
        refine .cons (.plain rfl (ok_shr (r := (x / 16777216)) (.tmp 0 rfl) (.lit) (by omega) (shr24 x (by omega)))) ?_
        refine .cons (.plain rfl (ok_conv Try.underlying78 Try.underlying5 (r := (x / 16777216)) (.tmp 0 rfl) (w_u8 (by omega)))) ?_
        refine .cons (.plain rfl (ok_assign (.tmp 0 rfl))) ?_
        exact .nil
      clear H15 a15 w15 B15
      intro a17 w17 B17 H17
      refine ops_done ?_
      refine then_normal ?_
      refine wp_seq ?_
      refine wp_seq ?_
      refine flow_region (dsts := [some 28, some 29, some 30, some 31, some 32, some 33, some 34]) (refs := [[.pre 0], [.res 0], [.res 1], [.res 2, .pre 4], [.res 2, .res 3], [.res 2, .res 4], [.res 2, .res 5]]) (outs := [.res 6, .pre 0, .pre 1, .pre 2, .pre 3, .pre 4, .pre 5, .pre 6, .pre 7]) (als := [false, false, false, false, false, false, false]) (posts := [.val (Lit (.int .u8 (x / 16777216))), .val (IsB (decide (x / 16777216 ≠ 0))), .val (IsB (decide (x / 16777216 ≠ 0))), .val (Grd ((decide (x / 16777216 ≠ 0)) == false) (IsApp g2 m4 5 .u8 ((dg 256 U).reverse))), .val (Grd ((decide (x / 16777216 ≠ 0)) == false) (Lit (.int .i64 (List.length ((dg 256 U).reverse) : Int)))), .val (Grd ((decide (x / 16777216 ≠ 0)) == false) (IsB (decide (0 < (List.length ((dg 256 U).reverse) : Int))))), .val (IsB ((decide (x / 16777216 ≠ 0)) || (decide (0 < (List.length ((dg 256 U).reverse) : Int)))))])
        (out := [(34, .val (IsB ((decide (x / 16777216 ≠ 0)) || (decide (0 < (List.length ((dg 256 U).reverse) : Int)))))), (7, .val (Lit (.int .u8 (x / 16777216)))), (6, .val (Lit (.int .i64 j))), (5, .val (Lit (.int .u32 x))), (4, .val (Lit (.int .i64 i))), (3, .val (IsApp g2 m4 5 .u8 ((dg 256 U).reverse))), (904, .val (Sz m4)), (0, .val (IsLb m4 .u32 (dg 4294967296 V))), (2, .val (Lit (.string (strB []))))]) (nb := []) H17 7 [] rfl (by kernel_rfl) rfl rfl ?_ ?_
      · refine .cons (.plain rfl (ok_move (.tmp 0 rfl))) ?_
        refine .cons (.plain rfl (ok_cmp (.tmp 0 rfl) (.lit) rfl)) ?_
        refine .cons (.plain rfl (ok_move (.tmp 0 rfl))) ?_
        refine .cons (.sym 2 false (decide (x / 16777216 ≠ 0)) ((decide (x / 16777216 ≠ 0)) == false) rfl rfl rfl 0 (need' := [(30, .val (IsB (decide (x / 16777216 ≠ 0)))), (3, .val (IsApp g2 m4 5 .u8 ((dg 256 U).reverse)))]) rfl rfl (fun a w B e h => ⟨h.1, h.2.1, trivial⟩) (fun e => ok_move (.tmp 1 rfl))) ?_
        refine .cons (.sym 2 false (decide (x / 16777216 ≠ 0)) ((decide (x / 16777216 ≠ 0)) == false) rfl rfl rfl 0 (need' := [(30, .val (IsB (decide (x / 16777216 ≠ 0)))), (31, .val (IsApp g2 m4 5 .u8 ((dg 256 U).reverse)))]) rfl rfl (fun a w B e h => ⟨h.1, h.2.1.1 (e), trivial⟩) (fun e => ok_lenL Try.underlying50 (.weak (.tmp 1 rfl) weakAppL))) ?_
        refine .cons (.sym 2 false (decide (x / 16777216 ≠ 0)) ((decide (x / 16777216 ≠ 0)) == false) rfl rfl rfl 0 (need' := [(30, .val (IsB (decide (x / 16777216 ≠ 0)))), (32, .val (Lit (.int .i64 (List.length ((dg 256 U).reverse) : Int))))]) rfl rfl (fun a w B e h => ⟨h.1, h.2.1.1 (e), trivial⟩) (fun e => ok_cmp (.tmp 1 rfl) (.lit) rfl)) ?_
        refine .cons (.plain rfl (ok_pickS (decide (x / 16777216 ≠ 0)) (.tmp 0 rfl) (fun e => Opd.eqB (.lit) (by rw [e]; rfl)) (fun e => Opd.eqB (Opd.grd (.tmp 1 rfl) (by first | (rw [e]; rfl) | (simp only [e]; rfl) | (simp [*] at *; done))) (by rw [e]; rfl)))) ?_
        exact .nil
      clear H17 a17 w17 B17
      intro a18 w18 B18 H18
      refine ops_done ?_
      refine then_normal ?_
      refine f_cond H18 (.tmp 0 rfl) ?_ ?_
      · intro hc19
        refine flow_region (dsts := [some 35, some 36, some 37]) (refs := [[.pre 5], [.pre 1], [.res 1]]) (outs := [.res 0, .res 2, .pre 2, .pre 3, .pre 4, .pre 5, .pre 6, .pre 7, .pre 8]) (als := [false, false, false]) (posts := [.val (IsApp g2 m4 5 .u8 ((dg 256 U).reverse)), .val (Lit (.int .u8 (x / 16777216))), .val (IsL .u8 ([x / 16777216]))])
          (out := [(35, .val (IsApp g2 m4 5 .u8 ((dg 256 U).reverse))), (37, .val (IsL .u8 ([x / 16777216]))), (6, .val (Lit (.int .i64 j))), (5, .val (Lit (.int .u32 x))), (4, .val (Lit (.int .i64 i))), (3, .val (IsApp g2 m4 5 .u8 ((dg 256 U).reverse))), (904, .val (Sz m4)), (0, .val (IsLb m4 .u32 (dg 4294967296 V))), (2, .val (Lit (.string (strB []))))]) (nb := []) H18 3 [3, 4] rfl (by kernel_rfl) rfl rfl ?_ ?_
        · refine .cons (.plain rfl (ok_move (.tmp 0 rfl))) ?_
          refine .cons (.plain rfl (ok_move (.tmp 0 rfl))) ?_
          refine .cons (.plain rfl (ok_one8 (.tmp 0 rfl))) ?_
          exact .nil
        clear H18 a18 w18 B18
        intro a20 w20 B20 H20
        refine ops_one ?_
        refine app_op (xs := ((dg 256 U).reverse)) (ys := ([x / 16777216])) (ks := [(6, .val (Lit (.int .i64 j))), (5, .val (Lit (.int .u32 x))), (4, .val (Lit (.int .i64 i))), (904, .val (Sz m4)), (0, .val (IsLb m4 .u32 (dg 4294967296 V))), (2, .val (Lit (.string (strB []))))]) 6 [2, 3, 4, 6, 7, 8] H20 hm4 rfl Try.underlying50 info_byte (by omega) (.tmp 0 rfl) (.tmp 1 rfl) (by simp) (by have := be_room U V k0 (by omega) (by omega) hf; simp only [List.length_reverse, List.length_singleton]; omega) rfl (Nat.le_refl _) rfl rfl (by kernel_rfl) rfl (.cons (kept_lit) (.cons (kept_lit) (.cons (kept_lit) (.cons (kept_sz) (.cons (kept_lb (Nat.le_refl _)) (.cons (kept_lit) (.nil))))))) ?_
        clear H20
        intro a21 w21 B21 g21 hg21 H21
        replace H21 : St 43 w0 B0 a21 w21 B21 [(38, .val (IsApp g21 m4 5 .u8 (((dg 256 U).reverse) ++ ([x / 16777216])))), (6, .val (Lit (.int .i64 j))), (5, .val (Lit (.int .u32 x))), (4, .val (Lit (.int .i64 i))), (904, .val (Sz m4)), (0, .val (IsLb m4 .u32 (dg 4294967296 V))), (2, .val (Lit (.string (strB []))))] [] := H21
        refine ops_one ?_
        refine tail_op (D := .val (IsApp g21 m4 5 .u8 (((dg 256 U).reverse) ++ ([x / 16777216])))) (l' := [(3, .val (IsApp g21 m4 5 .u8 (((dg 256 U).reverse) ++ ([x / 16777216])))), (38, .val (IsApp g21 m4 5 .u8 (((dg 256 U).reverse) ++ ([x / 16777216])))), (6, .val (Lit (.int .i64 j))), (5, .val (Lit (.int .u32 x))), (4, .val (Lit (.int .i64 i))), (904, .val (Sz m4)), (0, .val (IsLb m4 .u32 (dg 4294967296 V))), (2, .val (Lit (.string (strB []))))]) H21 rfl rfl rfl (.plain rfl (ok_assign (.tmp 0 rfl))) rfl rfl ?_
        clear H21 a21 w21 B21
        intro a22 w22 B22 H22
        refine ops_done ?_
        refine then_normal ?_
        have H23 := St.set1 H22 0 (D' := IsApp g21 m4 5 .u8 ((dg 256 (U * 256 + x / 16777216)).reverse)) rfl (fun v w B h => by rw [← (be_step U (x / 16777216) (by omega) (by omega) hc19)]; exact h) (l' := [(3, .val (IsApp g21 m4 5 .u8 ((dg 256 (U * 256 + x / 16777216)).reverse))), (38, .val (IsApp g21 m4 5 .u8 (((dg 256 U).reverse) ++ ([x / 16777216])))), (6, .val (Lit (.int .i64 j))), (5, .val (Lit (.int .u32 x))), (4, .val (Lit (.int .i64 i))), (904, .val (Sz m4)), (0, .val (IsLb m4 .u32 (dg 4294967296 V))), (2, .val (Lit (.string (strB []))))]) rfl
        clear H22
        refine flow_region (dsts := [some 39, some 40]) (refs := [[.pre 3], [.res 0]]) (outs := [.res 1, .pre 0, .pre 2, .pre 3, .pre 4, .pre 5, .pre 6, .pre 7]) (als := [false, false]) (posts := [.val (Lit (.int .u32 x)), .val (Lit (.int .u32 ((x * 256) % 4294967296)))])
          (out := [(40, .val (Lit (.int .u32 ((x * 256) % 4294967296)))), (3, .val (IsApp g21 m4 5 .u8 ((dg 256 (U * 256 + x / 16777216)).reverse))), (6, .val (Lit (.int .i64 j))), (5, .val (Lit (.int .u32 x))), (4, .val (Lit (.int .i64 i))), (904, .val (Sz m4)), (0, .val (IsLb m4 .u32 (dg 4294967296 V))), (2, .val (Lit (.string (strB []))))]) (nb := []) H23 2 [2] rfl (by kernel_rfl) rfl rfl ?_ ?_
        · refine .cons (.plain rfl (ok_move (.tmp 0 rfl))) ?_
          refine .cons (.plain rfl (ok_shl (r := ((x * 256) % 4294967296)) (.tmp 0 rfl) (.lit) (by omega) (shl8 x))) ?_
          exact .nil
        clear H23 a22 w22 B22
        intro a24 w24 B24 H24
        refine ops_one ?_
        refine tail_op (D := .val (Lit (.int .u32 ((x * 256) % 4294967296)))) (l' := [(5, .val (Lit (.int .u32 ((x * 256) % 4294967296)))), (40, .val (Lit (.int .u32 ((x * 256) % 4294967296)))), (3, .val (IsApp g21 m4 5 .u8 ((dg 256 (U * 256 + x / 16777216)).reverse))), (6, .val (Lit (.int .i64 j))), (4, .val (Lit (.int .i64 i))), (904, .val (Sz m4)), (0, .val (IsLb m4 .u32 (dg 4294967296 V))), (2, .val (Lit (.string (strB []))))]) H24 rfl rfl rfl (.plain rfl (ok_assign (.tmp 0 rfl))) rfl rfl ?_
        clear H24 a24 w24 B24
        intro a25 w25 B25 H25
        refine ops_done ?_
        refine block_normal ?_
        refine then_normal ?_
        refine flow_region (dsts := [some 23, some 24]) (refs := [[.pre 3], [.res 0]]) (outs := [.res 1, .pre 0, .pre 2, .pre 3, .pre 4, .pre 5, .pre 6, .pre 7]) (als := [false, false]) (posts := [.val (Lit (.int .i64 j)), .val (Lit (.int .i64 (j + 1)))])
          (out := [(24, .val (Lit (.int .i64 (j + 1)))), (5, .val (Lit (.int .u32 ((x * 256) % 4294967296)))), (3, .val (IsApp g21 m4 5 .u8 ((dg 256 (U * 256 + x / 16777216)).reverse))), (6, .val (Lit (.int .i64 j))), (4, .val (Lit (.int .i64 i))), (904, .val (Sz m4)), (0, .val (IsLb m4 .u32 (dg 4294967296 V))), (2, .val (Lit (.string (strB []))))]) (nb := []) H25 2 [2] rfl (by kernel_rfl) rfl rfl ?_ ?_
        · refine .cons (.plain rfl (ok_move (.tmp 0 rfl))) ?_
          refine .cons (.plain rfl (ok_add (r := (j + 1)) (.tmp 0 rfl) (.lit) (w_i64 (by omega)))) ?_
          exact .nil
        clear H25 a25 w25 B25
        intro a26 w26 B26 H26
        refine ops_one ?_
        refine tail_op (D := .val (Lit (.int .i64 (j + 1)))) (l' := [(6, .val (Lit (.int .i64 (j + 1)))), (24, .val (Lit (.int .i64 (j + 1)))), (5, .val (Lit (.int .u32 ((x * 256) % 4294967296)))), (3, .val (IsApp g21 m4 5 .u8 ((dg 256 (U * 256 + x / 16777216)).reverse))), (4, .val (Lit (.int .i64 i))), (904, .val (Sz m4)), (0, .val (IsLb m4 .u32 (dg 4294967296 V))), (2, .val (Lit (.string (strB []))))]) H26 rfl rfl rfl (.plain rfl (ok_assign (.tmp 0 rfl))) rfl rfl ?_
        clear H26 a26 w26 B26
        intro a27 w27 B27 H27
        refine ops_done ?_
        exact ⟨⟨g21, j + 1, (x * 256) % 4294967296, U * 256 + x / 16777216⟩, B27, by exact ⟨by omega, by omega, by omega, by omega, be_inv U x T j (by omega) hx hi⟩, St.pick H27 [0, 2, 4, 3, 5, 6, 7] rfl, by show (4 - (j + 1)).toNat < (4 - j).toNat; omega⟩
      · intro hc19
        refine wp_skip ?_
        refine then_normal ?_
        have H28 := St.set1 H18 5 (D' := IsApp g2 m4 5 .u8 ((dg 256 (U * 256 + x / 16777216)).reverse)) rfl (fun v w B h => by rw [← (be_skip U (x / 16777216) (by omega) (by omega) hc19)]; exact h) (l' := [(34, .val (IsB ((decide (x / 16777216 ≠ 0)) || (decide (0 < (List.length ((dg 256 U).reverse) : Int)))))), (7, .val (Lit (.int .u8 (x / 16777216)))), (6, .val (Lit (.int .i64 j))), (5, .val (Lit (.int .u32 x))), (4, .val (Lit (.int .i64 i))), (3, .val (IsApp g2 m4 5 .u8 ((dg 256 (U * 256 + x / 16777216)).reverse))), (904, .val (Sz m4)), (0, .val (IsLb m4 .u32 (dg 4294967296 V))), (2, .val (Lit (.string (strB []))))]) rfl
        clear H18
        refine flow_region (dsts := [some 39, some 40]) (refs := [[.pre 3], [.res 0]]) (outs := [.res 1, .pre 2, .pre 3, .pre 4, .pre 5, .pre 6, .pre 7, .pre 8]) (als := [false, false]) (posts := [.val (Lit (.int .u32 x)), .val (Lit (.int .u32 ((x * 256) % 4294967296)))])
          (out := [(40, .val (Lit (.int .u32 ((x * 256) % 4294967296)))), (6, .val (Lit (.int .i64 j))), (5, .val (Lit (.int .u32 x))), (4, .val (Lit (.int .i64 i))), (3, .val (IsApp g2 m4 5 .u8 ((dg 256 (U * 256 + x / 16777216)).reverse))), (904, .val (Sz m4)), (0, .val (IsLb m4 .u32 (dg 4294967296 V))), (2, .val (Lit (.string (strB []))))]) (nb := []) H28 2 [2] rfl (by kernel_rfl) rfl rfl ?_ ?_
        · refine .cons (.plain rfl (ok_move (.tmp 0 rfl))) ?_
          refine .cons (.plain rfl (ok_shl (r := ((x * 256) % 4294967296)) (.tmp 0 rfl) (.lit) (by omega) (shl8 x))) ?_
          exact .nil
        clear H28 a18 w18 B18
        intro a29 w29 B29 H29
        refine ops_one ?_
        refine tail_op (D := .val (Lit (.int .u32 ((x * 256) % 4294967296)))) (l' := [(5, .val (Lit (.int .u32 ((x * 256) % 4294967296)))), (40, .val (Lit (.int .u32 ((x * 256) % 4294967296)))), (6, .val (Lit (.int .i64 j))), (4, .val (Lit (.int .i64 i))), (3, .val (IsApp g2 m4 5 .u8 ((dg 256 (U * 256 + x / 16777216)).reverse))), (904, .val (Sz m4)), (0, .val (IsLb m4 .u32 (dg 4294967296 V))), (2, .val (Lit (.string (strB []))))]) H29 rfl rfl rfl (.plain rfl (ok_assign (.tmp 0 rfl))) rfl rfl ?_
        clear H29 a29 w29 B29
        intro a30 w30 B30 H30
        refine ops_done ?_
        refine block_normal ?_
        refine then_normal ?_
        refine flow_region (dsts := [some 23, some 24]) (refs := [[.pre 2], [.res 0]]) (outs := [.res 1, .pre 0, .pre 2, .pre 3, .pre 4, .pre 5, .pre 6, .pre 7]) (als := [false, false]) (posts := [.val (Lit (.int .i64 j)), .val (Lit (.int .i64 (j + 1)))])
          (out := [(24, .val (Lit (.int .i64 (j + 1)))), (5, .val (Lit (.int .u32 ((x * 256) % 4294967296)))), (6, .val (Lit (.int .i64 j))), (4, .val (Lit (.int .i64 i))), (3, .val (IsApp g2 m4 5 .u8 ((dg 256 (U * 256 + x / 16777216)).reverse))), (904, .val (Sz m4)), (0, .val (IsLb m4 .u32 (dg 4294967296 V))), (2, .val (Lit (.string (strB []))))]) (nb := []) H30 2 [2] rfl (by kernel_rfl) rfl rfl ?_ ?_
        · refine .cons (.plain rfl (ok_move (.tmp 0 rfl))) ?_
          refine .cons (.plain rfl (ok_add (r := (j + 1)) (.tmp 0 rfl) (.lit) (w_i64 (by omega)))) ?_
          exact .nil
        clear H30 a30 w30 B30
        intro a31 w31 B31 H31
        refine ops_one ?_
        refine tail_op (D := .val (Lit (.int .i64 (j + 1)))) (l' := [(6, .val (Lit (.int .i64 (j + 1)))), (24, .val (Lit (.int .i64 (j + 1)))), (5, .val (Lit (.int .u32 ((x * 256) % 4294967296)))), (4, .val (Lit (.int .i64 i))), (3, .val (IsApp g2 m4 5 .u8 ((dg 256 (U * 256 + x / 16777216)).reverse))), (904, .val (Sz m4)), (0, .val (IsLb m4 .u32 (dg 4294967296 V))), (2, .val (Lit (.string (strB []))))]) H31 rfl rfl rfl (.plain rfl (ok_assign (.tmp 0 rfl))) rfl rfl ?_
        clear H31 a31 w31 B31
        intro a32 w32 B32 H32
        refine ops_done ?_
        exact ⟨⟨g2, j + 1, (x * 256) % 4294967296, U * 256 + x / 16777216⟩, B32, by exact ⟨by omega, by omega, by omega, by omega, be_inv U x T j (by omega) hx hi⟩, St.pick H32 [0, 2, 3, 4, 5, 6, 7] rfl, by show (4 - (j + 1)).toNat < (4 - j).toNat; omega⟩
    · intro hc16
      replace hc16 := of_decide_eq_false hc16
      have hU := be_exit U x T j (by omega) (by omega) hi
      refine wp_exit ?_
      refine then_exit ?_
      refine then_exit ?_
      refine block_exit ?_
      refine block_normal ?_
      refine then_normal ?_
      have H33 := St.set1 H15 4 (D' := IsApp g2 m4 5 .u8 ((dg 256 (val 4294967296 ((dg 4294967296 V).drop ((i - 1) + 1).toNat))).reverse)) rfl (fun v w B h => by rw [show i - 1 + 1 = i by omega, be_drop _ i (by omega), ← hT, ← hU]; exact h) (l' := [(22, .val (IsB (decide (j < 4)))), (6, .val (Lit (.int .i64 j))), (5, .val (Lit (.int .u32 x))), (4, .val (Lit (.int .i64 i))), (3, .val (IsApp g2 m4 5 .u8 ((dg 256 (val 4294967296 ((dg 4294967296 V).drop ((i - 1) + 1).toNat))).reverse))), (904, .val (Sz m4)), (0, .val (IsLb m4 .u32 (dg 4294967296 V))), (2, .val (Lit (.string (strB []))))]) rfl
      clear H15
      refine flow_region (dsts := [some 15, some 16]) (refs := [[.pre 3], [.res 0]]) (outs := [.res 1, .pre 1, .pre 2, .pre 3, .pre 4, .pre 5, .pre 6, .pre 7]) (als := [false, false]) (posts := [.val (Lit (.int .i64 i)), .val (Lit (.int .i64 (i - 1)))])
        (out := [(16, .val (Lit (.int .i64 (i - 1)))), (6, .val (Lit (.int .i64 j))), (5, .val (Lit (.int .u32 x))), (4, .val (Lit (.int .i64 i))), (3, .val (IsApp g2 m4 5 .u8 ((dg 256 (val 4294967296 ((dg 4294967296 V).drop ((i - 1) + 1).toNat))).reverse))), (904, .val (Sz m4)), (0, .val (IsLb m4 .u32 (dg 4294967296 V))), (2, .val (Lit (.string (strB []))))]) (nb := []) H33 2 [2] rfl (by kernel_rfl) rfl rfl ?_ ?_
      · refine .cons (.plain rfl (ok_move (.tmp 0 rfl))) ?_
        refine .cons (.plain rfl (ok_sub (r := (i - 1)) (.tmp 0 rfl) (.lit) (w_i64 (by omega)))) ?_
        exact .nil
      clear H33 a15 w15 B15
      intro a34 w34 B34 H34
      refine ops_one ?_
      refine tail_op (D := .val (Lit (.int .i64 (i - 1)))) (l' := [(4, .val (Lit (.int .i64 (i - 1)))), (16, .val (Lit (.int .i64 (i - 1)))), (6, .val (Lit (.int .i64 j))), (5, .val (Lit (.int .u32 x))), (3, .val (IsApp g2 m4 5 .u8 ((dg 256 (val 4294967296 ((dg 4294967296 V).drop ((i - 1) + 1).toNat))).reverse))), (904, .val (Sz m4)), (0, .val (IsLb m4 .u32 (dg 4294967296 V))), (2, .val (Lit (.string (strB []))))]) H34 rfl rfl rfl (.plain rfl (ok_assign (.tmp 0 rfl))) rfl rfl ?_
      clear H34 a34 w34 B34
      intro a35 w35 B35 H35
      refine ops_done ?_
      exact ⟨⟨g2, i - 1⟩, B35, by exact ⟨by omega, by omega⟩, St.pick H35 [0, 4, 5, 6, 7] rfl, by show (i - 1 + 1).toNat < (i + 1).toNat; omega⟩
  · intro hc11
    replace hc11 := of_decide_eq_false hc11
    have hi1 : i = -1 := by omega
    have hfin : val 4294967296 ((dg 4294967296 V).drop (i + 1).toNat) = V := by rw [hi1]; exact hVL
    refine wp_exit ?_
    refine then_exit ?_
    refine then_exit ?_
    refine block_exit ?_
    refine then_normal ?_
    refine wp_seq ?_
    refine flow_region (dsts := [some 41, some 42, some 2]) (refs := [[.pre 2], [.res 0], [.res 1]]) (outs := [.res 2, .pre 1, .pre 2, .pre 3, .pre 4]) (als := [false, false, false]) (posts := [.val (IsApp g m4 5 .u8 ((dg 256 (val 4294967296 ((dg 4294967296 V).drop (i + 1).toNat))).reverse)), .val (Lit (.string (strB ((dg 256 (val 4294967296 ((dg 4294967296 V).drop (i + 1).toNat))).reverse)))), .val (Lit (.string (strB ((dg 256 (val 4294967296 ((dg 4294967296 V).drop (i + 1).toNat))).reverse))))])
      (out := [(2, .val (Lit (.string (strB ((dg 256 (val 4294967296 ((dg 4294967296 V).drop (i + 1).toNat))).reverse))))), (4, .val (Lit (.int .i64 i))), (3, .val (IsApp g m4 5 .u8 ((dg 256 (val 4294967296 ((dg 4294967296 V).drop (i + 1).toNat))).reverse))), (904, .val (Sz m4)), (0, .val (IsLb m4 .u32 (dg 4294967296 V)))]) (nb := []) H10 3 [] rfl (by kernel_rfl) rfl rfl ?_ ?_
    · refine .cons (.plain rfl (ok_move (.tmp 0 rfl))) ?_
      refine .cons (.plain rfl (ok_convL Try.underlying50 Try.underlying5 Try.underlying9 ((dg_dig 256 (by omega) _).reverse) (.weak (.tmp 0 rfl) weakAppL))) ?_
      refine .cons (.plain rfl (ok_assign (.tmp 0 rfl))) ?_
      exact .nil
    clear H10 a10 w10 B10
    intro a36 w36 B36 H36
    refine ops_done ?_
    refine then_normal ?_
    refine wp_ret ?_
    exact f_ret H36 rfl 0 rfl (fun v w B h => by rw [hfin] at h; exact h)
end Go.Proofs.Ytgnophflogmmaaa
