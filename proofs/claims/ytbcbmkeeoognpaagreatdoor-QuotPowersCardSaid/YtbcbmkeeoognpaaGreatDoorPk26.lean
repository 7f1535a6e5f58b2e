/- Contracts of functions, and plain facts, part 26. -/
import Derived.Test.YtbcbmkeeoognpaaGreatDoorPk7
import Derived.Test.YtbcbmkeeoognpaaGreatDoorPk11
import Derived.Test.YtbcbmkeeoognpaaGreatDoorPk20
import Derived.Test.YtbcbmkeeoognpaaGreatDoorPk23
import Derived.Test.YtbcbmkeeoognpaaGreatDoorPk25
set_option linter.unusedVariables false
set_option linter.unusedSimpArgs false
/- R2pow. (Printed by flowfn.py.) -/
namespace Go.Proofs.YtbcbmkeeoognpaaGreatDoor
open Go Go.RowKit

theorem powFit {b : Int} (hb : 0 ≤ b ∧ b < 4294967296) (k : Nat) : FitK (k + 1) (b ^ k) := by
  unfold FitK
  have h0 : 0 ≤ b ^ k := Int.pow_nonneg hb.1
  induction k with
  | zero => simp
  | succ k ih =>
    have h1 : 0 ≤ b ^ k := Int.pow_nonneg hb.1
    have h2 := ih h1
    rw [Int.pow_succ] at h0
    rw [Int.pow_succ b k, Int.pow_succ 4294967296 (k + 1)]
    have h3 : b ^ k * b ≤ b ^ k * 4294967296 := Int.mul_le_mul_of_nonneg_left (by omega) h1
    have h4 : b ^ k * 4294967296 < 4294967296 ^ (k + 1) * 4294967296 := Int.mul_lt_mul_of_pos_right (by omega) (by omega)
    omega
theorem powStep (b : Int) (n : Int) (h : 0 < n) : b ^ (n / 2).toNat * b ^ (n / 2).toNat = if n % 2 = 1 then b ^ (n.toNat - 1) else b ^ n.toNat := by
  rw [← Int.pow_add]
  split
  · rw [show (n / 2).toNat + (n / 2).toNat = n.toNat - 1 by omega]
  · rw [show (n / 2).toNat + (n / 2).toNat = n.toNat by omega]
theorem powOdd (b : Int) (n : Int) (h : 0 < n) (h2 : n % 2 = 1) : b ^ (n / 2).toNat * b ^ (n / 2).toNat * b = b ^ n.toNat := by
  rw [powStep b n h, if_pos h2]
  conv => rhs; rw [show n.toNat = (n.toNat - 1) + 1 by omega, Int.pow_succ]
theorem powEven (b : Int) (n : Int) (h : 0 < n) (h2 : ¬ n % 2 = 1) : b ^ (n / 2).toNat * b ^ (n / 2).toNat = b ^ n.toNat := by
  rw [powStep b n h, if_neg h2]
section
variable {need : List (Tmp × FD)} {d : Option Tmp} {ty : TypeId} {pos : String} {af : Array Edge} {g : Option (Nat × Bool)} {x : Operand}
theorem ok_nat1C {i : Int} (hi : 0 < i ∧ i < 4294967296) (h : Opd need x (.val (Lit (.int .u32 i)))) : OpOk Tryz.prog ⟨d, .buildSlice 23 1 #[(0, x)], ty, pos, af, g⟩ need (.val (IsC i)) false := by
  intro Q K a w B hB hF hK
  have e : a.eval x = .int .u32 i := h a w B hF
  have hbel : Below w.heap.size w (w.alloc (.cells #[.int .u32 i] 44)) := (Below.refl _ _).alloc (Nat.le_refl _) _
  have hr : (execOp a.eval ⟨d, .buildSlice 23 1 #[(0, x)], ty, pos, af, g⟩).run Tryz.prog w = .ok (.value (.slice (some ⟨w.heap.size, 0, none⟩) 1 1)) (w.alloc (.cells #[.int .u32 i] 44)) := by
    simp only [execOp, e, List.map_toArray, List.map_cons, List.map_nil]
    go_simp
  unfold Oper.wp
  rw [hr]
  have hdg : dg 4294967296 i = [i] := by
    have h2 := norm_eq 4294967296 (by omega) (Dig.cons (show (0 : Int) ≤ i by omega) (show i < ((4294967296 : Nat) : Int) by omega) (Dig.nil _))
    rw [show ((4294967296 : Nat) : Int) = 4294967296 from rfl, show val 4294967296 [i] = i by simp [val]] at h2
    rw [← h2]
    unfold norm
    simp [norm]
    omega
  refine hK _ _ B ⟨_, 1, 1, rfl, ⟨by omega, ?_⟩, by rw [lim_eq]; omega, by omega⟩ (Bl.of_below B hbel) hbel (fun k hk => Nat.lt_of_lt_of_le (hB k hk) hbel.size) (by simp)
  rw [hdg]
  refine ⟨rfl, fun j hj => ⟨_, rfl, ?_⟩⟩
  obtain rfl : j = 0 := by omega
  rw [plain_add, cell_row (heap_alloc_new w _)]
  rfl
end
theorem powNum_ok {b n : Int} (h : true = powOk b n) : b ^ n.toNat = powNum b n := by unfold powNum; rw [← h]; rfl
theorem powNum_no {b n : Int} (h : false = powOk b n) : 0 = powNum b n := by unfold powNum; rw [← h]; rfl

set_option maxRecDepth 20000 in
set_option maxHeartbeats 2000000 in
theorem con_r2power (b : Int) (hb : 0 ≤ b ∧ b < 4294967296) : ∀ (k : Nat) (n : Int), 0 ≤ n → n.toNat = k → n ≤ 65536 → Con Tryz.prog 119 [Lit (.int .u32 b), Lit (.int .i64 n)] (IsC (b ^ n.toNat)) := by
  intro k
  induction k using Nat.strongRecOn with
  | _ k ih =>
  intro n h0 hk hn
  refine f_enter (N := 25) Tryz.ntmps119 (fun _ _ => by go_simp) Tryz.func119 rfl (by simp) ?_
  intro a0 w0 B0 H0
  replace H0 : St 25 w0 B0 a0 w0 B0 [(0, .val (Lit (.int .u32 b))), (1, .val (Lit (.int .i64 n)))] [] := H0
  refine wp_seq ?_
  refine flow_region (dsts := [some 4]) (refs := [[]]) (outs := [.res 0, .pre 0, .pre 1]) (als := [false]) (posts := [.val (IsC 0)])
    (out := [(4, .val (IsC 0)), (0, .val (Lit (.int .u32 b))), (1, .val (Lit (.int .i64 n)))]) (nb := []) H0 1 [] rfl (by kernel_rfl) rfl rfl ?_ ?_
  · refine .cons (.plain rfl (ok_assign (.const (fun w B => weakNilM _ w B rfl)))) ?_
    exact .nil
  clear H0
  intro a1 w1 B1 H1
  refine ops_done ?_
  refine then_normal ?_
  refine wp_seq ?_
  refine wp_seq ?_
  refine flow_region (dsts := [some 7, some 8]) (refs := [[.pre 2], [.res 0]]) (outs := [.res 1, .pre 0, .pre 1, .pre 2]) (als := [false, false]) (posts := [.val (Lit (.int .i64 n)), .val (IsB (decide (n = 0)))])
    (out := [(8, .val (IsB (decide (n = 0)))), (4, .val (IsC 0)), (0, .val (Lit (.int .u32 b))), (1, .val (Lit (.int .i64 n)))]) (nb := []) H1 2 [] rfl (by kernel_rfl) rfl rfl ?_ ?_
  · refine .cons (.plain rfl (ok_move (.tmp 0 rfl))) ?_
    refine .cons (.plain rfl (ok_cmp (.tmp 0 rfl) (.lit) rfl)) ?_
    exact .nil
  clear H1 a1 w1 B1
  intro a2 w2 B2 H2
  refine ops_done ?_
  refine then_normal ?_
  refine f_cond H2 (.tmp 0 rfl) ?_ ?_
  · intro hc3
    replace hc3 := of_decide_eq_true hc3
    have e1 : (1 : Int) = b ^ n.toNat := by rw [hc3, Int.toNat_zero, Int.pow_zero]
    refine wp_seq ?_
    refine flow_region (dsts := [some 9, some 4]) (refs := [[], [.res 0]]) (outs := [.res 1, .pre 2, .pre 3]) (als := [false, false]) (posts := [.val (IsC 1), .val (IsC 1)])
      (out := [(4, .val (IsC 1)), (0, .val (Lit (.int .u32 b))), (1, .val (Lit (.int .i64 n)))]) (nb := []) H2 2 [] rfl (by kernel_rfl) rfl rfl ?_ ?_
    · refine .cons (.plain rfl (ok_nat1C (by omega) (.lit))) ?_
      refine .cons (.plain rfl (ok_assign (.tmp 0 rfl))) ?_
      exact .nil
    clear H2 a2 w2 B2
    intro a4 w4 B4 H4
    refine ops_done ?_
    refine then_normal ?_
    refine wp_ret ?_
    refine then_ret ?_
    exact f_ret H4 rfl 0 rfl (fun v w B h => by exact isC_eq e1 h)
  · intro hc3
    replace hc3 := of_decide_eq_false hc3
    have hn1 : 0 < n := by omega
    refine wp_skip ?_
    refine then_normal ?_
    refine wp_seq ?_
    refine flow_region (dsts := [some 10, some 11, some 12, some 13, some 5]) (refs := [[.pre 2], [.pre 3], [.res 1], [.res 0, .res 2], [.res 3]]) (outs := [.res 4, .pre 1, .pre 2, .pre 3]) (als := [false, false, false, false, false]) (posts := [.val (Lit (.int .u32 b)), .val (Lit (.int .i64 n)), .val (Lit (.int .i64 (n / 2))), .val (IsC (b ^ (n / 2).toNat)), .val (IsC (b ^ (n / 2).toNat))])
      (out := [(5, .val (IsC (b ^ (n / 2).toNat))), (4, .val (IsC 0)), (0, .val (Lit (.int .u32 b))), (1, .val (Lit (.int .i64 n)))]) (nb := []) H2 5 [] rfl (by kernel_rfl) rfl rfl ?_ ?_
    · refine .cons (.plain rfl (ok_move (.tmp 0 rfl))) ?_
      refine .cons (.plain rfl (ok_move (.tmp 0 rfl))) ?_
      refine .cons (.plain rfl (ok_quo (r := (n / 2)) (.tmp 0 rfl) (.lit) (by omega) (by rw [Int.tdiv_eq_ediv_of_nonneg (by omega)]; exact w_i64 (by omega)))) ?_
      refine .cons (.plain rfl (ok_call (ih _ (by rw [← hk]; omega) (n / 2) (by omega) rfl (by omega)) (.cons (.tmp 0 rfl) (.cons (.tmp 1 rfl) (.nil))))) ?_
      refine .cons (.plain rfl (ok_assign (.tmp 0 rfl))) ?_
      exact .nil
    clear H2 a2 w2 B2
    intro a5 w5 B5 H5
    refine ops_done ?_
    refine then_normal ?_
    refine wp_seq ?_
    refine flow_region (dsts := [some 14, some 15, some 16, some 6]) (refs := [[.pre 0], [.pre 0], [.res 0, .res 1], [.res 2]]) (outs := [.res 3, .pre 1, .pre 2, .pre 3]) (als := [false, false, false, false]) (posts := [.val (IsC (b ^ (n / 2).toNat)), .val (IsC (b ^ (n / 2).toNat)), .val (IsC ((b ^ (n / 2).toNat) * (b ^ (n / 2).toNat))), .val (IsC ((b ^ (n / 2).toNat) * (b ^ (n / 2).toNat)))])
      (out := [(6, .val (IsC ((b ^ (n / 2).toNat) * (b ^ (n / 2).toNat)))), (4, .val (IsC 0)), (0, .val (Lit (.int .u32 b))), (1, .val (Lit (.int .i64 n)))]) (nb := []) H5 4 [] rfl (by kernel_rfl) rfl rfl ?_ ?_
    · refine .cons (.plain rfl (ok_move (.tmp 0 rfl))) ?_
      refine .cons (.plain rfl (ok_move (.tmp 0 rfl))) ?_
      refine .cons (.plain rfl (ok_call (con_rmul (b ^ (n / 2).toNat) (b ^ (n / 2).toNat) ((((powFit hb _).mul (powFit hb _))).fits (by omega))) (.cons (.weak (.tmp 0 rfl) weakCM) (.cons (.weak (.tmp 1 rfl) weakCM) (.nil))))) ?_
      refine .cons (.plain rfl (ok_assign (.tmp 0 rfl))) ?_
      exact .nil
    clear H5 a5 w5 B5
    intro a6 w6 B6 H6
    refine ops_done ?_
    refine then_normal ?_
    refine wp_seq ?_
    refine wp_seq ?_
    refine flow_region (dsts := [some 17, some 18, some 19]) (refs := [[.pre 3], [.res 0], [.res 1]]) (outs := [.res 2, .pre 0, .pre 1, .pre 2]) (als := [false, false, false]) (posts := [.val (Lit (.int .i64 n)), .val (Lit (.int .i64 (n % 2))), .val (IsB (decide (n % 2 = 1)))])
      (out := [(19, .val (IsB (decide (n % 2 = 1)))), (6, .val (IsC ((b ^ (n / 2).toNat) * (b ^ (n / 2).toNat)))), (4, .val (IsC 0)), (0, .val (Lit (.int .u32 b)))]) (nb := []) H6 3 [] rfl (by kernel_rfl) rfl rfl ?_ ?_
    · refine .cons (.plain rfl (ok_move (.tmp 0 rfl))) ?_
      refine .cons (.plain rfl (ok_rem (r := (n % 2)) (.tmp 0 rfl) (.lit) (by omega) (Int.tmod_eq_emod_of_nonneg (by omega)))) ?_
      refine .cons (.plain rfl (ok_cmp (.tmp 0 rfl) (.lit) rfl)) ?_
      exact .nil
    clear H6 a6 w6 B6
    intro a7 w7 B7 H7
    refine ops_done ?_
    refine then_normal ?_
    refine f_cond H7 (.tmp 0 rfl) ?_ ?_
    · intro hc8
      replace hc8 := of_decide_eq_true hc8
      have e1 := powOdd b n hn1 hc8
      refine flow_region (dsts := [some 20, some 21, some 22, some 23]) (refs := [[.pre 1], [.pre 3], [.res 1], [.res 0, .res 2]]) (outs := [.res 3, .pre 1, .pre 2]) (als := [false, false, false, false]) (posts := [.val (IsC ((b ^ (n / 2).toNat) * (b ^ (n / 2).toNat))), .val (Lit (.int .u32 b)), .val (IsM b), .val (IsC (((b ^ (n / 2).toNat) * (b ^ (n / 2).toNat)) * b))])
        (out := [(23, .val (IsC (((b ^ (n / 2).toNat) * (b ^ (n / 2).toNat)) * b))), (6, .val (IsC ((b ^ (n / 2).toNat) * (b ^ (n / 2).toNat)))), (4, .val (IsC 0))]) (nb := []) H7 4 [4] rfl (by kernel_rfl) rfl rfl ?_ ?_
      · refine .cons (.plain rfl (ok_move (.tmp 0 rfl))) ?_
        refine .cons (.plain rfl (ok_move (.tmp 0 rfl))) ?_
        refine .cons (.plain rfl (ok_nat1 (by omega) (.tmp 0 rfl))) ?_
        refine .cons (.plain rfl (ok_call (con_rmul ((b ^ (n / 2).toNat) * (b ^ (n / 2).toNat)) b (((((powFit hb _).mul (powFit hb _)).mul (show FitK 1 b by unfold FitK; omega))).fits (by omega))) (.cons (.weak (.tmp 0 rfl) weakCM) (.cons (.tmp 1 rfl) (.nil))))) ?_
        exact .nil
      clear H7 a7 w7 B7
      intro a9 w9 B9 H9
      refine ops_one ?_
      refine tail_op (D := .val (IsC (((b ^ (n / 2).toNat) * (b ^ (n / 2).toNat)) * b))) (l' := [(6, .val (IsC (((b ^ (n / 2).toNat) * (b ^ (n / 2).toNat)) * b))), (23, .val (IsC (((b ^ (n / 2).toNat) * (b ^ (n / 2).toNat)) * b))), (4, .val (IsC 0))]) H9 rfl rfl rfl (.plain rfl (ok_assign (.tmp 0 rfl))) rfl rfl ?_
      clear H9 a9 w9 B9
      intro a10 w10 B10 H10
      refine ops_done ?_
      refine then_normal ?_
      refine wp_seq ?_
      refine flow_region (dsts := [some 24, some 4]) (refs := [[.pre 0], [.res 0]]) (outs := [.res 1]) (als := [false, false]) (posts := [.val (IsC (((b ^ (n / 2).toNat) * (b ^ (n / 2).toNat)) * b)), .val (IsC (((b ^ (n / 2).toNat) * (b ^ (n / 2).toNat)) * b))])
        (out := [(4, .val (IsC (((b ^ (n / 2).toNat) * (b ^ (n / 2).toNat)) * b)))]) (nb := []) H10 2 [] rfl (by kernel_rfl) rfl rfl ?_ ?_
      · refine .cons (.plain rfl (ok_move (.tmp 0 rfl))) ?_
        refine .cons (.plain rfl (ok_assign (.tmp 0 rfl))) ?_
        exact .nil
      clear H10 a10 w10 B10
      intro a11 w11 B11 H11
      refine ops_done ?_
      refine then_normal ?_
      refine wp_ret ?_
      exact f_ret H11 rfl 0 rfl (fun v w B h => by exact isC_eq e1 h)
    · intro hc8
      replace hc8 := of_decide_eq_false hc8
      have e1 := powEven b n hn1 hc8
      refine wp_skip ?_
      refine then_normal ?_
      refine wp_seq ?_
      refine flow_region (dsts := [some 24, some 4]) (refs := [[.pre 1], [.res 0]]) (outs := [.res 1]) (als := [false, false]) (posts := [.val (IsC ((b ^ (n / 2).toNat) * (b ^ (n / 2).toNat))), .val (IsC ((b ^ (n / 2).toNat) * (b ^ (n / 2).toNat)))])
        (out := [(4, .val (IsC ((b ^ (n / 2).toNat) * (b ^ (n / 2).toNat))))]) (nb := []) H7 2 [] rfl (by kernel_rfl) rfl rfl ?_ ?_
      · refine .cons (.plain rfl (ok_move (.tmp 0 rfl))) ?_
        refine .cons (.plain rfl (ok_assign (.tmp 0 rfl))) ?_
        exact .nil
      clear H7 a7 w7 B7
      intro a12 w12 B12 H12
      refine ops_done ?_
      refine then_normal ?_
      refine wp_ret ?_
      exact f_ret H12 rfl 0 rfl (fun v w B h => by exact isC_eq e1 h)

set_option maxRecDepth 20000 in
set_option maxHeartbeats 2000000 in
theorem con_r2pow (b n : Int) (hb : 0 ≤ b ∧ b < 4294967296) : Con Tryz.prog 28 [Lit (.int .u32 b), Lit (.int .i64 n)] (Tup [IsC (powNum b n), IsB (powOk b n)]) := by
  refine f_enter (N := 33) Tryz.ntmps28 (fun _ _ => by go_simp) Tryz.func28 rfl (by simp) ?_
  intro a0 w0 B0 H0
  replace H0 : St 33 w0 B0 a0 w0 B0 [(0, .val (Lit (.int .u32 b))), (1, .val (Lit (.int .i64 n)))] [] := H0
  refine wp_seq ?_
  refine flow_region (dsts := [some 4, some 5]) (refs := [[], []]) (outs := [.res 0, .res 1, .pre 0, .pre 1]) (als := [false, false]) (posts := [.val (IsC 0), .val (IsB false)])
    (out := [(4, .val (IsC 0)), (5, .val (IsB false)), (0, .val (Lit (.int .u32 b))), (1, .val (Lit (.int .i64 n)))]) (nb := []) H0 2 [] rfl (by kernel_rfl) rfl rfl ?_ ?_
  · refine .cons (.plain rfl (ok_assign (.const (fun w B => weakNilM _ w B rfl)))) ?_
    refine .cons (.plain rfl (ok_assign (.lit))) ?_
    exact .nil
  clear H0
  intro a1 w1 B1 H1
  refine ops_done ?_
  refine then_normal ?_
  refine wp_seq ?_
  refine flow_region (dsts := [some 7, some 8, some 9, some 6]) (refs := [[.pre 2], [.res 0], [.res 1], [.res 2]]) (outs := [.res 3, .pre 0, .pre 1, .pre 2, .pre 3]) (als := [false, false, false, false]) (posts := [.val (Lit (.int .u32 b)), .val (IsM b), .val (Lit (.int .i64 (bitsOf b))), .val (Lit (.int .i64 (bitsOf b)))])
    (out := [(6, .val (Lit (.int .i64 (bitsOf b)))), (4, .val (IsC 0)), (5, .val (IsB false)), (0, .val (Lit (.int .u32 b))), (1, .val (Lit (.int .i64 n)))]) (nb := []) H1 4 [] rfl (by kernel_rfl) rfl rfl ?_ ?_
  · refine .cons (.plain rfl (ok_move (.tmp 0 rfl))) ?_
    refine .cons (.plain rfl (ok_nat1 (by omega) (.tmp 0 rfl))) ?_
    refine .cons (.plain rfl (ok_call (con_rlen b) (.cons (.tmp 0 rfl) (.nil)))) ?_
    refine .cons (.plain rfl (ok_assign (.tmp 0 rfl))) ?_
    exact .nil
  clear H1 a1 w1 B1
  intro a2 w2 B2 H2
  refine ops_done ?_
  refine then_normal ?_
  refine wp_seq ?_
  refine wp_seq ?_
  rcases (show n < 0 ∨ (b = 0 ∧ 0 < n) ∨ (b = 0 ∧ n = 0) ∨ (b = 1 ∧ 0 ≤ n) ∨ (0 ≤ n ∧ 2 ≤ b) by omega) with c0 | ⟨c0, c1⟩ | ⟨c0, c1⟩ | ⟨c0, c1⟩ | ⟨c0, c1⟩
  · have e2 : false = powOk b n := (decide_eq_false (by omega)).symm
    have e1 := powNum_no e2
    refine flow_region (dsts := [some 10, some 11, some 12, some 13, some 14, some 15, some 16, some 17, some 18, some 19, some 20, some 21]) (refs := [[.pre 4], [.res 0], [.res 1], [.res 2], [.res 2], [.res 2], [.res 5], [.res 5], [.res 5], [.res 5], [.res 2], [.res 2]]) (outs := [.res 11, .pre 1, .pre 2, .pre 3, .pre 4]) (als := [false, false, false, false, false, false, false, false, false, false, false, false]) (posts := [.val (Lit (.int .i64 n)), .val (IsB true), .val (IsB true), .val (IsUndef), .val (IsUndef), .val (IsUndef), .val (IsUndef), .val (IsUndef), .val (IsUndef), .val (IsUndef), .val (IsUndef), .val (IsB true)])
      (out := [(21, .val (IsB true)), (4, .val (IsC 0)), (5, .val (IsB false)), (0, .val (Lit (.int .u32 b))), (1, .val (Lit (.int .i64 n)))]) (nb := []) H2 12 [] rfl (by kernel_rfl) rfl rfl ?_ ?_
    · refine .cons (.plain rfl (ok_move (.tmp 0 rfl))) ?_
      refine .cons (.plain rfl (ok_cmp (b := true) (.tmp 0 rfl) (.lit) ((decide_eq_true (c0)).symm))) ?_
      refine .cons (.plain rfl (ok_move (.tmp 0 rfl))) ?_
      refine .cons (.unwanted 2 false rfl rfl rfl 0 rfl) ?_
      refine .cons (.unwanted 2 false rfl rfl rfl 0 rfl) ?_
      refine .cons (.unwanted 2 false rfl rfl rfl 0 rfl) ?_
      refine .cons (.unasked 5 true rfl rfl rfl 0 rfl) ?_
      refine .cons (.unasked 5 true rfl rfl rfl 0 rfl) ?_
      refine .cons (.unasked 5 true rfl rfl rfl 0 rfl) ?_
      refine .cons (.unasked 5 true rfl rfl rfl 0 rfl) ?_
      refine .cons (.unwanted 2 false rfl rfl rfl 0 rfl) ?_
      refine .cons (.plain rfl (ok_pickT (.tmp 0 rfl) (.lit))) ?_
      exact .nil
    clear H2 a2 w2 B2
    intro a3 w3 B3 H3
    refine ops_done ?_
    refine then_normal ?_
    refine f_condT H3 (.tmp 0 rfl) ?_
    refine wp_seq ?_
    refine flow_region (dsts := [some 4, some 5]) (refs := [[], []]) (outs := [.res 0, .res 1, .pre 3, .pre 4]) (als := [false, false]) (posts := [.val (IsC 0), .val (IsB false)])
      (out := [(4, .val (IsC 0)), (5, .val (IsB false)), (0, .val (Lit (.int .u32 b))), (1, .val (Lit (.int .i64 n)))]) (nb := []) H3 2 [] rfl (by kernel_rfl) rfl rfl ?_ ?_
    · refine .cons (.plain rfl (ok_assign (.const (fun w B => weakNilM _ w B rfl)))) ?_
      refine .cons (.plain rfl (ok_assign (.lit))) ?_
      exact .nil
    clear H3 a3 w3 B3
    intro a4 w4 B4 H4
    refine ops_done ?_
    refine then_normal ?_
    refine wp_ret ?_
    refine then_ret ?_
    exact f_retN H4 rfl rfl (.tmp 0 rfl (fun v w B h => by exact isC_eq e1 h) (.tmp 1 rfl (fun v w B h => by exact isB_eq e2 h) (.nil)))
  · have e2 : true = powOk b n := (decide_eq_true (by omega)).symm
    have e1 : 0 = powNum b n := by rw [← powNum_ok e2, c0, Int.zero_pow (by omega)]
    refine flow_region (dsts := [some 10, some 11, some 12, some 13, some 14, some 15, some 16, some 17, some 18, some 19, some 20, some 21]) (refs := [[.pre 4], [.res 0], [.res 1], [.res 2, .pre 3], [.res 2, .res 3], [.res 2, .res 4], [.res 5], [.res 5], [.res 5], [.res 5], [.res 2, .res 5], [.res 2, .res 10]]) (outs := [.res 11, .pre 1, .pre 2, .pre 3, .pre 4]) (als := [false, false, false, false, false, false, false, false, false, false, false, false]) (posts := [.val (Lit (.int .i64 n)), .val (IsB false), .val (IsB false), .val (Lit (.int .u32 b)), .val (IsB false), .val (IsB false), .val (IsUndef), .val (IsUndef), .val (IsUndef), .val (IsUndef), .val (IsB false), .val (IsB false)])
      (out := [(21, .val (IsB false)), (4, .val (IsC 0)), (5, .val (IsB false)), (0, .val (Lit (.int .u32 b))), (1, .val (Lit (.int .i64 n)))]) (nb := []) H2 12 [] rfl (by kernel_rfl) rfl rfl ?_ ?_
    · refine .cons (.plain rfl (ok_move (.tmp 0 rfl))) ?_
      refine .cons (.plain rfl (ok_cmp (b := false) (.tmp 0 rfl) (.lit) ((decide_eq_false ((by omega))).symm))) ?_
      refine .cons (.plain rfl (ok_move (.tmp 0 rfl))) ?_
      refine .cons (.wanted 2 false rfl rfl rfl 0 rfl (ok_move (.tmp 1 rfl))) ?_
      refine .cons (.wanted 2 false rfl rfl rfl 0 rfl (ok_cmp (b := false) (.tmp 1 rfl) (.lit) ((decide_eq_false ((by omega))).symm))) ?_
      refine .cons (.wanted 2 false rfl rfl rfl 0 rfl (ok_move (.tmp 1 rfl))) ?_
      refine .cons (.unwanted 5 true rfl rfl rfl 0 rfl) ?_
      refine .cons (.unwanted 5 true rfl rfl rfl 0 rfl) ?_
      refine .cons (.unwanted 5 true rfl rfl rfl 0 rfl) ?_
      refine .cons (.unwanted 5 true rfl rfl rfl 0 rfl) ?_
      refine .cons (.wanted 2 false rfl rfl rfl 0 rfl (ok_pickF (.tmp 1 rfl) (.lit))) ?_
      refine .cons (.plain rfl (ok_pickF (.tmp 0 rfl) (.tmp 1 rfl))) ?_
      exact .nil
    clear H2 a2 w2 B2
    intro a5 w5 B5 H5
    refine ops_done ?_
    refine then_normal ?_
    refine f_condF H5 (.tmp 0 rfl) ?_
    refine wp_skip ?_
    refine then_normal ?_
    refine wp_seq ?_
    refine wp_seq ?_
    refine flow_region (dsts := [some 22, some 23, some 24, some 25, some 26, some 27]) (refs := [[.pre 3], [.res 0], [.res 1], [.res 2, .pre 4], [.res 2, .res 3], [.res 2, .res 4]]) (outs := [.res 5, .pre 1, .pre 2, .pre 3, .pre 4]) (als := [false, false, false, false, false, false]) (posts := [.val (Lit (.int .u32 b)), .val (IsB true), .val (IsB true), .val (Lit (.int .i64 n)), .val (IsB true), .val (IsB true)])
      (out := [(27, .val (IsB true)), (4, .val (IsC 0)), (5, .val (IsB false)), (0, .val (Lit (.int .u32 b))), (1, .val (Lit (.int .i64 n)))]) (nb := []) H5 6 [] rfl (by kernel_rfl) rfl rfl ?_ ?_
    · refine .cons (.plain rfl (ok_move (.tmp 0 rfl))) ?_
      refine .cons (.plain rfl (ok_cmp (b := true) (.tmp 0 rfl) (.lit) ((decide_eq_true (c0)).symm))) ?_
      refine .cons (.plain rfl (ok_move (.tmp 0 rfl))) ?_
      refine .cons (.wanted 2 true rfl rfl rfl 0 rfl (ok_move (.tmp 1 rfl))) ?_
      refine .cons (.wanted 2 true rfl rfl rfl 0 rfl (ok_cmp (b := true) (.tmp 1 rfl) (.lit) ((decide_eq_true (c1)).symm))) ?_
      refine .cons (.plain rfl (ok_pickT (.tmp 0 rfl) (.tmp 1 rfl))) ?_
      exact .nil
    clear H5 a5 w5 B5
    intro a6 w6 B6 H6
    refine ops_done ?_
    refine then_normal ?_
    refine f_condT H6 (.tmp 0 rfl) ?_
    refine wp_seq ?_
    refine flow_region (dsts := [some 4, some 5]) (refs := [[], []]) (outs := [.res 0, .res 1, .pre 3, .pre 4]) (als := [false, false]) (posts := [.val (IsC 0), .val (IsB true)])
      (out := [(4, .val (IsC 0)), (5, .val (IsB true)), (0, .val (Lit (.int .u32 b))), (1, .val (Lit (.int .i64 n)))]) (nb := []) H6 2 [] rfl (by kernel_rfl) rfl rfl ?_ ?_
    · refine .cons (.plain rfl (ok_assign (.const (fun w B => weakNilM _ w B rfl)))) ?_
      refine .cons (.plain rfl (ok_assign (.lit))) ?_
      exact .nil
    clear H6 a6 w6 B6
    intro a7 w7 B7 H7
    refine ops_done ?_
    refine then_normal ?_
    refine wp_ret ?_
    refine then_ret ?_
    exact f_retN H7 rfl rfl (.tmp 0 rfl (fun v w B h => by exact isC_eq e1 h) (.tmp 1 rfl (fun v w B h => by exact isB_eq e2 h) (.nil)))
  · have e2 : true = powOk b n := (decide_eq_true (by omega)).symm
    have e1 := powNum_ok e2
    refine flow_region (dsts := [some 10, some 11, some 12, some 13, some 14, some 15, some 16, some 17, some 18, some 19, some 20, some 21]) (refs := [[.pre 4], [.res 0], [.res 1], [.res 2, .pre 3], [.res 2, .res 3], [.res 2, .res 4], [.res 5], [.res 5], [.res 5], [.res 5], [.res 2, .res 5], [.res 2, .res 10]]) (outs := [.res 11, .pre 1, .pre 2, .pre 3, .pre 4]) (als := [false, false, false, false, false, false, false, false, false, false, false, false]) (posts := [.val (Lit (.int .i64 n)), .val (IsB false), .val (IsB false), .val (Lit (.int .u32 b)), .val (IsB false), .val (IsB false), .val (IsUndef), .val (IsUndef), .val (IsUndef), .val (IsUndef), .val (IsB false), .val (IsB false)])
      (out := [(21, .val (IsB false)), (4, .val (IsC 0)), (5, .val (IsB false)), (0, .val (Lit (.int .u32 b))), (1, .val (Lit (.int .i64 n)))]) (nb := []) H2 12 [] rfl (by kernel_rfl) rfl rfl ?_ ?_
    · refine .cons (.plain rfl (ok_move (.tmp 0 rfl))) ?_
      refine .cons (.plain rfl (ok_cmp (b := false) (.tmp 0 rfl) (.lit) ((decide_eq_false ((by omega))).symm))) ?_
      refine .cons (.plain rfl (ok_move (.tmp 0 rfl))) ?_
      refine .cons (.wanted 2 false rfl rfl rfl 0 rfl (ok_move (.tmp 1 rfl))) ?_
      refine .cons (.wanted 2 false rfl rfl rfl 0 rfl (ok_cmp (b := false) (.tmp 1 rfl) (.lit) ((decide_eq_false ((by omega))).symm))) ?_
      refine .cons (.wanted 2 false rfl rfl rfl 0 rfl (ok_move (.tmp 1 rfl))) ?_
      refine .cons (.unwanted 5 true rfl rfl rfl 0 rfl) ?_
      refine .cons (.unwanted 5 true rfl rfl rfl 0 rfl) ?_
      refine .cons (.unwanted 5 true rfl rfl rfl 0 rfl) ?_
      refine .cons (.unwanted 5 true rfl rfl rfl 0 rfl) ?_
      refine .cons (.wanted 2 false rfl rfl rfl 0 rfl (ok_pickF (.tmp 1 rfl) (.lit))) ?_
      refine .cons (.plain rfl (ok_pickF (.tmp 0 rfl) (.tmp 1 rfl))) ?_
      exact .nil
    clear H2 a2 w2 B2
    intro a8 w8 B8 H8
    refine ops_done ?_
    refine then_normal ?_
    refine f_condF H8 (.tmp 0 rfl) ?_
    refine wp_skip ?_
    refine then_normal ?_
    refine wp_seq ?_
    refine wp_seq ?_
    refine flow_region (dsts := [some 22, some 23, some 24, some 25, some 26, some 27]) (refs := [[.pre 3], [.res 0], [.res 1], [.res 2, .pre 4], [.res 2, .res 3], [.res 2, .res 4]]) (outs := [.res 5, .pre 1, .pre 2, .pre 3, .pre 4]) (als := [false, false, false, false, false, false]) (posts := [.val (Lit (.int .u32 b)), .val (IsB true), .val (IsB true), .val (Lit (.int .i64 n)), .val (IsB false), .val (IsB false)])
      (out := [(27, .val (IsB false)), (4, .val (IsC 0)), (5, .val (IsB false)), (0, .val (Lit (.int .u32 b))), (1, .val (Lit (.int .i64 n)))]) (nb := []) H8 6 [] rfl (by kernel_rfl) rfl rfl ?_ ?_
    · refine .cons (.plain rfl (ok_move (.tmp 0 rfl))) ?_
      refine .cons (.plain rfl (ok_cmp (b := true) (.tmp 0 rfl) (.lit) ((decide_eq_true (c0)).symm))) ?_
      refine .cons (.plain rfl (ok_move (.tmp 0 rfl))) ?_
      refine .cons (.wanted 2 true rfl rfl rfl 0 rfl (ok_move (.tmp 1 rfl))) ?_
      refine .cons (.wanted 2 true rfl rfl rfl 0 rfl (ok_cmp (b := false) (.tmp 1 rfl) (.lit) ((decide_eq_false ((by omega))).symm))) ?_
      refine .cons (.plain rfl (ok_pickT (.tmp 0 rfl) (.tmp 1 rfl))) ?_
      exact .nil
    clear H8 a8 w8 B8
    intro a9 w9 B9 H9
    refine ops_done ?_
    refine then_normal ?_
    refine f_condF H9 (.tmp 0 rfl) ?_
    refine wp_skip ?_
    refine then_normal ?_
    refine wp_seq ?_
    refine wp_seq ?_
    refine flow_region (dsts := [some 28, some 29]) (refs := [[.pre 3], [.res 0]]) (outs := [.res 1, .pre 1, .pre 2, .pre 3, .pre 4]) (als := [false, false]) (posts := [.val (Lit (.int .u32 b)), .val (IsB false)])
      (out := [(29, .val (IsB false)), (4, .val (IsC 0)), (5, .val (IsB false)), (0, .val (Lit (.int .u32 b))), (1, .val (Lit (.int .i64 n)))]) (nb := []) H9 2 [] rfl (by kernel_rfl) rfl rfl ?_ ?_
    · refine .cons (.plain rfl (ok_move (.tmp 0 rfl))) ?_
      refine .cons (.plain rfl (ok_cmp (b := false) (.tmp 0 rfl) (.lit) ((decide_eq_false ((by omega))).symm))) ?_
      exact .nil
    clear H9 a9 w9 B9
    intro a10 w10 B10 H10
    refine ops_done ?_
    refine then_normal ?_
    refine f_condF H10 (.tmp 0 rfl) ?_
    refine wp_skip ?_
    refine then_normal ?_
    refine wp_seq ?_
    refine flow_region (dsts := [some 30, some 31, some 32, some 4, some 5]) (refs := [[.pre 3], [.pre 4], [.res 0, .res 1], [.res 2], []]) (outs := [.res 3, .res 4]) (als := [false, false, false, false, false]) (posts := [.val (Lit (.int .u32 b)), .val (Lit (.int .i64 n)), .val (IsC (b ^ n.toNat)), .val (IsC (b ^ n.toNat)), .val (IsB true)])
      (out := [(4, .val (IsC (b ^ n.toNat))), (5, .val (IsB true))]) (nb := []) H10 5 [] rfl (by kernel_rfl) rfl rfl ?_ ?_
    · refine .cons (.plain rfl (ok_move (.tmp 0 rfl))) ?_
      refine .cons (.plain rfl (ok_move (.tmp 0 rfl))) ?_
      refine .cons (.plain rfl (ok_call (con_r2power b hb _ n (by omega) rfl (by omega)) (.cons (.tmp 0 rfl) (.cons (.tmp 1 rfl) (.nil))))) ?_
      refine .cons (.plain rfl (ok_assign (.tmp 0 rfl))) ?_
      refine .cons (.plain rfl (ok_assign (.lit))) ?_
      exact .nil
    clear H10 a10 w10 B10
    intro a11 w11 B11 H11
    refine ops_done ?_
    refine then_normal ?_
    refine wp_ret ?_
    exact f_retN H11 rfl rfl (.tmp 0 rfl (fun v w B h => by exact isC_eq e1 h) (.tmp 1 rfl (fun v w B h => by exact isB_eq e2 h) (.nil)))
  · have e2 : true = powOk b n := (decide_eq_true (by omega)).symm
    have e1 : b ^ (0 : Int).toNat = powNum b n := by rw [← powNum_ok e2, c0, Int.one_pow, Int.one_pow]
    refine flow_region (dsts := [some 10, some 11, some 12, some 13, some 14, some 15, some 16, some 17, some 18, some 19, some 20, some 21]) (refs := [[.pre 4], [.res 0], [.res 1], [.res 2, .pre 3], [.res 2, .res 3], [.res 2, .res 4], [.res 5], [.res 5], [.res 5], [.res 5], [.res 2, .res 5], [.res 2, .res 10]]) (outs := [.res 11, .pre 1, .pre 2, .pre 3, .pre 4]) (als := [false, false, false, false, false, false, false, false, false, false, false, false]) (posts := [.val (Lit (.int .i64 n)), .val (IsB false), .val (IsB false), .val (Lit (.int .u32 b)), .val (IsB false), .val (IsB false), .val (IsUndef), .val (IsUndef), .val (IsUndef), .val (IsUndef), .val (IsB false), .val (IsB false)])
      (out := [(21, .val (IsB false)), (4, .val (IsC 0)), (5, .val (IsB false)), (0, .val (Lit (.int .u32 b))), (1, .val (Lit (.int .i64 n)))]) (nb := []) H2 12 [] rfl (by kernel_rfl) rfl rfl ?_ ?_
    · refine .cons (.plain rfl (ok_move (.tmp 0 rfl))) ?_
      refine .cons (.plain rfl (ok_cmp (b := false) (.tmp 0 rfl) (.lit) ((decide_eq_false ((by omega))).symm))) ?_
      refine .cons (.plain rfl (ok_move (.tmp 0 rfl))) ?_
      refine .cons (.wanted 2 false rfl rfl rfl 0 rfl (ok_move (.tmp 1 rfl))) ?_
      refine .cons (.wanted 2 false rfl rfl rfl 0 rfl (ok_cmp (b := false) (.tmp 1 rfl) (.lit) ((decide_eq_false ((by omega))).symm))) ?_
      refine .cons (.wanted 2 false rfl rfl rfl 0 rfl (ok_move (.tmp 1 rfl))) ?_
      refine .cons (.unwanted 5 true rfl rfl rfl 0 rfl) ?_
      refine .cons (.unwanted 5 true rfl rfl rfl 0 rfl) ?_
      refine .cons (.unwanted 5 true rfl rfl rfl 0 rfl) ?_
      refine .cons (.unwanted 5 true rfl rfl rfl 0 rfl) ?_
      refine .cons (.wanted 2 false rfl rfl rfl 0 rfl (ok_pickF (.tmp 1 rfl) (.lit))) ?_
      refine .cons (.plain rfl (ok_pickF (.tmp 0 rfl) (.tmp 1 rfl))) ?_
      exact .nil
    clear H2 a2 w2 B2
    intro a12 w12 B12 H12
    refine ops_done ?_
    refine then_normal ?_
    refine f_condF H12 (.tmp 0 rfl) ?_
    refine wp_skip ?_
    refine then_normal ?_
    refine wp_seq ?_
    refine wp_seq ?_
    refine flow_region (dsts := [some 22, some 23, some 24, some 25, some 26, some 27]) (refs := [[.pre 3], [.res 0], [.res 1], [.res 2], [.res 2], [.res 2]]) (outs := [.res 5, .pre 1, .pre 2, .pre 3, .pre 4]) (als := [false, false, false, false, false, false]) (posts := [.val (Lit (.int .u32 b)), .val (IsB false), .val (IsB false), .val (IsUndef), .val (IsUndef), .val (IsB false)])
      (out := [(27, .val (IsB false)), (4, .val (IsC 0)), (5, .val (IsB false)), (0, .val (Lit (.int .u32 b))), (1, .val (Lit (.int .i64 n)))]) (nb := []) H12 6 [] rfl (by kernel_rfl) rfl rfl ?_ ?_
    · refine .cons (.plain rfl (ok_move (.tmp 0 rfl))) ?_
      refine .cons (.plain rfl (ok_cmp (b := false) (.tmp 0 rfl) (.lit) ((decide_eq_false ((by omega))).symm))) ?_
      refine .cons (.plain rfl (ok_move (.tmp 0 rfl))) ?_
      refine .cons (.unwanted 2 true rfl rfl rfl 0 rfl) ?_
      refine .cons (.unwanted 2 true rfl rfl rfl 0 rfl) ?_
      refine .cons (.plain rfl (ok_pickF (.tmp 0 rfl) (.lit))) ?_
      exact .nil
    clear H12 a12 w12 B12
    intro a13 w13 B13 H13
    refine ops_done ?_
    refine then_normal ?_
    refine f_condF H13 (.tmp 0 rfl) ?_
    refine wp_skip ?_
    refine then_normal ?_
    refine wp_seq ?_
    refine wp_seq ?_
    refine flow_region (dsts := [some 28, some 29]) (refs := [[.pre 3], [.res 0]]) (outs := [.res 1, .pre 1, .pre 2, .pre 3, .pre 4]) (als := [false, false]) (posts := [.val (Lit (.int .u32 b)), .val (IsB true)])
      (out := [(29, .val (IsB true)), (4, .val (IsC 0)), (5, .val (IsB false)), (0, .val (Lit (.int .u32 b))), (1, .val (Lit (.int .i64 n)))]) (nb := []) H13 2 [] rfl (by kernel_rfl) rfl rfl ?_ ?_
    · refine .cons (.plain rfl (ok_move (.tmp 0 rfl))) ?_
      refine .cons (.plain rfl (ok_cmp (b := true) (.tmp 0 rfl) (.lit) ((decide_eq_true (c0)).symm))) ?_
      exact .nil
    clear H13 a13 w13 B13
    intro a14 w14 B14 H14
    refine ops_done ?_
    refine then_normal ?_
    refine f_condT H14 (.tmp 0 rfl) ?_
    refine flow_region (dsts := [some 1]) (refs := [[]]) (outs := [.res 0, .pre 1, .pre 2, .pre 3]) (als := [false]) (posts := [.val (Lit (.int .i64 0))])
      (out := [(1, .val (Lit (.int .i64 0))), (4, .val (IsC 0)), (5, .val (IsB false)), (0, .val (Lit (.int .u32 b)))]) (nb := []) H14 1 [] rfl (by kernel_rfl) rfl rfl ?_ ?_
    · refine .cons (.plain rfl (ok_assign (.lit))) ?_
      exact .nil
    clear H14 a14 w14 B14
    intro a15 w15 B15 H15
    refine ops_done ?_
    refine then_normal ?_
    refine wp_seq ?_
    refine flow_region (dsts := [some 30, some 31, some 32, some 4, some 5]) (refs := [[.pre 3], [.pre 0], [.res 0, .res 1], [.res 2], []]) (outs := [.res 3, .res 4]) (als := [false, false, false, false, false]) (posts := [.val (Lit (.int .u32 b)), .val (Lit (.int .i64 0)), .val (IsC (b ^ (0 : Int).toNat)), .val (IsC (b ^ (0 : Int).toNat)), .val (IsB true)])
      (out := [(4, .val (IsC (b ^ (0 : Int).toNat))), (5, .val (IsB true))]) (nb := []) H15 5 [] rfl (by kernel_rfl) rfl rfl ?_ ?_
    · refine .cons (.plain rfl (ok_move (.tmp 0 rfl))) ?_
      refine .cons (.plain rfl (ok_move (.tmp 0 rfl))) ?_
      refine .cons (.plain rfl (ok_call (con_r2power b hb _ (0 : Int) (by omega) rfl (by omega)) (.cons (.tmp 0 rfl) (.cons (.tmp 1 rfl) (.nil))))) ?_
      refine .cons (.plain rfl (ok_assign (.tmp 0 rfl))) ?_
      refine .cons (.plain rfl (ok_assign (.lit))) ?_
      exact .nil
    clear H15 a15 w15 B15
    intro a16 w16 B16 H16
    refine ops_done ?_
    refine then_normal ?_
    refine wp_ret ?_
    exact f_retN H16 rfl rfl (.tmp 0 rfl (fun v w B h => by exact isC_eq e1 h) (.tmp 1 rfl (fun v w B h => by exact isB_eq e2 h) (.nil)))
  · have hbl : 0 < bitsOf b := by have := blen_pos b.toNat (by omega); unfold bitsOf; omega
    have hbq : 0 ≤ 65536 / bitsOf b ∧ 65536 / bitsOf b ≤ 65536 := ⟨Int.ediv_nonneg (by omega) (by omega), Int.ediv_le_self _ (by omega)⟩
    refine flow_region (dsts := [some 10, some 11, some 12, some 13, some 14, some 15, some 16, some 17, some 18, some 19, some 20, some 21]) (refs := [[.pre 4], [.res 0], [.res 1], [.res 2, .pre 3], [.res 2, .res 3], [.res 2, .res 4], [.res 5, .pre 4], [.res 5, .pre 0], [.res 5, .res 7], [.res 5, .res 6, .res 8], [.res 2, .res 5, .res 9], [.res 2, .res 10]]) (outs := [.res 11, .pre 1, .pre 2, .pre 3, .pre 4]) (als := [false, false, false, false, false, false, false, false, false, false, false, false]) (posts := [.val (Lit (.int .i64 n)), .val (IsB false), .val (IsB false), .val (Lit (.int .u32 b)), .val (IsB true), .val (IsB true), .val (Lit (.int .i64 n)), .val (Lit (.int .i64 (bitsOf b))), .val (Lit (.int .i64 (65536 / (bitsOf b)))), .val (IsB (decide (65536 / (bitsOf b) < n))), .val (IsB (decide (65536 / (bitsOf b) < n))), .val (IsB (decide (65536 / (bitsOf b) < n)))])
      (out := [(21, .val (IsB (decide (65536 / (bitsOf b) < n)))), (4, .val (IsC 0)), (5, .val (IsB false)), (0, .val (Lit (.int .u32 b))), (1, .val (Lit (.int .i64 n)))]) (nb := []) H2 12 [] rfl (by kernel_rfl) rfl rfl ?_ ?_
    · refine .cons (.plain rfl (ok_move (.tmp 0 rfl))) ?_
      refine .cons (.plain rfl (ok_cmp (b := false) (.tmp 0 rfl) (.lit) ((decide_eq_false ((by omega))).symm))) ?_
      refine .cons (.plain rfl (ok_move (.tmp 0 rfl))) ?_
      refine .cons (.wanted 2 false rfl rfl rfl 0 rfl (ok_move (.tmp 1 rfl))) ?_
      refine .cons (.wanted 2 false rfl rfl rfl 0 rfl (ok_cmp (b := true) (.tmp 1 rfl) (.lit) ((decide_eq_true (c1)).symm))) ?_
      refine .cons (.wanted 2 false rfl rfl rfl 0 rfl (ok_move (.tmp 1 rfl))) ?_
      refine .cons (.wanted 5 true rfl rfl rfl 0 rfl (ok_move (.tmp 1 rfl))) ?_
      refine .cons (.wanted 5 true rfl rfl rfl 0 rfl (ok_move (.tmp 1 rfl))) ?_
      refine .cons (.wanted 5 true rfl rfl rfl 0 rfl (ok_quo (r := (65536 / (bitsOf b))) (.lit) (.tmp 1 rfl) (by omega) (by rw [Int.tdiv_eq_ediv_of_nonneg (by omega)]; exact w_i64 (by omega)))) ?_
      refine .cons (.wanted 5 true rfl rfl rfl 0 rfl (ok_cmp (.tmp 1 rfl) (.tmp 2 rfl) rfl)) ?_
      refine .cons (.wanted 2 false rfl rfl rfl 0 rfl (ok_pickT (.tmp 1 rfl) (.tmp 2 rfl))) ?_
      refine .cons (.plain rfl (ok_pickF (.tmp 0 rfl) (.tmp 1 rfl))) ?_
      exact .nil
    clear H2 a2 w2 B2
    intro a17 w17 B17 H17
    refine ops_done ?_
    refine then_normal ?_
    refine f_cond H17 (.tmp 0 rfl) ?_ ?_
    · intro hc18
      replace hc18 := of_decide_eq_true hc18
      have e2 : false = powOk b n := (decide_eq_false (fun hh => by unfold bitsOf at *; omega)).symm
      have e1 := powNum_no e2
      refine wp_seq ?_
      refine flow_region (dsts := [some 4, some 5]) (refs := [[], []]) (outs := [.res 0, .res 1, .pre 3, .pre 4]) (als := [false, false]) (posts := [.val (IsC 0), .val (IsB false)])
        (out := [(4, .val (IsC 0)), (5, .val (IsB false)), (0, .val (Lit (.int .u32 b))), (1, .val (Lit (.int .i64 n)))]) (nb := []) H17 2 [] rfl (by kernel_rfl) rfl rfl ?_ ?_
      · refine .cons (.plain rfl (ok_assign (.const (fun w B => weakNilM _ w B rfl)))) ?_
        refine .cons (.plain rfl (ok_assign (.lit))) ?_
        exact .nil
      clear H17 a17 w17 B17
      intro a19 w19 B19 H19
      refine ops_done ?_
      refine then_normal ?_
      refine wp_ret ?_
      refine then_ret ?_
      exact f_retN H19 rfl rfl (.tmp 0 rfl (fun v w B h => by exact isC_eq e1 h) (.tmp 1 rfl (fun v w B h => by exact isB_eq e2 h) (.nil)))
    · intro hc18
      replace hc18 := of_decide_eq_false hc18
      have e2 : true = powOk b n := (decide_eq_true (by unfold bitsOf at *; omega)).symm
      have e1 := powNum_ok e2
      have hn6 : n ≤ 65536 := Int.le_trans (Int.not_lt.1 hc18) (Int.ediv_le_self _ (by omega))
      refine wp_skip ?_
      refine then_normal ?_
      refine wp_seq ?_
      refine wp_seq ?_
      refine flow_region (dsts := [some 22, some 23, some 24, some 25, some 26, some 27]) (refs := [[.pre 3], [.res 0], [.res 1], [.res 2], [.res 2], [.res 2]]) (outs := [.res 5, .pre 1, .pre 2, .pre 3, .pre 4]) (als := [false, false, false, false, false, false]) (posts := [.val (Lit (.int .u32 b)), .val (IsB false), .val (IsB false), .val (IsUndef), .val (IsUndef), .val (IsB false)])
        (out := [(27, .val (IsB false)), (4, .val (IsC 0)), (5, .val (IsB false)), (0, .val (Lit (.int .u32 b))), (1, .val (Lit (.int .i64 n)))]) (nb := []) H17 6 [] rfl (by kernel_rfl) rfl rfl ?_ ?_
      · refine .cons (.plain rfl (ok_move (.tmp 0 rfl))) ?_
        refine .cons (.plain rfl (ok_cmp (b := false) (.tmp 0 rfl) (.lit) ((decide_eq_false ((by omega))).symm))) ?_
        refine .cons (.plain rfl (ok_move (.tmp 0 rfl))) ?_
        refine .cons (.unwanted 2 true rfl rfl rfl 0 rfl) ?_
        refine .cons (.unwanted 2 true rfl rfl rfl 0 rfl) ?_
        refine .cons (.plain rfl (ok_pickF (.tmp 0 rfl) (.lit))) ?_
        exact .nil
      clear H17 a17 w17 B17
      intro a20 w20 B20 H20
      refine ops_done ?_
      refine then_normal ?_
      refine f_condF H20 (.tmp 0 rfl) ?_
      refine wp_skip ?_
      refine then_normal ?_
      refine wp_seq ?_
      refine wp_seq ?_
      refine flow_region (dsts := [some 28, some 29]) (refs := [[.pre 3], [.res 0]]) (outs := [.res 1, .pre 1, .pre 2, .pre 3, .pre 4]) (als := [false, false]) (posts := [.val (Lit (.int .u32 b)), .val (IsB false)])
        (out := [(29, .val (IsB false)), (4, .val (IsC 0)), (5, .val (IsB false)), (0, .val (Lit (.int .u32 b))), (1, .val (Lit (.int .i64 n)))]) (nb := []) H20 2 [] rfl (by kernel_rfl) rfl rfl ?_ ?_
      · refine .cons (.plain rfl (ok_move (.tmp 0 rfl))) ?_
        refine .cons (.plain rfl (ok_cmp (b := false) (.tmp 0 rfl) (.lit) ((decide_eq_false ((by omega))).symm))) ?_
        exact .nil
      clear H20 a20 w20 B20
      intro a21 w21 B21 H21
      refine ops_done ?_
      refine then_normal ?_
      refine f_condF H21 (.tmp 0 rfl) ?_
      refine wp_skip ?_
      refine then_normal ?_
      refine wp_seq ?_
      refine flow_region (dsts := [some 30, some 31, some 32, some 4, some 5]) (refs := [[.pre 3], [.pre 4], [.res 0, .res 1], [.res 2], []]) (outs := [.res 3, .res 4]) (als := [false, false, false, false, false]) (posts := [.val (Lit (.int .u32 b)), .val (Lit (.int .i64 n)), .val (IsC (b ^ n.toNat)), .val (IsC (b ^ n.toNat)), .val (IsB true)])
        (out := [(4, .val (IsC (b ^ n.toNat))), (5, .val (IsB true))]) (nb := []) H21 5 [] rfl (by kernel_rfl) rfl rfl ?_ ?_
      · refine .cons (.plain rfl (ok_move (.tmp 0 rfl))) ?_
        refine .cons (.plain rfl (ok_move (.tmp 0 rfl))) ?_
        refine .cons (.plain rfl (ok_call (con_r2power b hb _ n (by omega) rfl (by omega)) (.cons (.tmp 0 rfl) (.cons (.tmp 1 rfl) (.nil))))) ?_
        refine .cons (.plain rfl (ok_assign (.tmp 0 rfl))) ?_
        refine .cons (.plain rfl (ok_assign (.lit))) ?_
        exact .nil
      clear H21 a21 w21 B21
      intro a22 w22 B22 H22
      refine ops_done ?_
      refine then_normal ?_
      refine wp_ret ?_
      exact f_retN H22 rfl rfl (.tmp 0 rfl (fun v w B h => by exact isC_eq e1 h) (.tmp 1 rfl (fun v w B h => by exact isB_eq e2 h) (.nil)))
end Go.Proofs.YtbcbmkeeoognpaaGreatDoor


/- R2off. (Printed by flowfn.py.) -/
namespace Go.Proofs.YtbcbmkeeoognpaaGreatDoor
open Go Go.RowKit

/-- The first i limbs of xs less q * ys, what is borrowed in c. -/
structure OffI (xs ys : List Int) (q : Int) (i : Nat) (c : Int) (X : List Int) : Prop where
  len : X.length = xs.length
  tl : X.drop i = xs.drop i
  dig : Dig 4294967296 X
  cb : 0 ≤ c ∧ c < 4294967296
  eq : low xs i + 4294967296 ^ i * c = q * low ys i + low X i
theorem off_start (xs ys : List Int) (dx : Dig 4294967296 xs) (q : Int) : OffI xs ys q 0 0 xs := ⟨rfl, rfl, dx, by omega, by simp [low, val]⟩
theorem off_step {xs ys X : List Int} (dy : Dig 4294967296 ys) {q : Int} (hq : 0 ≤ q ∧ q < 4294967296) {i : Nat} {c : Int} (hi : i < xs.length) (h : OffI xs ys q i c X) (t u v c2 : Int) (ht : t = ys[i]?.getD 0 * q + c) (hu : u = t % 4294967296)
    (hv : v = if X[i]?.getD 0 < u then X[i]?.getD 0 + 4294967296 - u else X[i]?.getD 0 - u) (hc2 : c2 = if X[i]?.getD 0 < u then t / 4294967296 + 1 else t / 4294967296) :
    OffI xs ys q (i + 1) c2 (X.set i v) ∧ X[i]?.getD 0 = xs[i]?.getD 0 ∧ (0 ≤ v ∧ v < 4294967296) ∧ (0 ≤ t ∧ t < 18446744073709551616) := by
  obtain ⟨hl, htl, hd, hc, he⟩ := h
  have hy := dy.get (by omega) i
  have hx := hd.get (by omega) i
  have hm : ys[i]?.getD 0 * q ≤ 4294967295 * 4294967295 := Int.mul_le_mul (by omega) (by omega) hq.1 (by omega)
  have hm0 : 0 ≤ ys[i]?.getD 0 * q := Int.mul_nonneg hy.1 hq.1
  have e1 : X[i]?.getD 0 = xs[i]?.getD 0 := by
    have := congrArg (fun l => l[0]?.getD 0) htl
    simpa [List.getElem?_drop] using this
  have hvb : 0 ≤ v ∧ v < 4294967296 := by rw [hv]; split <;> omega
  have hiX : i < X.length := by omega
  refine ⟨⟨by rw [List.length_set]; exact hl, ?_, hd.set hvb.1 hvb.2 _, by rw [hc2]; split <;> omega, ?_⟩, e1, hvb, by omega⟩
  · have := congrArg (List.drop 1) htl
    rw [List.drop_drop, List.drop_drop] at this
    rw [List.drop_set_of_lt (by omega)]
    exact this
  · have hls : low (X.set i v) i = low X i := by unfold low; rw [List.take_set_of_le (Nat.le_refl _)]
    rw [low_succ, low_succ, low_succ, hls, List.getElem?_set_self hiX, Option.getD_some, Int.pow_succ, ← e1]
    have ht2 : t = 4294967296 * (t / 4294967296) + u := by rw [hu]; exact (Int.mul_ediv_add_emod _ _).symm
    have key : X[i]?.getD 0 + 4294967296 * c2 = q * ys[i]?.getD 0 + c + v := by
      have e3 : q * ys[i]?.getD 0 = t - c := by rw [ht, Int.mul_comm]; omega
      rw [e3, hc2, hv]
      split <;> omega
    generalize X[i]?.getD 0 = x at *
    generalize ys[i]?.getD 0 = y at *
    generalize (4294967296 : Int) ^ i = P at *
    grind
theorem off_end {xs ys X : List Int} {q : Int} {c : Int} (h : OffI xs ys q xs.length c X) (hl : ys.length ≤ xs.length) (hq : q * val 4294967296 ys ≤ val 4294967296 xs) : val 4294967296 X = val 4294967296 xs - q * val 4294967296 ys := by
  obtain ⟨h1, _, hd, hc, he⟩ := h
  rw [low_all xs _ (Nat.le_refl _), low_all ys _ hl, low_all X _ (by omega)] at he
  have hX := val_lt (b := 4294967296) (by omega) hd
  rw [h1] at hX
  have hp : (0 : Int) < 4294967296 ^ xs.length := Int.pow_pos (by omega)
  have hc0 : c = 0 := by
    rcases Int.lt_or_le 0 c with g | g
    · have := Int.mul_le_mul_of_nonneg_left (show 1 ≤ c by omega) (Int.le_of_lt hp)
      omega
    · omega
  rw [hc0, Int.mul_zero] at he
  omega

theorem limb_run (ys : List Int) (dy : Dig 4294967296 ys) (bd : Option Addr) (n2 c2 : Nat) (i : Nat) (w : World) (hr : Rds w .u32 bd n2 ys) : Calls Tryz.prog 238 #[.slice bd n2 c2, .int .i64 i] w (fun e w' => e = .returned (.int .u64 (ys[i]?.getD 0)) ∧ Below w.heap.size w w') := by
  refine ((con_limb ys dy i (by omega)).calls [.slice bd n2 c2, .int .i64 i] w (fun _ => False) (fun _ h => h.elim) ⟨⟨.inl rfl, bd, n2, c2, rfl, hr⟩, rfl, trivial⟩).mono ?_
  rintro e w' ⟨v, rfl, h, hb⟩
  obtain rfl := h
  exact ⟨rfl, hb⟩
set_option maxHeartbeats 1000000 in
set_option maxRecDepth 20000 in
theorem off_calls (m b n c : Nat) (xs ys : List Int) (bd : Option Addr) (n2 c2 : Nat) (q : Int) (w : World) (hn : n ≤ 140737488355328) (hl : xs.length = n) (ha : App m w 44 .u32 (some ⟨b, 0, none⟩) n c xs) (hr : Rds w .u32 bd n2 ys) (hne : 0 < n2 → blkOf bd ≠ some b) (dx : Dig 4294967296 xs) (dy : Dig 4294967296 ys) (hq : 0 ≤ q ∧ q < 4294967296) :
    Calls Tryz.prog 200 #[.slice (some ⟨b, 0, none⟩) n c, .slice bd n2 c2, .int .u32 q] w (fun e w' => e = .returned (.tuple #[]) ∧ (∃ X cc, App m w' 44 .u32 (some ⟨b, 0, none⟩) n c X ∧ OffI xs ys q n cc X) ∧ w.grownBy w' (some b)) := by
  have HI := Lib.hid (off_start xs ys dx q)
  have HL := Lib.hid hl
  have HN := Lib.hid hne
  have HG := Lib.hid (World.grownBy.refl w (some b))
  have HR := Lib.hid hr
  clear hl hne hr
  go_enter Tryz.func200, Tryz.ntmps200
  go_wp2
  go_loopw [6, 7] (fun cv i wr => ∃ (k : Nat) (cy : Int) (X : List Int), cv = .int .u64 cy ∧ i = .int .i64 k ∧ k ≤ n ∧ Hid (OffI xs ys q k cy X) ∧ App m wr 44 .u32 (some ⟨b, 0, none⟩) n c X ∧ Hid (w.grownBy wr (some b))) (fun _ i _ => n - (intOf i).toNat)
  case atStart => exact ⟨0, 0, xs, rfl, rfl, Nat.zero_le _, HI, ha, HG⟩
  case round =>
    clear ha HI HG
    obtain ⟨k, cy, X, rfl, rfl, hk, hI, hA, hg⟩ := hrel
    by_cases hkn : k < n
    · obtain ⟨tt, htt⟩ : ∃ t, t = ys[k]?.getD 0 * q + cy := ⟨_, rfl⟩
      obtain ⟨q1, q2, q3, q4⟩ := off_step dy hq (by rw [HL.out]; exact hkn) hI.out tt _ _ _ htt rfl rfl rfl
      have hrw : Rds wr .u32 bd n2 ys := HR.out.kept fun h0 b2 hb2 => by
        obtain ⟨a1, e1, hc1⟩ := HR.out.cell 0 h0
        have h2 := World.block_lt_of_cell? w _ hc1
        have e2 : (a1.add 0).block = a1.block := by unfold Addr.add; split <;> rfl
        rw [e2] at h2
        have e3 : a1.block = b2 := by rw [e1] at hb2; injection hb2
        refine hg.out.block b2 (by omega) fun e => HN.out h0 ?_
        injection e with e
        rw [hb2, e]
      have hC := Lib.hid (limb_run ys dy bd n2 c2 k wr hrw)
      clear hrw
      have hXl : X.length = n := by rw [hI.out.len, HL.out]
      have hxb := hI.out.dig.get (by omega) k
      obtain ⟨x, hx⟩ : ∃ x, X[k]?.getD 0 = x := ⟨_, rfl⟩
      obtain ⟨u, hu⟩ : ∃ u, tt % 4294967296 = u := ⟨_, rfl⟩
      obtain ⟨d, hd⟩ : ∃ d, tt / 4294967296 = d := ⟨_, rfl⟩
      rw [hx, hu, hd] at q1
      rw [hx, hu] at q3
      rw [hx] at hxb
      have hub : 0 ≤ u ∧ u < 4294967296 := by omega
      have hdb : 0 ≤ d ∧ d < 4294967297 := by omega
      obtain ⟨y, hy⟩ : ∃ y, ys[k]?.getD 0 = y := ⟨_, rfl⟩
      rw [hy] at hC htt
      have W1 : IntKind.u64.wrap (y * q) = y * q := by
        have := dy.get (by omega) k
        rw [hy] at this
        have h1 : y * q ≤ 4294967295 * 4294967295 := Int.mul_le_mul (by omega) (by omega) hq.1 (by omega)
        have h2 : 0 ≤ y * q := Int.mul_nonneg this.1 hq.1
        exact w_u64 (by omega)
      have W2 : IntKind.u64.wrap (y * q + cy) = tt := by rw [← htt]; exact w_u64 q4
      have HX := Lib.hid hx
      have HU := Lib.hid hu
      have HD := Lib.hid hd
      have HT := Lib.hid htt
      have HXL := Lib.hid hXl
      clear hx htt hy q2 hXl
      go_wp2_with fail
      with_reducible refine (hC.out).mono ?_
      rintro e w2 ⟨rfl, hb2⟩
      clear hC
      have hA2 := hA.below hb2 (Nat.le_refl _)
      obtain ⟨b2, e2, _, hcell, hfree, hset, honly⟩ := hA2.opened (by omega)
      obtain rfl : b = b2 := by injection e2 with e2; injection e2
      have cm := hcell k hkn
      have fm := hfree k
      have sm := fun v => hset k v hkn
      have om := fun v => honly k v
      rw [HX.out] at cm
      have hg2 : Hid (w.grownBy w2 (some b)) := Lib.hid (hg.out.trans ⟨hb2.os, hb2.tape, hb2.output, hb2.size, fun i hi _ => hb2.block i hi⟩)
      clear hA hA2 e2 hcell hfree hset honly hg hb2 hI
      by_cases hlt : x < u
      · rw [if_pos hlt, if_pos hlt] at q1
        rw [if_pos hlt] at q3
        obtain ⟨v, hv⟩ : ∃ v, x + 4294967296 - u = v := ⟨_, rfl⟩
        rw [hv] at q1 q3
        have W3 : IntKind.u64.wrap (x + 4294967296) = x + 4294967296 := w_u64 (by omega)
        have W4 : IntKind.u64.wrap (x + 4294967296 - u) = v := by rw [hv]; exact w_u64 (by omega)
        have W5 : IntKind.u64.wrap (d + 1) = d + 1 := w_u64 (by omega)
        have R1 := sm v
        have O1 := om (.int .u32 v)
        have Q1 := Lib.hid q1
        clear q1 sm om hv
        have hge : ¬ u ≤ x := by omega
        go_wp2_with fail
        go_roundw
        case rel => exact ⟨k + 1, _, _, rfl, by go_num, by omega, Q1, R1, Lib.hid (hg2.out.trans ⟨O1.os, O1.tape, O1.output, Nat.le_of_eq O1.size.symm, fun i hi hne => O1.rest i fun e => hne (by rw [e])⟩)⟩
        case measure => simp [intOf]; omega
      · rw [if_neg hlt, if_neg hlt] at q1
        rw [if_neg hlt] at q3
        obtain ⟨v, hv⟩ : ∃ v, x - u = v := ⟨_, rfl⟩
        rw [hv] at q1 q3
        have W4 : IntKind.u64.wrap (x - u) = v := by rw [hv]; exact w_u64 (by omega)
        have R1 := sm v
        have O1 := om (.int .u32 v)
        have Q1 := Lib.hid q1
        rw [← hd] at Q1
        clear q1 sm om hv
        have hge : u ≤ x := by omega
        go_wp2_with fail
        go_roundw
        case rel => exact ⟨k + 1, _, _, rfl, by go_num, by omega, Q1, R1, Lib.hid (hg2.out.trans ⟨O1.os, O1.tape, O1.output, Nat.le_of_eq O1.size.symm, fun i hi hne => O1.rest i fun e => hne (by rw [e])⟩)⟩
        case measure => simp [intOf]; omega
    · obtain rfl : k = n := by omega
      go_wp2
      go_end0
      exact ⟨rfl, ⟨X, cy, hA, hI.out⟩, hg.out⟩
end Go.Proofs.YtbcbmkeeoognpaaGreatDoor


/- R2digit. (Printed by flowfn.py.) -/
namespace Go.Proofs.YtbcbmkeeoognpaaGreatDoor
open Go Go.RowKit

set_option maxRecDepth 20000 in
set_option maxHeartbeats 2000000 in
theorem con_digit (xs ys : List Int) (dx : Dig 4294967296 xs) (dy : Dig 4294967296 ys) (hx : xs.length ≤ 1099511627776) (hy : ys.length ≤ 1099511627776) (hne : ys ≠ []) (htp : 0 < ys[ys.length - 1]?.getD 0) (hxy : xs.length ≤ ys.length + 1) (hlt : val 4294967296 xs < val 4294967296 ys * 4294967296) : Con Tryz.prog 199 [IsL .u32 xs, IsL .u32 ys] (Lit (.int .u32 (val 4294967296 xs / val 4294967296 ys))) := by
  refine f_enter (N := 57) Tryz.ntmps199 (fun _ _ => by go_simp) Tryz.func199 rfl (by simp) ?_
  intro a0 w0 B0 H0
  replace H0 : St 57 w0 B0 a0 w0 B0 [(0, .val (IsL .u32 xs)), (1, .val (IsL .u32 ys))] [] := H0
  obtain ⟨m, hm⟩ : ∃ m, ys.length = m := ⟨_, rfl⟩
  have hm0 : 0 < m := by rw [← hm]; exact List.length_pos_iff.2 hne
  have hT := top_two xs dx m hm0 (by omega)
  have hU := top_one ys dy m hm0 hm
  have b1 := dx.get (by omega) m
  have b2 := dx.get (by omega) (m - 1)
  have b3 := dy.get (by omega) (m - 1)
  have htop : 0 < ys[m - 1]?.getD 0 := by rw [← hm]; exact htp
  have hE := digit_est _ _ _ _ _ _ _ (Int.pow_pos (by omega)) (by omega) htop (low_lt xs dx (m - 1)) (low_lt ys dy (m - 1)) hT hU
  obtain ⟨d, hd⟩ : ∃ d, val 4294967296 xs / val 4294967296 ys = d := ⟨_, rfl⟩
  have hU0 : 0 < val 4294967296 ys := by have := val_nonneg (b := 4294967296) (by omega) dx; omega
  have hdB : d < 4294967296 := by rw [← hd]; exact Int.ediv_lt_of_lt_mul hU0 (by rw [Int.mul_comm]; exact hlt)
  have hd0 : 0 ≤ d := by rw [← hd]; exact Int.ediv_nonneg (val_nonneg (by omega) dx) (by omega)
  rw [hd] at hE
  have hfit : ∀ q : Int, q * val 4294967296 ys ≤ val 4294967296 xs ↔ q ≤ d := fun q => by rw [← hd]; exact (Int.le_ediv_iff_mul_le hU0).symm
  clear hT hU
  refine wp_seq ?_
  refine flow_region (dsts := [some 4]) (refs := [[]]) (outs := [.res 0, .pre 0, .pre 1]) (als := [false]) (posts := [.val (Lit (.int .u32 0))])
    (out := [(4, .val (Lit (.int .u32 0))), (0, .val (IsL .u32 xs)), (1, .val (IsL .u32 ys))]) (nb := []) H0 1 [] rfl (by kernel_rfl) rfl rfl ?_ ?_
  · refine .cons (.plain rfl (ok_assign (.lit))) ?_
    exact .nil
  clear H0
  intro a1 w1 B1 H1
  refine ops_done ?_
  refine then_normal ?_
  refine wp_seq ?_
  refine flow_region (dsts := [some 10, some 11, some 5]) (refs := [[.pre 2], [.res 0], [.res 1]]) (outs := [.res 2, .pre 0, .pre 1, .pre 2]) (als := [false, false, false]) (posts := [.val (IsL .u32 ys), .val (Lit (.int .i64 (List.length ys : Int))), .val (Lit (.int .i64 (List.length ys : Int)))])
    (out := [(5, .val (Lit (.int .i64 (List.length ys : Int)))), (4, .val (Lit (.int .u32 0))), (0, .val (IsL .u32 xs)), (1, .val (IsL .u32 ys))]) (nb := []) H1 3 [] rfl (by kernel_rfl) rfl rfl ?_ ?_
  · refine .cons (.plain rfl (ok_move (.tmp 0 rfl))) ?_
    refine .cons (.plain rfl (ok_lenL Tryz.underlying23 (.tmp 0 rfl))) ?_
    refine .cons (.plain rfl (ok_assign (.tmp 0 rfl))) ?_
    exact .nil
  clear H1 a1 w1 B1
  intro a2 w2 B2 H2
  refine ops_done ?_
  refine then_normal ?_
  refine wp_seq ?_
  have H3 := St.set1 H2 0 (D' := Lit (.int .i64 (m : Int))) rfl (fun v w B h => lit_int (by rw [hm]) h) (l' := [(5, .val (Lit (.int .i64 (m : Int)))), (4, .val (Lit (.int .u32 0))), (0, .val (IsL .u32 xs)), (1, .val (IsL .u32 ys))]) rfl
  clear H2
  refine flow_region (dsts := [some 12, some 13, some 14, some 15, some 16, some 17, some 18, some 19, some 20, some 6]) (refs := [[.pre 2], [.pre 0], [.res 0, .res 1], [.res 2], [.pre 2], [.pre 0], [.res 5], [.res 4, .res 6], [.res 3, .res 7], [.res 8]]) (outs := [.res 9, .pre 0, .pre 1, .pre 2, .pre 3]) (als := [false, false, false, false, false, false, false, false, false, false]) (posts := [.val (IsL .u32 xs), .val (Lit (.int .i64 (m : Int))), .val (Lit (.int .u64 (xs[m]?.getD 0))), .val (Lit (.int .u64 ((xs[m]?.getD 0) * 4294967296))), .val (IsL .u32 xs), .val (Lit (.int .i64 (m : Int))), .val (Lit (.int .i64 ((m : Int) - 1))), .val (Lit (.int .u64 (xs[m - 1]?.getD 0))), .val (Lit (.int .u64 (((xs[m]?.getD 0) * 4294967296) + (xs[m - 1]?.getD 0)))), .val (Lit (.int .u64 (((xs[m]?.getD 0) * 4294967296) + (xs[m - 1]?.getD 0))))])
    (out := [(6, .val (Lit (.int .u64 (((xs[m]?.getD 0) * 4294967296) + (xs[m - 1]?.getD 0))))), (5, .val (Lit (.int .i64 (m : Int)))), (4, .val (Lit (.int .u32 0))), (0, .val (IsL .u32 xs)), (1, .val (IsL .u32 ys))]) (nb := []) H3 10 [] rfl (by kernel_rfl) rfl rfl ?_ ?_
  · refine .cons (.plain rfl (ok_move (.tmp 0 rfl))) ?_
    refine .cons (.plain rfl (ok_move (.tmp 0 rfl))) ?_
    refine .cons (.plain rfl (ok_call ((con_limb xs dx (m : Int) (by omega)).weak (fun v w B h => lit_int (by rw [show ((m : Int)).toNat = m by omega]) h)) (.cons (.tmp 0 rfl) (.cons (.tmp 1 rfl) (.nil))))) ?_
    refine .cons (.plain rfl (ok_mul (r := ((xs[m]?.getD 0) * 4294967296)) (.tmp 0 rfl) (.lit) (w_u64 (by omega)))) ?_
    refine .cons (.plain rfl (ok_move (.tmp 0 rfl))) ?_
    refine .cons (.plain rfl (ok_move (.tmp 0 rfl))) ?_
    refine .cons (.plain rfl (ok_sub (r := ((m : Int) - 1)) (.tmp 0 rfl) (.lit) (w_i64 (by omega)))) ?_
    refine .cons (.plain rfl (ok_call ((con_limb xs dx ((m : Int) - 1) (by omega)).weak (fun v w B h => lit_int (by rw [show ((m : Int) - 1).toNat = m - 1 by omega]) h)) (.cons (.tmp 0 rfl) (.cons (.tmp 1 rfl) (.nil))))) ?_
    refine .cons (.plain rfl (ok_add (r := (((xs[m]?.getD 0) * 4294967296) + (xs[m - 1]?.getD 0))) (.tmp 0 rfl) (.tmp 1 rfl) (w_u64 (by omega)))) ?_
    refine .cons (.plain rfl (ok_assign (.tmp 0 rfl))) ?_
    exact .nil
  clear H3 a2 w2 B2
  intro a4 w4 B4 H4
  refine ops_done ?_
  refine then_normal ?_
  refine wp_seq ?_
  refine flow_region (dsts := [some 21, some 22, some 23, some 24, some 25, some 26, some 27, some 28, some 29, some 7]) (refs := [[.pre 0], [.pre 4], [.pre 1], [.res 2], [.res 1, .res 3], [.res 4], [.res 5], [.res 6], [.res 0, .res 7], [.res 8]]) (outs := [.res 9, .pre 0, .pre 1, .pre 2, .pre 3, .pre 4]) (als := [false, false, false, false, false, false, false, false, false, false]) (posts := [.val (Lit (.int .u64 (((xs[m]?.getD 0) * 4294967296) + (xs[m - 1]?.getD 0)))), .val (IsL .u32 ys), .val (Lit (.int .i64 (m : Int))), .val (Lit (.int .i64 ((m : Int) - 1))), .val (IsCell .u32 (ys[m - 1]?.getD 0)), .val (Lit (.int .u32 (ys[m - 1]?.getD 0))), .val (Lit (.int .u64 (ys[m - 1]?.getD 0))), .val (Lit (.int .u64 ((ys[m - 1]?.getD 0) + 1))), .val (Lit (.int .u64 ((((xs[m]?.getD 0) * 4294967296) + (xs[m - 1]?.getD 0)) / ((ys[m - 1]?.getD 0) + 1)))), .val (Lit (.int .u64 ((((xs[m]?.getD 0) * 4294967296) + (xs[m - 1]?.getD 0)) / ((ys[m - 1]?.getD 0) + 1))))])
    (out := [(7, .val (Lit (.int .u64 ((((xs[m]?.getD 0) * 4294967296) + (xs[m - 1]?.getD 0)) / ((ys[m - 1]?.getD 0) + 1))))), (6, .val (Lit (.int .u64 (((xs[m]?.getD 0) * 4294967296) + (xs[m - 1]?.getD 0))))), (5, .val (Lit (.int .i64 (m : Int)))), (4, .val (Lit (.int .u32 0))), (0, .val (IsL .u32 xs)), (1, .val (IsL .u32 ys))]) (nb := []) H4 10 [] rfl (by kernel_rfl) rfl rfl ?_ ?_
  · refine .cons (.plain rfl (ok_move (.tmp 0 rfl))) ?_
    refine .cons (.plain rfl (ok_move (.tmp 0 rfl))) ?_
    refine .cons (.plain rfl (ok_move (.tmp 0 rfl))) ?_
    refine .cons (.plain rfl (ok_sub (r := ((m : Int) - 1)) (.tmp 0 rfl) (.lit) (w_i64 (by omega)))) ?_
    refine .cons (.plain rfl (ok_idxL (xs := ys) (m - 1) Tryz.underlying23 size32 (.tmp 0 rfl) (.tmp 1 rfl) (by omega) (by omega))) ?_
    refine .cons (.plain rfl (ok_loadCell aggU32 (.tmp 0 rfl))) ?_
    refine .cons (.plain rfl (ok_conv Tryz.underlying44 Tryz.underlying49 (r := (ys[m - 1]?.getD 0)) (.tmp 0 rfl) (w_u64 (by omega)))) ?_
    refine .cons (.plain rfl (ok_add (r := ((ys[m - 1]?.getD 0) + 1)) (.tmp 0 rfl) (.lit) (w_u64 (by omega)))) ?_
    refine .cons (.plain rfl (ok_quo (r := ((((xs[m]?.getD 0) * 4294967296) + (xs[m - 1]?.getD 0)) / ((ys[m - 1]?.getD 0) + 1))) (.tmp 0 rfl) (.tmp 1 rfl) (by omega) (by rw [Int.tdiv_eq_ediv_of_nonneg (by omega)]; exact w_u64 ⟨Int.ediv_nonneg (by omega) (by omega), Int.lt_of_le_of_lt hE.1 (by omega)⟩))) ?_
    refine .cons (.plain rfl (ok_assign (.tmp 0 rfl))) ?_
    exact .nil
  clear H4 a4 w4 B4
  intro a5 w5 B5 H5
  refine ops_done ?_
  refine then_normal ?_
  refine wp_seq ?_
  refine flow_region (dsts := [some 30, some 31, some 32, some 33, some 34, some 35, some 36, some 37, some 38, some 8]) (refs := [[.pre 1], [.pre 5], [.pre 2], [.res 2], [.res 1, .res 3], [.res 4], [.res 5], [.res 0, .res 6], [.res 7], [.res 8]]) (outs := [.res 9, .pre 0, .pre 3, .pre 4, .pre 5]) (als := [false, false, false, false, false, false, false, false, false, false]) (posts := [.val (Lit (.int .u64 (((xs[m]?.getD 0) * 4294967296) + (xs[m - 1]?.getD 0)))), .val (IsL .u32 ys), .val (Lit (.int .i64 (m : Int))), .val (Lit (.int .i64 ((m : Int) - 1))), .val (IsCell .u32 (ys[m - 1]?.getD 0)), .val (Lit (.int .u32 (ys[m - 1]?.getD 0))), .val (Lit (.int .u64 (ys[m - 1]?.getD 0))), .val (Lit (.int .u64 ((((xs[m]?.getD 0) * 4294967296) + (xs[m - 1]?.getD 0)) / (ys[m - 1]?.getD 0)))), .val (Lit (.int .u64 (if 4294967295 < (((xs[m]?.getD 0) * 4294967296) + (xs[m - 1]?.getD 0)) / (ys[m - 1]?.getD 0) then 4294967295 else (((xs[m]?.getD 0) * 4294967296) + (xs[m - 1]?.getD 0)) / (ys[m - 1]?.getD 0)))), .val (Lit (.int .u64 (if 4294967295 < (((xs[m]?.getD 0) * 4294967296) + (xs[m - 1]?.getD 0)) / (ys[m - 1]?.getD 0) then 4294967295 else (((xs[m]?.getD 0) * 4294967296) + (xs[m - 1]?.getD 0)) / (ys[m - 1]?.getD 0))))])
    (out := [(8, .val (Lit (.int .u64 (if 4294967295 < (((xs[m]?.getD 0) * 4294967296) + (xs[m - 1]?.getD 0)) / (ys[m - 1]?.getD 0) then 4294967295 else (((xs[m]?.getD 0) * 4294967296) + (xs[m - 1]?.getD 0)) / (ys[m - 1]?.getD 0))))), (7, .val (Lit (.int .u64 ((((xs[m]?.getD 0) * 4294967296) + (xs[m - 1]?.getD 0)) / ((ys[m - 1]?.getD 0) + 1))))), (4, .val (Lit (.int .u32 0))), (0, .val (IsL .u32 xs)), (1, .val (IsL .u32 ys))]) (nb := []) H5 10 [] rfl (by kernel_rfl) rfl rfl ?_ ?_
  · refine .cons (.plain rfl (ok_move (.tmp 0 rfl))) ?_
    refine .cons (.plain rfl (ok_move (.tmp 0 rfl))) ?_
    refine .cons (.plain rfl (ok_move (.tmp 0 rfl))) ?_
    refine .cons (.plain rfl (ok_sub (r := ((m : Int) - 1)) (.tmp 0 rfl) (.lit) (w_i64 (by omega)))) ?_
    refine .cons (.plain rfl (ok_idxL (xs := ys) (m - 1) Tryz.underlying23 size32 (.tmp 0 rfl) (.tmp 1 rfl) (by omega) (by omega))) ?_
    refine .cons (.plain rfl (ok_loadCell aggU32 (.tmp 0 rfl))) ?_
    refine .cons (.plain rfl (ok_conv Tryz.underlying44 Tryz.underlying49 (r := (ys[m - 1]?.getD 0)) (.tmp 0 rfl) (w_u64 (by omega)))) ?_
    refine .cons (.plain rfl (ok_quo (r := ((((xs[m]?.getD 0) * 4294967296) + (xs[m - 1]?.getD 0)) / (ys[m - 1]?.getD 0))) (.tmp 0 rfl) (.tmp 1 rfl) (by omega) (by rw [Int.tdiv_eq_ediv_of_nonneg (by omega)]; exact w_u64 ⟨Int.ediv_nonneg (by omega) (by omega), Int.lt_of_le_of_lt (Int.ediv_le_self _ (by omega)) (by omega)⟩))) ?_
    refine .cons (.plain rfl (ok_min (.tmp 0 rfl) (.lit))) ?_
    refine .cons (.plain rfl (ok_assign (.tmp 0 rfl))) ?_
    exact .nil
  clear H5 a5 w5 B5
  intro a6 w6 B6 H6
  refine ops_done ?_
  refine then_normal ?_
  refine wp_seq ?_
  refine wp_block ?_
  refine f_loop (fun (⟨lo, hi⟩ : Int × Int) => [(8, .val (Lit (.int .u64 hi))), (7, .val (Lit (.int .u64 lo))), (4, .val (Lit (.int .u32 0))), (0, .val (IsL .u32 xs)), (1, .val (IsL .u32 ys))]) (fun (⟨lo, hi⟩ : Int × Int) => 0 ≤ lo ∧ lo ≤ d ∧ d ≤ hi ∧ hi ≤ 4294967295) (fun (⟨lo, hi⟩ : Int × Int) => (hi - lo).toNat) (⟨(((xs[m]?.getD 0) * 4294967296) + (xs[m - 1]?.getD 0)) / ((ys[m - 1]?.getD 0) + 1), if 4294967295 < (((xs[m]?.getD 0) * 4294967296) + (xs[m - 1]?.getD 0)) / (ys[m - 1]?.getD 0) then 4294967295 else (((xs[m]?.getD 0) * 4294967296) + (xs[m - 1]?.getD 0)) / (ys[m - 1]?.getD 0)⟩) (St.pick H6 [0, 1, 2, 3, 4] rfl) (by exact ⟨Int.ediv_nonneg (by omega) (by omega), hE.1, by split <;> omega, by split <;> omega⟩) ?_
  clear H6 a6 w6 B6
  rintro ⟨lo, hi⟩ a7 w7 B7 hI7 H7
  replace hI7 : 0 ≤ lo ∧ lo ≤ d ∧ d ≤ hi ∧ hi ≤ 4294967295 := hI7
  replace H7 : St 57 w0 B0 a7 w7 B7 [(8, .val (Lit (.int .u64 hi))), (7, .val (Lit (.int .u64 lo))), (4, .val (Lit (.int .u32 0))), (0, .val (IsL .u32 xs)), (1, .val (IsL .u32 ys))] [] := H7
  obtain ⟨i0, i1, i2, i3⟩ := hI7
  refine wp_seq ?_
  refine wp_seq ?_
  refine flow_region (dsts := [some 39, some 40, some 41]) (refs := [[.pre 1], [.pre 0], [.res 0, .res 1]]) (outs := [.res 2, .pre 0, .pre 1, .pre 2, .pre 3, .pre 4]) (als := [false, false, false]) (posts := [.val (Lit (.int .u64 lo)), .val (Lit (.int .u64 hi)), .val (IsB (decide (lo < hi)))])
    (out := [(41, .val (IsB (decide (lo < hi)))), (8, .val (Lit (.int .u64 hi))), (7, .val (Lit (.int .u64 lo))), (4, .val (Lit (.int .u32 0))), (0, .val (IsL .u32 xs)), (1, .val (IsL .u32 ys))]) (nb := []) H7 3 [] rfl (by kernel_rfl) rfl rfl ?_ ?_
  · refine .cons (.plain rfl (ok_move (.tmp 0 rfl))) ?_
    refine .cons (.plain rfl (ok_move (.tmp 0 rfl))) ?_
    refine .cons (.plain rfl (ok_cmp (.tmp 0 rfl) (.tmp 1 rfl) rfl)) ?_
    exact .nil
  clear H7 a7 w7 B7
  intro a8 w8 B8 H8
  refine ops_done ?_
  refine then_normal ?_
  refine f_cond H8 (.tmp 0 rfl) ?_ ?_
  · intro hc9
    replace hc9 := of_decide_eq_true hc9
    refine wp_skip ?_
    refine then_normal ?_
    refine wp_block ?_
    refine wp_seq ?_
    refine flow_region (dsts := [some 42, some 43, some 44, some 45, some 46, some 9]) (refs := [[.pre 2], [.pre 1], [.res 0, .res 1], [.res 2], [.res 3], [.res 4]]) (outs := [.res 5, .pre 1, .pre 2, .pre 3, .pre 4, .pre 5]) (als := [false, false, false, false, false, false]) (posts := [.val (Lit (.int .u64 lo)), .val (Lit (.int .u64 hi)), .val (Lit (.int .u64 (lo + hi))), .val (Lit (.int .u64 ((lo + hi) + 1))), .val (Lit (.int .u64 (((lo + hi) + 1) / 2))), .val (Lit (.int .u64 (((lo + hi) + 1) / 2)))])
      (out := [(9, .val (Lit (.int .u64 (((lo + hi) + 1) / 2)))), (8, .val (Lit (.int .u64 hi))), (7, .val (Lit (.int .u64 lo))), (4, .val (Lit (.int .u32 0))), (0, .val (IsL .u32 xs)), (1, .val (IsL .u32 ys))]) (nb := []) H8 6 [] rfl (by kernel_rfl) rfl rfl ?_ ?_
    · refine .cons (.plain rfl (ok_move (.tmp 0 rfl))) ?_
      refine .cons (.plain rfl (ok_move (.tmp 0 rfl))) ?_
      refine .cons (.plain rfl (ok_add (r := (lo + hi)) (.tmp 0 rfl) (.tmp 1 rfl) (w_u64 (by omega)))) ?_
      refine .cons (.plain rfl (ok_add (r := ((lo + hi) + 1)) (.tmp 0 rfl) (.lit) (w_u64 (by omega)))) ?_
      refine .cons (.plain rfl (ok_quo (r := (((lo + hi) + 1) / 2)) (.tmp 0 rfl) (.lit) (by omega) (by rw [Int.tdiv_eq_ediv_of_nonneg (by omega)]; exact w_u64 (by omega)))) ?_
      refine .cons (.plain rfl (ok_assign (.tmp 0 rfl))) ?_
      exact .nil
    clear H8 a8 w8 B8
    intro a10 w10 B10 H10
    refine ops_done ?_
    refine then_normal ?_
    refine wp_seq ?_
    refine flow_region (dsts := [some 47, some 48, some 49, some 50, some 51]) (refs := [[.pre 4], [.pre 5], [.pre 0], [.res 2], [.res 0, .res 1, .res 3]]) (outs := [.res 4, .pre 0, .pre 1, .pre 2, .pre 3, .pre 4, .pre 5]) (als := [false, false, false, false, false]) (posts := [.val (IsL .u32 xs), .val (IsL .u32 ys), .val (Lit (.int .u64 (((lo + hi) + 1) / 2))), .val (Lit (.int .u32 (((lo + hi) + 1) / 2))), .val (IsB (decide ((((lo + hi) + 1) / 2) * val 4294967296 ys ≤ val 4294967296 xs)))])
      (out := [(51, .val (IsB (decide ((((lo + hi) + 1) / 2) * val 4294967296 ys ≤ val 4294967296 xs)))), (9, .val (Lit (.int .u64 (((lo + hi) + 1) / 2)))), (8, .val (Lit (.int .u64 hi))), (7, .val (Lit (.int .u64 lo))), (4, .val (Lit (.int .u32 0))), (0, .val (IsL .u32 xs)), (1, .val (IsL .u32 ys))]) (nb := []) H10 5 [] rfl (by kernel_rfl) rfl rfl ?_ ?_
    · refine .cons (.plain rfl (ok_move (.tmp 0 rfl))) ?_
      refine .cons (.plain rfl (ok_move (.tmp 0 rfl))) ?_
      refine .cons (.plain rfl (ok_move (.tmp 0 rfl))) ?_
      refine .cons (.plain rfl (ok_conv Tryz.underlying49 Tryz.underlying44 (r := (((lo + hi) + 1) / 2)) (.tmp 0 rfl) (w_u32 (by omega)))) ?_
      refine .cons (.plain rfl (ok_call (con_fits xs ys dx dy (by omega) (by omega) (((lo + hi) + 1) / 2) (by omega)) (.cons (.tmp 0 rfl) (.cons (.tmp 1 rfl) (.cons (.tmp 2 rfl) (.nil)))))) ?_
      exact .nil
    clear H10 a10 w10 B10
    intro a11 w11 B11 H11
    refine ops_done ?_
    refine then_normal ?_
    refine f_cond H11 (.tmp 0 rfl) ?_ ?_
    · intro hc12
      replace hc12 := of_decide_eq_true hc12
      have hq := (hfit _).1 hc12
      refine flow_region (dsts := [some 52, some 7]) (refs := [[.pre 1], [.res 0]]) (outs := [.res 1, .pre 1, .pre 2, .pre 4, .pre 5, .pre 6]) (als := [false, false]) (posts := [.val (Lit (.int .u64 (((lo + hi) + 1) / 2))), .val (Lit (.int .u64 (((lo + hi) + 1) / 2)))])
        (out := [(7, .val (Lit (.int .u64 (((lo + hi) + 1) / 2)))), (9, .val (Lit (.int .u64 (((lo + hi) + 1) / 2)))), (8, .val (Lit (.int .u64 hi))), (4, .val (Lit (.int .u32 0))), (0, .val (IsL .u32 xs)), (1, .val (IsL .u32 ys))]) (nb := []) H11 2 [] rfl (by kernel_rfl) rfl rfl ?_ ?_
      · refine .cons (.plain rfl (ok_move (.tmp 0 rfl))) ?_
        refine .cons (.plain rfl (ok_assign (.tmp 0 rfl))) ?_
        exact .nil
      clear H11 a11 w11 B11
      intro a13 w13 B13 H13
      refine ops_done ?_
      refine block_normal ?_
      exact ⟨⟨((lo + hi) + 1) / 2, hi⟩, B13, by exact ⟨by omega, by omega, by omega, by omega⟩, St.pick H13 [2, 0, 3, 4, 5] rfl, by show (_ - _ : Int).toNat < (hi - lo).toNat; omega⟩
    · intro hc12
      replace hc12 := of_decide_eq_false hc12
      have hq : ¬ _ ≤ d := fun g => hc12 ((hfit _).2 g)
      refine flow_region (dsts := [some 53, some 54, some 8]) (refs := [[.pre 1], [.res 0], [.res 1]]) (outs := [.res 2, .pre 3, .pre 4, .pre 5, .pre 6]) (als := [false, false, false]) (posts := [.val (Lit (.int .u64 (((lo + hi) + 1) / 2))), .val (Lit (.int .u64 ((((lo + hi) + 1) / 2) - 1))), .val (Lit (.int .u64 ((((lo + hi) + 1) / 2) - 1)))])
        (out := [(8, .val (Lit (.int .u64 ((((lo + hi) + 1) / 2) - 1)))), (7, .val (Lit (.int .u64 lo))), (4, .val (Lit (.int .u32 0))), (0, .val (IsL .u32 xs)), (1, .val (IsL .u32 ys))]) (nb := []) H11 3 [] rfl (by kernel_rfl) rfl rfl ?_ ?_
      · refine .cons (.plain rfl (ok_move (.tmp 0 rfl))) ?_
        refine .cons (.plain rfl (ok_sub (r := ((((lo + hi) + 1) / 2) - 1)) (.tmp 0 rfl) (.lit) (w_u64 (by omega)))) ?_
        refine .cons (.plain rfl (ok_assign (.tmp 0 rfl))) ?_
        exact .nil
      clear H11 a11 w11 B11
      intro a14 w14 B14 H14
      refine ops_done ?_
      refine block_normal ?_
      exact ⟨⟨lo, (((lo + hi) + 1) / 2) - 1⟩, B14, by exact ⟨by omega, by omega, by omega, by omega⟩, St.pick H14 [0, 1, 2, 3, 4] rfl, by show (_ - _ : Int).toNat < (hi - lo).toNat; omega⟩
  · intro hc9
    replace hc9 := of_decide_eq_false hc9
    refine wp_exit ?_
    refine then_exit ?_
    refine then_exit ?_
    refine block_exit ?_
    refine then_normal ?_
    refine wp_seq ?_
    refine flow_region (dsts := [some 55, some 56, some 4]) (refs := [[.pre 2], [.res 0], [.res 1]]) (outs := [.res 2, .pre 1, .pre 2, .pre 4, .pre 5]) (als := [false, false, false]) (posts := [.val (Lit (.int .u64 lo)), .val (Lit (.int .u32 lo)), .val (Lit (.int .u32 lo))])
      (out := [(4, .val (Lit (.int .u32 lo))), (8, .val (Lit (.int .u64 hi))), (7, .val (Lit (.int .u64 lo))), (0, .val (IsL .u32 xs)), (1, .val (IsL .u32 ys))]) (nb := []) H8 3 [] rfl (by kernel_rfl) rfl rfl ?_ ?_
    · refine .cons (.plain rfl (ok_move (.tmp 0 rfl))) ?_
      refine .cons (.plain rfl (ok_conv Tryz.underlying49 Tryz.underlying44 (r := lo) (.tmp 0 rfl) (w_u32 (by omega)))) ?_
      refine .cons (.plain rfl (ok_assign (.tmp 0 rfl))) ?_
      exact .nil
    clear H8 a8 w8 B8
    intro a15 w15 B15 H15
    refine ops_done ?_
    refine then_normal ?_
    refine wp_ret ?_
    exact f_ret H15 rfl 0 rfl (fun v w B h => by refine lit_int ?_ h; rw [hd]; omega)
end Go.Proofs.YtbcbmkeeoognpaaGreatDoor

