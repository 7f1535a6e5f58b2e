/- Contracts of functions, and plain facts, part 38. -/
import Derived.Test.YtoimhjcpeifegaaGreatDoorPk37
set_option linter.unusedVariables false
set_option linter.unusedSimpArgs false
/- VBits. (Printed by flow15.py.) -/
namespace Go.Proofs.YtoimhjcpeifegaaGreatDoor
open Go Go.RowKit

theorem toW_bd2 {V : Nat} (hV : Wide V) (W : Nat) (x : Int) : 0 ≤ (toW V W x).1 ∧ (toW V W x).1 < 2 ^ V := by
  have h1 := inf_fits hV
  have h2 := pow_wide hV
  have h3 := roundW_bd hV (pNeg W x) (pM W x) (pE W x) false
  unfold toW
  split
  · dsimp only; omega
  · split
    · dsimp only; split <;> omega
    · exact h3
theorem bits_bd (z : NV) (hz : okNV z) : 0 ≤ (bitsO (whatV z)).1 ∧ (bitsO (whatV z)).1 < 18446744073709551616 := by
  cases z with
  | int X =>
    have h3 := roundW_bd (W := 64) (by unfold Wide; omega) (decide (X < 0)) X.natAbs 0 false
    show 0 ≤ (bitsO (.exact X)).1 ∧ (bitsO (.exact X)).1 < 18446744073709551616
    by_cases hq : (fromW 64 X).2 = true
    · rw [bits_yes hq]; exact h3
    · rw [bits_no (by simpa using hq)]; dsimp only; omega
  | flt b =>
    have hb := hz.1
    show 0 ≤ (bitsO (oneF b)).1 ∧ (bitsO (oneF b)).1 < 18446744073709551616
    unfold oneF
    by_cases h1 : clsW 64 b = 4
    · rw [if_pos h1]; exact hb
    · by_cases h2 : clsW 64 b = 5
      · rw [if_neg h1, if_pos h2]; exact hb
      · rw [if_neg h1, if_neg h2]; exact hb
/-- The narrowest pattern of a number whose pattern is p. -/
noncomputable def narrowP (p : Int × Bool) : Int × Int × Bool := if p.2 = true then (if (toW 16 64 p.1).2 = true then (16, (toW 16 64 p.1).1, true) else if (toW 32 64 p.1).2 = true then (32, (toW 32 64 p.1).1, true) else (64, p.1, true)) else (0, 0, false)
def sideI (b : Int) : Int := if b / 9223372036854775808 = 1 then -1 else 1
/-- A finite number as m times 2 to the power of e. -/
noncomputable def partN : One → Int
  | .exact X => X
  | .broken b => sI (pNeg 64 b) (pM 64 b)
  | _ => 0
noncomputable def partE : One → Int
  | .broken b => pE 64 b
  | _ => 0
theorem weakSgM {X : Int} (n : Nat) (v : Value) (w : World) (B : Bx) (h : (IsSg X).p v w B) : (IsSg (X * 2 ^ n)).p v w B := by
  obtain ⟨ng, e, hX⟩ := h
  refine ⟨ng, e, ?_⟩
  have hp : ((2 : Int) ^ n).natAbs = 2 ^ n := by rw [Int.natAbs_pow]; rfl
  rw [Int.natAbs_mul, Int.natCast_mul, hp]
  have h2 : ((2 ^ n : Nat) : Int) = 2 ^ n := by simp
  rw [h2]
  unfold sI at *
  generalize (2 : Int) ^ n = P at *
  split at hX
  · next hn => rw [if_pos hn, ← Int.neg_mul, ← hX]
  · next hn => rw [if_neg hn, ← hX]
theorem shl_small (X n : Int) (hX : -18446744073709551616 < X ∧ X < 18446744073709551616) (hn : 0 ≤ n ∧ n ≤ 4096) : shlNum (X.natAbs : Int) n = ((X * 2 ^ n.toNat).natAbs : Int) ∧ Fits (shlNum (X.natAbs : Int) n) := by
  have hb : blen (X.natAbs : Int).toNat ≤ 64 := blen_limbs _ 2 (by omega) (by rw [show (4294967296 : Int) ^ 2 = 18446744073709551616 from by decide]; omega)
  have hok : shlOk (X.natAbs : Int) n = true := decide_eq_true ⟨hn.1, .inr (by omega)⟩
  have e : shlNum (X.natAbs : Int) n = ((X * 2 ^ n.toNat).natAbs : Int) := by
    unfold shlNum
    rw [if_pos hok, Int.natAbs_mul, Int.natCast_mul, Int.natAbs_pow]
    simp
  refine ⟨e, ⟨131, by have := lim_eq; omega, ?_⟩⟩
  unfold shlNum
  rw [if_pos hok]
  unfold FitK
  have h1 : (2 : Int) ^ n.toNat ≤ 2 ^ 4096 := pow_le (by omega) (by omega)
  have h2 : ((X.natAbs : Int)) * 2 ^ n.toNat ≤ 18446744073709551616 * 2 ^ 4096 := Int.mul_le_mul (by omega) h1 (Int.pow_nonneg (by omega)) (by omega)
  have h3 : 0 ≤ ((X.natAbs : Int)) * 2 ^ n.toNat := Int.mul_nonneg (by omega) (Int.pow_nonneg (by omega))
  have h4 : (18446744073709551616 : Int) * 2 ^ 4096 < 4294967296 ^ 131 := by decide +kernel
  omega
theorem isC_e {a b : Int} (e : a = b) {v : Value} {w : World} {B : Bx} (h : (IsC a).p v w B) : (IsC b).p v w B := e ▸ h

set_option maxRecDepth 20000 in
set_option maxHeartbeats 2000000 in
theorem con_nbits (z : NV) (hz : okNV z) : ConE Tryz.prog 29 [IsNum z] (Tup [Lit (.int .u64 (bitsO (whatV z)).1), IsB (bitsO (whatV z)).2]) := by
  refine f_enterE (N := 13) Tryz.ntmps29 (fun _ _ => by go_simp) Tryz.func29 rfl (by simp) ?_
  intro a0 w0 B0 H0
  replace H0 : St 13 w0 B0 a0 w0 B0 [(0, .val (IsNum z)), (13, .val (EnvV))] [] := H0
  refine wp_seq ?_
  refine flow_region (dsts := [some 1, some 2, some 3]) (refs := [[.pre 0], [], []]) (outs := [.res 0, .res 1, .res 2, .pre 1]) (als := [true, false, false]) (posts := [.box 37 8 (IsNum z), .val (Lit (.int .u64 0)), .val (IsB false)])
    (out := [(1, .box 37 8 (IsNum z)), (2, .val (Lit (.int .u64 0))), (3, .val (IsB false)), (13, .val (EnvV))]) (nb := [1]) H0 3 [] rfl (by kernel_rfl) rfl rfl ?_ ?_
  · refine .cons (.plain rfl (ok_box (.tmp 0 rfl) shape_Num.two)) ?_
    refine .cons (.plain rfl (ok_assign (.lit))) ?_
    refine .cons (.plain rfl (ok_assign (.lit))) ?_
    exact .nil
  clear H0
  intro a1 w1 B1 H1
  simp only [List.cons_append, List.nil_append] at H1
  refine ops_done ?_
  refine then_normal ?_
  refine wp_seq ?_
  refine flow_region (dsts := [some 5, some 6, some 4]) (refs := [[.pre 0], [.res 0, .pre 3], [.res 1]]) (outs := [.res 2, .pre 1, .pre 2, .pre 3]) (als := [false, false, false]) (posts := [.val (IsNum z), .val (IsOne (whatV z)), .val (IsOne (whatV z))])
    (out := [(4, .val (IsOne (whatV z))), (2, .val (Lit (.int .u64 0))), (3, .val (IsB false)), (13, .val (EnvV))]) (nb := []) H1 3 [] rfl (by kernel_rfl) rfl rfl ?_ ?_
  · refine .cons (.plain rfl (ok_load tyV (.tmp 0 rfl))) ?_
    refine .cons (.plain rfl (ok_callE (con_what (z) hz) 1 rfl (.cons (.tmp 0 rfl) (.nil)))) ?_
    refine .cons (.plain rfl (ok_assign (.tmp 0 rfl))) ?_
    exact .nil
  clear H1 a1 w1 B1
  intro a2 w2 B2 H2
  refine ops_done ?_
  refine then_normal ?_
  refine wp_seq ?_
  refine wp_seq ?_
  refine flow_region (dsts := [some 7, some 8]) (refs := [[.pre 0], [.res 0]]) (outs := [.res 1, .pre 0, .pre 1, .pre 2, .pre 3]) (als := [false, false]) (posts := [.val (IsOne (whatV z)), .val (IsB false)])
    (out := [(8, .val (IsB false)), (4, .val (IsOne (whatV z))), (2, .val (Lit (.int .u64 0))), (3, .val (IsB false)), (13, .val (EnvV))]) (nb := []) H2 2 [] rfl (by kernel_rfl) rfl rfl ?_ ?_
  · refine .cons (.plain rfl (ok_move (.tmp 0 rfl))) ?_
    refine .cons (.plain rfl (ok_eqNil (.tmp 0 rfl) ((whatV_some _).symm))) ?_
    exact .nil
  clear H2 a2 w2 B2
  intro a3 w3 B3 H3
  refine ops_done ?_
  refine then_normal ?_
  refine f_condF H3 (.tmp 0 rfl) ?_
  refine wp_skip ?_
  refine then_normal ?_
  refine wp_seq ?_
  refine flow_region (dsts := [some 9, some 10, some 11, some 12, some 2, some 3]) (refs := [[.pre 1], [.res 0, .pre 4], [.res 1], [.res 1], [.res 2], [.res 3]]) (outs := [.res 4, .res 5, .pre 4]) (als := [false, false, false, false, false, false]) (posts := [.val (IsOne (whatV z)), .val (Tup [Lit (.int .u64 ((bitsO (whatV z)).1)), IsB ((bitsO (whatV z)).2)]), .val (Lit (.int .u64 ((bitsO (whatV z)).1))), .val (IsB ((bitsO (whatV z)).2)), .val (Lit (.int .u64 ((bitsO (whatV z)).1))), .val (IsB ((bitsO (whatV z)).2))])
    (out := [(2, .val (Lit (.int .u64 ((bitsO (whatV z)).1)))), (3, .val (IsB ((bitsO (whatV z)).2))), (13, .val (EnvV))]) (nb := []) H3 6 [] rfl (by kernel_rfl) rfl rfl ?_ ?_
  · refine .cons (.plain rfl (ok_move (.tmp 0 rfl))) ?_
    refine .cons (.plain rfl (ok_inv 1 rfl (whatV_some _) (.tmp 0 rfl))) ?_
    refine .cons (.plain rfl (ok_extract 0 (.tmp 0 rfl) rfl)) ?_
    refine .cons (.plain rfl (ok_extract 1 (.tmp 0 rfl) rfl)) ?_
    refine .cons (.plain rfl (ok_assign (.tmp 0 rfl))) ?_
    refine .cons (.plain rfl (ok_assign (.tmp 0 rfl))) ?_
    exact .nil
  clear H3 a3 w3 B3
  intro a4 w4 B4 H4
  refine ops_done ?_
  refine then_normal ?_
  refine wp_ret ?_
  exact f_retN H4 rfl rfl (.tmp 0 rfl (fun v w B h => by exact h) (.tmp 1 rfl (fun v w B h => by exact h) (.nil)))

set_option maxRecDepth 20000 in
set_option maxHeartbeats 2000000 in
theorem con_narrow (z : NV) (hz : okNV z) : ConE Tryz.prog 22 [IsNum z] (Tup [Lit (.int .i64 (narrowP (bitsO (whatV z))).1), Lit (.int .u64 (narrowP (bitsO (whatV z))).2.1), IsB (narrowP (bitsO (whatV z))).2.2]) := by
  refine f_enterE (N := 34) Tryz.ntmps22 (fun _ _ => by go_simp) Tryz.func22 rfl (by simp) ?_
  intro a0 w0 B0 H0
  replace H0 : St 34 w0 B0 a0 w0 B0 [(0, .val (IsNum z)), (34, .val (EnvV))] [] := H0
  refine wp_seq ?_
  refine flow_region (dsts := [some 1, some 2, some 3, some 4]) (refs := [[.pre 0], [], [], []]) (outs := [.res 0, .res 1, .res 2, .res 3, .pre 1]) (als := [true, false, false, false]) (posts := [.box 37 8 (IsNum z), .val (Lit (.int .i64 0)), .val (Lit (.int .u64 0)), .val (IsB false)])
    (out := [(1, .box 37 8 (IsNum z)), (2, .val (Lit (.int .i64 0))), (3, .val (Lit (.int .u64 0))), (4, .val (IsB false)), (34, .val (EnvV))]) (nb := [1]) H0 4 [] rfl (by kernel_rfl) rfl rfl ?_ ?_
  · refine .cons (.plain rfl (ok_box (.tmp 0 rfl) shape_Num.two)) ?_
    refine .cons (.plain rfl (ok_assign (.lit))) ?_
    refine .cons (.plain rfl (ok_assign (.lit))) ?_
    refine .cons (.plain rfl (ok_assign (.lit))) ?_
    exact .nil
  clear H0
  intro a1 w1 B1 H1
  simp only [List.cons_append, List.nil_append] at H1
  refine ops_done ?_
  refine then_normal ?_
  refine wp_seq ?_
  have hb16 := toW_bd2 (V := 16) (by unfold Wide; omega) 64 (bitsO (whatV z)).1
  have hb32 := toW_bd2 (V := 32) (by unfold Wide; omega) 64 (bitsO (whatV z)).1
  rw [show (2 : Int) ^ 16 = 65536 from by decide] at hb16
  rw [show (2 : Int) ^ 32 = 4294967296 from by decide] at hb32
  refine flow_region (dsts := [some 11, some 12, some 10, some 13, some 14, some 5, some 4]) (refs := [[.pre 0], [.res 0, .pre 4], [.res 1], [.res 2], [.res 2], [.res 3], [.res 4]]) (outs := [.res 5, .res 6, .pre 1, .pre 2, .pre 4]) (als := [false, false, false, false, false, false, false]) (posts := [.val (IsNum z), .val (Tup [Lit (.int .u64 ((bitsO (whatV z)).1)), IsB ((bitsO (whatV z)).2)]), .val (Tup [Lit (.int .u64 ((bitsO (whatV z)).1)), IsB ((bitsO (whatV z)).2)]), .val (Lit (.int .u64 ((bitsO (whatV z)).1))), .val (IsB ((bitsO (whatV z)).2)), .val (Lit (.int .u64 ((bitsO (whatV z)).1))), .val (IsB ((bitsO (whatV z)).2))])
    (out := [(5, .val (Lit (.int .u64 ((bitsO (whatV z)).1)))), (4, .val (IsB ((bitsO (whatV z)).2))), (2, .val (Lit (.int .i64 0))), (3, .val (Lit (.int .u64 0))), (34, .val (EnvV))]) (nb := []) H1 7 [] rfl (by kernel_rfl) rfl rfl ?_ ?_
  · refine .cons (.plain rfl (ok_load tyV (.tmp 0 rfl))) ?_
    refine .cons (.plain rfl (ok_callE (con_nbits (z) hz) 1 rfl (.cons (.tmp 0 rfl) (.nil)))) ?_
    refine .cons (.plain rfl (ok_move (.tmp 0 rfl))) ?_
    refine .cons (.plain rfl (ok_extract 0 (.tmp 0 rfl) rfl)) ?_
    refine .cons (.plain rfl (ok_extract 1 (.tmp 0 rfl) rfl)) ?_
    refine .cons (.plain rfl (ok_assign (.tmp 0 rfl))) ?_
    refine .cons (.plain rfl (ok_assign (.tmp 0 rfl))) ?_
    exact .nil
  clear H1 a1 w1 B1
  intro a2 w2 B2 H2
  refine ops_done ?_
  refine then_normal ?_
  refine wp_seq ?_
  refine wp_seq ?_
  refine flow_region (dsts := [some 15, some 16]) (refs := [[.pre 1], [.res 0]]) (outs := [.res 1, .pre 0, .pre 1, .pre 2, .pre 3, .pre 4]) (als := [false, false]) (posts := [.val (IsB ((bitsO (whatV z)).2)), .val (IsB (!((bitsO (whatV z)).2)))])
    (out := [(16, .val (IsB (!((bitsO (whatV z)).2)))), (5, .val (Lit (.int .u64 ((bitsO (whatV z)).1)))), (4, .val (IsB ((bitsO (whatV z)).2))), (2, .val (Lit (.int .i64 0))), (3, .val (Lit (.int .u64 0))), (34, .val (EnvV))]) (nb := []) H2 2 [] rfl (by kernel_rfl) rfl rfl ?_ ?_
  · refine .cons (.plain rfl (ok_move (.tmp 0 rfl))) ?_
    refine .cons (.plain rfl (ok_not (b := (bitsO (whatV z)).2) (.tmp 0 rfl))) ?_
    exact .nil
  clear H2 a2 w2 B2
  intro a3 w3 B3 H3
  refine ops_done ?_
  refine then_normal ?_
  refine f_cond H3 (.tmp 0 rfl) ?_ ?_
  · intro hc4
    replace hc4 : ((bitsO (whatV z)).2) = false := by simpa using hc4
    refine wp_seq ?_
    refine flow_region (dsts := [some 2, some 3, some 4]) (refs := [[], [], []]) (outs := [.res 0, .res 1, .res 2, .pre 1, .pre 5]) (als := [false, false, false]) (posts := [.val (Lit (.int .i64 0)), .val (Lit (.int .u64 0)), .val (IsB false)])
      (out := [(2, .val (Lit (.int .i64 0))), (3, .val (Lit (.int .u64 0))), (4, .val (IsB false)), (5, .val (Lit (.int .u64 ((bitsO (whatV z)).1)))), (34, .val (EnvV))]) (nb := []) H3 3 [] rfl (by kernel_rfl) rfl rfl ?_ ?_
    · refine .cons (.plain rfl (ok_assign (.lit))) ?_
      refine .cons (.plain rfl (ok_assign (.lit))) ?_
      refine .cons (.plain rfl (ok_assign (.lit))) ?_
      exact .nil
    clear H3 a3 w3 B3
    intro a5 w5 B5 H5
    refine ops_done ?_
    refine then_normal ?_
    refine wp_ret ?_
    refine then_ret ?_
    exact f_retN H5 rfl rfl (.tmp 0 rfl (fun v w B h => by refine int_e ?_ h; unfold narrowP; simp [*]) (.tmp 1 rfl (fun v w B h => by refine int_e ?_ h; unfold narrowP; simp [*]) (.tmp 2 rfl (fun v w B h => by refine isB_e ?_ h; unfold narrowP; simp [*]) (.nil))))
  · intro hc4
    replace hc4 : ((bitsO (whatV z)).2) = true := by simpa using hc4
    refine wp_skip ?_
    refine then_normal ?_
    refine wp_seq ?_
    refine wp_seq ?_
    refine flow_region (dsts := [some 18, some 19, some 17, some 20, some 21, some 6, some 7]) (refs := [[.pre 1], [.res 0, .pre 5], [.res 1], [.res 2], [.res 2], [.res 3], [.res 4]]) (outs := [.res 5, .res 6, .pre 1, .pre 2, .pre 3, .pre 4, .pre 5]) (als := [false, false, false, false, false, false, false]) (posts := [.val (Lit (.int .u64 ((bitsO (whatV z)).1))), .val (Tup [Lit (.int .u16 ((toW 16 64 ((bitsO (whatV z)).1)).1)), IsB ((toW 16 64 ((bitsO (whatV z)).1)).2)]), .val (Tup [Lit (.int .u16 ((toW 16 64 ((bitsO (whatV z)).1)).1)), IsB ((toW 16 64 ((bitsO (whatV z)).1)).2)]), .val (Lit (.int .u16 ((toW 16 64 ((bitsO (whatV z)).1)).1))), .val (IsB ((toW 16 64 ((bitsO (whatV z)).1)).2)), .val (Lit (.int .u16 ((toW 16 64 ((bitsO (whatV z)).1)).1))), .val (IsB ((toW 16 64 ((bitsO (whatV z)).1)).2))])
      (out := [(6, .val (Lit (.int .u16 ((toW 16 64 ((bitsO (whatV z)).1)).1)))), (7, .val (IsB ((toW 16 64 ((bitsO (whatV z)).1)).2))), (5, .val (Lit (.int .u64 ((bitsO (whatV z)).1)))), (4, .val (IsB ((bitsO (whatV z)).2))), (2, .val (Lit (.int .i64 0))), (3, .val (Lit (.int .u64 0))), (34, .val (EnvV))]) (nb := []) H3 7 [] rfl (by kernel_rfl) rfl rfl ?_ ?_
    · refine .cons (.plain rfl (ok_move (.tmp 0 rfl))) ?_
      refine .cons (.plain rfl (ok_callE (con_to1664 ((bitsO (whatV z)).1) (bits_bd z hz)) 1 rfl (.cons (.tmp 0 rfl) (.nil)))) ?_
      refine .cons (.plain rfl (ok_move (.tmp 0 rfl))) ?_
      refine .cons (.plain rfl (ok_extract 0 (.tmp 0 rfl) rfl)) ?_
      refine .cons (.plain rfl (ok_extract 1 (.tmp 0 rfl) rfl)) ?_
      refine .cons (.plain rfl (ok_assign (.tmp 0 rfl))) ?_
      refine .cons (.plain rfl (ok_assign (.tmp 0 rfl))) ?_
      exact .nil
    clear H3 a3 w3 B3
    intro a6 w6 B6 H6
    refine ops_done ?_
    refine then_normal ?_
    refine wp_seq ?_
    refine flow_region (dsts := [some 22]) (refs := [[.pre 1]]) (outs := [.res 0, .pre 0, .pre 2, .pre 3, .pre 4, .pre 5, .pre 6]) (als := [false]) (posts := [.val (IsB ((toW 16 64 ((bitsO (whatV z)).1)).2))])
      (out := [(22, .val (IsB ((toW 16 64 ((bitsO (whatV z)).1)).2))), (6, .val (Lit (.int .u16 ((toW 16 64 ((bitsO (whatV z)).1)).1)))), (5, .val (Lit (.int .u64 ((bitsO (whatV z)).1)))), (4, .val (IsB ((bitsO (whatV z)).2))), (2, .val (Lit (.int .i64 0))), (3, .val (Lit (.int .u64 0))), (34, .val (EnvV))]) (nb := []) H6 1 [] rfl (by kernel_rfl) rfl rfl ?_ ?_
    · refine .cons (.plain rfl (ok_move (.tmp 0 rfl))) ?_
      exact .nil
    clear H6 a6 w6 B6
    intro a7 w7 B7 H7
    refine ops_done ?_
    refine then_normal ?_
    refine f_cond H7 (.tmp 0 rfl) ?_ ?_
    · intro hc8
      refine wp_seq ?_
      refine flow_region (dsts := [some 23, some 24, some 2, some 3, some 4]) (refs := [[.pre 1], [.res 0], [], [.res 1], []]) (outs := [.res 2, .res 3, .res 4, .pre 2, .pre 6]) (als := [false, false, false, false, false]) (posts := [.val (Lit (.int .u16 ((toW 16 64 ((bitsO (whatV z)).1)).1))), .val (Lit (.int .u64 ((toW 16 64 ((bitsO (whatV z)).1)).1))), .val (Lit (.int .i64 16)), .val (Lit (.int .u64 ((toW 16 64 ((bitsO (whatV z)).1)).1))), .val (IsB true)])
        (out := [(2, .val (Lit (.int .i64 16))), (3, .val (Lit (.int .u64 ((toW 16 64 ((bitsO (whatV z)).1)).1)))), (4, .val (IsB true)), (5, .val (Lit (.int .u64 ((bitsO (whatV z)).1)))), (34, .val (EnvV))]) (nb := []) H7 5 [] rfl (by kernel_rfl) rfl rfl ?_ ?_
      · refine .cons (.plain rfl (ok_move (.tmp 0 rfl))) ?_
        refine .cons (.plain rfl (ok_conv Tryz.underlying22 Tryz.underlying24 (r := ((toW 16 64 ((bitsO (whatV z)).1)).1)) (.tmp 0 rfl) (w_u64 (by omega)))) ?_
        refine .cons (.plain rfl (ok_assign (.lit))) ?_
        refine .cons (.plain rfl (ok_assign (.tmp 0 rfl))) ?_
        refine .cons (.plain rfl (ok_assign (.lit))) ?_
        exact .nil
      clear H7 a7 w7 B7
      intro a9 w9 B9 H9
      refine ops_done ?_
      refine then_normal ?_
      refine wp_ret ?_
      refine then_ret ?_
      exact f_retN H9 rfl rfl (.tmp 0 rfl (fun v w B h => by refine int_e ?_ h; unfold narrowP; simp [*]) (.tmp 1 rfl (fun v w B h => by refine int_e ?_ h; unfold narrowP; simp [*]) (.tmp 2 rfl (fun v w B h => by refine isB_e ?_ h; unfold narrowP; simp [*]) (.nil))))
    · intro hc8
      refine wp_skip ?_
      refine then_normal ?_
      refine wp_seq ?_
      refine wp_seq ?_
      refine flow_region (dsts := [some 26, some 27, some 25, some 28, some 29, some 8, some 9]) (refs := [[.pre 2], [.res 0, .pre 6], [.res 1], [.res 2], [.res 2], [.res 3], [.res 4]]) (outs := [.res 5, .res 6, .pre 2, .pre 3, .pre 4, .pre 5, .pre 6]) (als := [false, false, false, false, false, false, false]) (posts := [.val (Lit (.int .u64 ((bitsO (whatV z)).1))), .val (Tup [Lit (.int .u32 ((toW 32 64 ((bitsO (whatV z)).1)).1)), IsB ((toW 32 64 ((bitsO (whatV z)).1)).2)]), .val (Tup [Lit (.int .u32 ((toW 32 64 ((bitsO (whatV z)).1)).1)), IsB ((toW 32 64 ((bitsO (whatV z)).1)).2)]), .val (Lit (.int .u32 ((toW 32 64 ((bitsO (whatV z)).1)).1))), .val (IsB ((toW 32 64 ((bitsO (whatV z)).1)).2)), .val (Lit (.int .u32 ((toW 32 64 ((bitsO (whatV z)).1)).1))), .val (IsB ((toW 32 64 ((bitsO (whatV z)).1)).2))])
        (out := [(8, .val (Lit (.int .u32 ((toW 32 64 ((bitsO (whatV z)).1)).1)))), (9, .val (IsB ((toW 32 64 ((bitsO (whatV z)).1)).2))), (5, .val (Lit (.int .u64 ((bitsO (whatV z)).1)))), (4, .val (IsB ((bitsO (whatV z)).2))), (2, .val (Lit (.int .i64 0))), (3, .val (Lit (.int .u64 0))), (34, .val (EnvV))]) (nb := []) H7 7 [] rfl (by kernel_rfl) rfl rfl ?_ ?_
      · refine .cons (.plain rfl (ok_move (.tmp 0 rfl))) ?_
        refine .cons (.plain rfl (ok_callE (con_to3264 ((bitsO (whatV z)).1) (bits_bd z hz)) 1 rfl (.cons (.tmp 0 rfl) (.nil)))) ?_
        refine .cons (.plain rfl (ok_move (.tmp 0 rfl))) ?_
        refine .cons (.plain rfl (ok_extract 0 (.tmp 0 rfl) rfl)) ?_
        refine .cons (.plain rfl (ok_extract 1 (.tmp 0 rfl) rfl)) ?_
        refine .cons (.plain rfl (ok_assign (.tmp 0 rfl))) ?_
        refine .cons (.plain rfl (ok_assign (.tmp 0 rfl))) ?_
        exact .nil
      clear H7 a7 w7 B7
      intro a10 w10 B10 H10
      refine ops_done ?_
      refine then_normal ?_
      refine wp_seq ?_
      refine flow_region (dsts := [some 30]) (refs := [[.pre 1]]) (outs := [.res 0, .pre 0, .pre 2, .pre 3, .pre 4, .pre 5, .pre 6]) (als := [false]) (posts := [.val (IsB ((toW 32 64 ((bitsO (whatV z)).1)).2))])
        (out := [(30, .val (IsB ((toW 32 64 ((bitsO (whatV z)).1)).2))), (8, .val (Lit (.int .u32 ((toW 32 64 ((bitsO (whatV z)).1)).1)))), (5, .val (Lit (.int .u64 ((bitsO (whatV z)).1)))), (4, .val (IsB ((bitsO (whatV z)).2))), (2, .val (Lit (.int .i64 0))), (3, .val (Lit (.int .u64 0))), (34, .val (EnvV))]) (nb := []) H10 1 [] rfl (by kernel_rfl) rfl rfl ?_ ?_
      · refine .cons (.plain rfl (ok_move (.tmp 0 rfl))) ?_
        exact .nil
      clear H10 a10 w10 B10
      intro a11 w11 B11 H11
      refine ops_done ?_
      refine then_normal ?_
      refine f_cond H11 (.tmp 0 rfl) ?_ ?_
      · intro hc12
        refine wp_seq ?_
        refine flow_region (dsts := [some 31, some 32, some 2, some 3, some 4]) (refs := [[.pre 1], [.res 0], [], [.res 1], []]) (outs := [.res 2, .res 3, .res 4, .pre 2, .pre 6]) (als := [false, false, false, false, false]) (posts := [.val (Lit (.int .u32 ((toW 32 64 ((bitsO (whatV z)).1)).1))), .val (Lit (.int .u64 ((toW 32 64 ((bitsO (whatV z)).1)).1))), .val (Lit (.int .i64 32)), .val (Lit (.int .u64 ((toW 32 64 ((bitsO (whatV z)).1)).1))), .val (IsB true)])
          (out := [(2, .val (Lit (.int .i64 32))), (3, .val (Lit (.int .u64 ((toW 32 64 ((bitsO (whatV z)).1)).1)))), (4, .val (IsB true)), (5, .val (Lit (.int .u64 ((bitsO (whatV z)).1)))), (34, .val (EnvV))]) (nb := []) H11 5 [] rfl (by kernel_rfl) rfl rfl ?_ ?_
        · refine .cons (.plain rfl (ok_move (.tmp 0 rfl))) ?_
          refine .cons (.plain rfl (ok_conv Tryz.underlying23 Tryz.underlying24 (r := ((toW 32 64 ((bitsO (whatV z)).1)).1)) (.tmp 0 rfl) (w_u64 (by omega)))) ?_
          refine .cons (.plain rfl (ok_assign (.lit))) ?_
          refine .cons (.plain rfl (ok_assign (.tmp 0 rfl))) ?_
          refine .cons (.plain rfl (ok_assign (.lit))) ?_
          exact .nil
        clear H11 a11 w11 B11
        intro a13 w13 B13 H13
        refine ops_done ?_
        refine then_normal ?_
        refine wp_ret ?_
        refine then_ret ?_
        exact f_retN H13 rfl rfl (.tmp 0 rfl (fun v w B h => by refine int_e ?_ h; unfold narrowP; simp [*]) (.tmp 1 rfl (fun v w B h => by refine int_e ?_ h; unfold narrowP; simp [*]) (.tmp 2 rfl (fun v w B h => by refine isB_e ?_ h; unfold narrowP; simp [*]) (.nil))))
      · intro hc12
        refine wp_skip ?_
        refine then_normal ?_
        refine wp_seq ?_
        refine flow_region (dsts := [some 33, some 2, some 3, some 4]) (refs := [[.pre 2], [], [.res 0], []]) (outs := [.res 1, .res 2, .res 3, .pre 6]) (als := [false, false, false, false]) (posts := [.val (Lit (.int .u64 ((bitsO (whatV z)).1))), .val (Lit (.int .i64 64)), .val (Lit (.int .u64 ((bitsO (whatV z)).1))), .val (IsB true)])
          (out := [(2, .val (Lit (.int .i64 64))), (3, .val (Lit (.int .u64 ((bitsO (whatV z)).1)))), (4, .val (IsB true)), (34, .val (EnvV))]) (nb := []) H11 4 [] rfl (by kernel_rfl) rfl rfl ?_ ?_
        · refine .cons (.plain rfl (ok_move (.tmp 0 rfl))) ?_
          refine .cons (.plain rfl (ok_assign (.lit))) ?_
          refine .cons (.plain rfl (ok_assign (.tmp 0 rfl))) ?_
          refine .cons (.plain rfl (ok_assign (.lit))) ?_
          exact .nil
        clear H11 a11 w11 B11
        intro a14 w14 B14 H14
        refine ops_done ?_
        refine then_normal ?_
        refine wp_ret ?_
        exact f_retN H14 rfl rfl (.tmp 0 rfl (fun v w B h => by refine int_e ?_ h; unfold narrowP; simp [*]) (.tmp 1 rfl (fun v w B h => by refine int_e ?_ h; unfold narrowP; simp [*]) (.tmp 2 rfl (fun v w B h => by refine isB_e ?_ h; unfold narrowP; simp [*]) (.nil))))

set_option maxRecDepth 20000 in
set_option maxHeartbeats 2000000 in
theorem con_partsE (X : Int) : Con Tryz.prog 85 [IsOne (.exact X)] (Tup [IsN (partN (.exact X)), Lit (.int .i64 (partE (.exact X)))]) := by
  refine f_enter (N := 33) Tryz.ntmps85 (fun _ _ => by go_simp) Tryz.func85 rfl (by simp) ?_
  intro a0 w0 B0 H0
  replace H0 : St 33 w0 B0 a0 w0 B0 [(0, .val (IsOne (.exact X)))] [] := H0
  refine wp_seq ?_
  refine flow_region (dsts := [some 2, some 3]) (refs := [[], []]) (outs := [.res 0, .res 1, .pre 0]) (als := [true, false]) (posts := [.box 34 2 (Zero2), .val (Lit (.int .i64 0))])
    (out := [(2, .box 34 2 (Zero2)), (3, .val (Lit (.int .i64 0))), (0, .val (IsOne (.exact X)))]) (nb := [2]) H0 2 [] rfl (by kernel_rfl) rfl rfl ?_ ?_
  · refine .cons (.plain rfl (ok_alloc (D := Zero2) zeroI rfl (fun _ _ => rfl))) ?_
    refine .cons (.plain rfl (ok_assign (.lit))) ?_
    exact .nil
  clear H0
  intro a1 w1 B1 H1
  simp only [List.cons_append, List.nil_append] at H1
  refine ops_done ?_
  refine then_normal ?_
  refine wp_seq ?_
  refine wp_seq ?_
  refine flow_region (dsts := [some 10]) (refs := [[.pre 2]]) (outs := [.res 0, .pre 0, .pre 1]) (als := [false]) (posts := [.val (IsOne (.exact X))])
    (out := [(10, .val (IsOne (.exact X))), (2, .box 34 2 (Zero2)), (3, .val (Lit (.int .i64 0)))]) (nb := []) H1 1 [] rfl (by kernel_rfl) rfl rfl ?_ ?_
  · refine .cons (.plain rfl (ok_move (.tmp 0 rfl))) ?_
    exact .nil
  clear H1 a1 w1 B1
  intro a2 w2 B2 H2
  refine ops_done ?_
  refine then_normal ?_
  refine wp_block ?_
  refine wp_seq ?_
  refine flow_region (dsts := [some 11, some 12, some 13]) (refs := [[.pre 0], [.res 0], [.res 0]]) (outs := [.res 1, .res 2, .pre 0, .pre 1, .pre 2]) (als := [false, false, false]) (posts := [.val (Tup [IsEx X, IsB true]), .val (IsB true), .val (IsEx X)])
    (out := [(12, .val (IsB true)), (13, .val (IsEx X)), (10, .val (IsOne (.exact X))), (2, .box 34 2 (Zero2)), (3, .val (Lit (.int .i64 0)))]) (nb := []) H2 3 [] rfl (by kernel_rfl) rfl rfl ?_ ?_
  · refine .cons (.plain rfl (ok_ta1 (.tmp 0 rfl) rfl rfl rfl)) ?_
    refine .cons (.plain rfl (ok_extract 1 (.tmp 0 rfl) rfl)) ?_
    refine .cons (.plain rfl (ok_extract 0 (.tmp 0 rfl) rfl)) ?_
    exact .nil
  clear H2 a2 w2 B2
  intro a3 w3 B3 H3
  refine ops_done ?_
  refine then_normal ?_
  refine f_condT H3 (.tmp 0 rfl) ?_
  refine wp_seq ?_
  refine flow_region (dsts := [some 4]) (refs := [[]]) (outs := [.res 0, .pre 1, .pre 2, .pre 3, .pre 4]) (als := [true]) (posts := [.box 166 2 (IsEx 0)])
    (out := [(4, .box 166 2 (IsEx 0)), (13, .val (IsEx X)), (10, .val (IsOne (.exact X))), (2, .box 34 2 (Zero2)), (3, .val (Lit (.int .i64 0)))]) (nb := [4]) H3 1 [1] rfl (by kernel_rfl) rfl rfl ?_ ?_
  · refine .cons (.plain rfl (ok_allocEx)) ?_
    exact .nil
  clear H3 a3 w3 B3
  intro a4 w4 B4 H4
  simp only [List.cons_append, List.nil_append] at H4
  refine ops_one ?_
  refine store_op (l' := [(4, .box 166 2 (IsEx X)), (13, .val (IsEx X)), (10, .val (IsOne (.exact X))), (2, .box 34 2 (Zero2)), (3, .val (Lit (.int .i64 0)))]) 0 H4 rfl tyEx rfl (.tmp 1 rfl) shape_Ex shape_Ex rfl rfl ?_
  clear H4 w4
  intro w5 H5
  refine ops_done ?_
  refine then_normal ?_
  refine wp_seq ?_
  refine flow_region (dsts := [some 14, some 15]) (refs := [[.pre 0], [.res 0]]) (outs := [.res 1, .pre 2, .pre 3, .pre 4]) (als := [false, false]) (posts := [.ptr 166 2 (IsEx X) 0, .val (IsI X)])
    (out := [(15, .val (IsI X)), (10, .val (IsOne (.exact X))), (2, .box 34 2 (Zero2)), (3, .val (Lit (.int .i64 0)))]) (nb := []) H5 2 [2, 3] rfl (by kernel_rfl) rfl rfl ?_ ?_
  · refine .cons (.plain rfl (ok_addrEx (.tmp 0 rfl))) ?_
    refine .cons (.plain rfl (ok_loadEx (.tmp 0 rfl))) ?_
    exact .nil
  clear H5 a4 w5 B4
  intro a6 w6 B6 H6
  refine ops_one ?_
  refine store_op (l' := [(15, .val (IsI X)), (10, .val (IsOne (.exact X))), (2, .box 34 2 (IsI X)), (3, .val (Lit (.int .i64 0)))]) 2 H6 rfl tyI rfl (.tmp 0 rfl) shape_Z shape_I rfl rfl ?_
  clear H6 w6
  intro w7 H7
  refine ops_one ?_
  refine tail_op (D := .val (Lit (.int .i64 0))) (l' := [(3, .val (Lit (.int .i64 0))), (15, .val (IsI X)), (10, .val (IsOne (.exact X))), (2, .box 34 2 (IsI X))]) H7 rfl rfl rfl (.plain rfl (ok_assign (.lit))) rfl rfl ?_
  clear H7 a6 w7 B6
  intro a8 w8 B8 H8
  refine ops_done ?_
  refine then_normal ?_
  refine wp_ret ?_
  refine block_ret ?_
  refine then_ret ?_
  exact f_retN H8 rfl rfl (.cell 3 tyI rfl (fun v w B h => by exact weakIN v w B h) (.tmp 0 rfl (fun v w B h => by exact h) (.nil)))

set_option maxRecDepth 20000 in
set_option maxHeartbeats 2000000 in
theorem con_partsB (b : Int) (hb : 0 ≤ b ∧ b < 18446744073709551616) : ConE Tryz.prog 85 [IsOne (.broken b)] (Tup [IsN (partN (.broken b)), Lit (.int .i64 (partE (.broken b)))]) := by
  refine f_enterE (N := 33) Tryz.ntmps85 (fun _ _ => by go_simp) Tryz.func85 rfl (by simp) ?_
  intro a0 w0 B0 H0
  replace H0 : St 33 w0 B0 a0 w0 B0 [(0, .val (IsOne (.broken b))), (33, .val (EnvV))] [] := H0
  refine wp_seq ?_
  have hpm := pM_bd (W := 64) (by unfold Wide; omega) b
  refine flow_region (dsts := [some 2, some 3]) (refs := [[], []]) (outs := [.res 0, .res 1, .pre 0, .pre 1]) (als := [true, false]) (posts := [.box 34 2 (Zero2), .val (Lit (.int .i64 0))])
    (out := [(2, .box 34 2 (Zero2)), (3, .val (Lit (.int .i64 0))), (0, .val (IsOne (.broken b))), (33, .val (EnvV))]) (nb := [2]) H0 2 [] rfl (by kernel_rfl) rfl rfl ?_ ?_
  · refine .cons (.plain rfl (ok_alloc (D := Zero2) zeroI rfl (fun _ _ => rfl))) ?_
    refine .cons (.plain rfl (ok_assign (.lit))) ?_
    exact .nil
  clear H0
  intro a1 w1 B1 H1
  simp only [List.cons_append, List.nil_append] at H1
  refine ops_done ?_
  refine then_normal ?_
  refine wp_seq ?_
  refine wp_seq ?_
  refine flow_region (dsts := [some 10]) (refs := [[.pre 2]]) (outs := [.res 0, .pre 0, .pre 1, .pre 3]) (als := [false]) (posts := [.val (IsOne (.broken b))])
    (out := [(10, .val (IsOne (.broken b))), (2, .box 34 2 (Zero2)), (3, .val (Lit (.int .i64 0))), (33, .val (EnvV))]) (nb := []) H1 1 [] rfl (by kernel_rfl) rfl rfl ?_ ?_
  · refine .cons (.plain rfl (ok_move (.tmp 0 rfl))) ?_
    exact .nil
  clear H1 a1 w1 B1
  intro a2 w2 B2 H2
  refine ops_done ?_
  refine then_normal ?_
  refine wp_block ?_
  refine wp_seq ?_
  refine flow_region (dsts := [some 11, some 12, some 13]) (refs := [[.pre 0], [.res 0], [.res 0]]) (outs := [.res 1, .res 2, .pre 0, .pre 1, .pre 2, .pre 3]) (als := [false, false, false]) (posts := [.val (Tup [VP.top, IsB false]), .val (IsB false), .val (VP.top)])
    (out := [(12, .val (IsB false)), (13, .val (VP.top)), (10, .val (IsOne (.broken b))), (2, .box 34 2 (Zero2)), (3, .val (Lit (.int .i64 0))), (33, .val (EnvV))]) (nb := []) H2 3 [] rfl (by kernel_rfl) rfl rfl ?_ ?_
  · refine .cons (.plain rfl (ok_ta0 (.tmp 0 rfl) rfl (.inl rfl) (show (167 : Nat) ≠ 166 by decide))) ?_
    refine .cons (.plain rfl (ok_extract 1 (.tmp 0 rfl) rfl)) ?_
    refine .cons (.plain rfl (ok_extract 0 (.tmp 0 rfl) rfl)) ?_
    exact .nil
  clear H2 a2 w2 B2
  intro a3 w3 B3 H3
  refine ops_done ?_
  refine then_normal ?_
  refine f_condF H3 (.tmp 0 rfl) ?_
  refine wp_seq ?_
  refine flow_region (dsts := [some 16, some 17, some 18]) (refs := [[.pre 2], [.res 0], [.res 0]]) (outs := [.res 1, .res 2, .pre 3, .pre 4, .pre 5]) (als := [false, false, false]) (posts := [.val (Tup [U1 b, IsB true]), .val (IsB true), .val (U1 b)])
    (out := [(17, .val (IsB true)), (18, .val (U1 b)), (2, .box 34 2 (Zero2)), (3, .val (Lit (.int .i64 0))), (33, .val (EnvV))]) (nb := []) H3 3 [] rfl (by kernel_rfl) rfl rfl ?_ ?_
  · refine .cons (.plain rfl (ok_ta1 (.tmp 0 rfl) rfl rfl rfl)) ?_
    refine .cons (.plain rfl (ok_extract 1 (.tmp 0 rfl) rfl)) ?_
    refine .cons (.plain rfl (ok_extract 0 (.tmp 0 rfl) rfl)) ?_
    exact .nil
  clear H3 a3 w3 B3
  intro a4 w4 B4 H4
  refine ops_done ?_
  refine then_normal ?_
  refine f_condT H4 (.tmp 0 rfl) ?_
  refine wp_seq ?_
  refine flow_region (dsts := [some 5]) (refs := [[]]) (outs := [.res 0, .pre 1, .pre 2, .pre 3, .pre 4]) (als := [true]) (posts := [.box 167 1 (U1 0)])
    (out := [(5, .box 167 1 (U1 0)), (18, .val (U1 b)), (2, .box 34 2 (Zero2)), (3, .val (Lit (.int .i64 0))), (33, .val (EnvV))]) (nb := [5]) H4 1 [1] rfl (by kernel_rfl) rfl rfl ?_ ?_
  · refine .cons (.plain rfl (ok_allocBr)) ?_
    exact .nil
  clear H4 a4 w4 B4
  intro a5 w5 B5 H5
  simp only [List.cons_append, List.nil_append] at H5
  refine ops_one ?_
  refine store_op (l' := [(5, .box 167 1 (U1 b)), (18, .val (U1 b)), (2, .box 34 2 (Zero2)), (3, .val (Lit (.int .i64 0))), (33, .val (EnvV))]) 0 H5 rfl tyBr rfl (.tmp 1 rfl) shape_U1 shape_U1 rfl rfl ?_
  clear H5 w5
  intro w6 H6
  refine ops_done ?_
  refine then_normal ?_
  refine wp_seq ?_
  refine flow_region (dsts := [some 20, some 21, some 22, some 19, some 23, some 24, some 25, some 26, some 6, some 7, some 8, some 9]) (refs := [[.pre 0], [.res 0], [.res 1, .pre 4], [.res 2], [.res 3], [.res 3], [.res 3], [.res 3], [.res 4], [.res 5], [.res 6], [.res 7]]) (outs := [.res 8, .res 9, .res 10, .pre 2, .pre 3, .pre 4]) (als := [false, false, false, false, false, false, false, false, false, false, false, false]) (posts := [.ptr 167 1 (U1 b) 0, .val (Lit (.int .u64 b)), .val (Tup [IsB (pNeg 64 b), Lit (.int .u64 (pM 64 b)), Lit (.int .i64 (pE 64 b)), IsB (pOk 64 b)]), .val (Tup [IsB (pNeg 64 b), Lit (.int .u64 (pM 64 b)), Lit (.int .i64 (pE 64 b)), IsB (pOk 64 b)]), .val (IsB (pNeg 64 b)), .val (Lit (.int .u64 (pM 64 b))), .val (Lit (.int .i64 (pE 64 b))), .val (IsB (pOk 64 b)), .val (IsB (pNeg 64 b)), .val (Lit (.int .u64 (pM 64 b))), .val (Lit (.int .i64 (pE 64 b))), .val (IsB (pOk 64 b))])
    (out := [(6, .val (IsB (pNeg 64 b))), (7, .val (Lit (.int .u64 (pM 64 b)))), (8, .val (Lit (.int .i64 (pE 64 b)))), (2, .box 34 2 (Zero2)), (3, .val (Lit (.int .i64 0))), (33, .val (EnvV))]) (nb := []) H6 12 [] rfl (by kernel_rfl) rfl rfl ?_ ?_
  · refine .cons (.plain rfl (ok_addrBr (.tmp 0 rfl))) ?_
    refine .cons (.plain rfl (ok_loadU1 (.tmp 0 rfl))) ?_
    refine .cons (.plain rfl (ok_callE (con_iparts64 b hb) 1 rfl (.cons (.tmp 0 rfl) (.nil)))) ?_
    refine .cons (.plain rfl (ok_move (.tmp 0 rfl))) ?_
    refine .cons (.plain rfl (ok_extract 0 (.tmp 0 rfl) rfl)) ?_
    refine .cons (.plain rfl (ok_extract 1 (.tmp 0 rfl) rfl)) ?_
    refine .cons (.plain rfl (ok_extract 2 (.tmp 0 rfl) rfl)) ?_
    refine .cons (.plain rfl (ok_extract 3 (.tmp 0 rfl) rfl)) ?_
    refine .cons (.plain rfl (ok_assign (.tmp 0 rfl))) ?_
    refine .cons (.plain rfl (ok_assign (.tmp 0 rfl))) ?_
    refine .cons (.plain rfl (ok_assign (.tmp 0 rfl))) ?_
    refine .cons (.plain rfl (ok_assign (.tmp 0 rfl))) ?_
    exact .nil
  clear H6 a5 w6 B5
  intro a7 w7 B7 H7
  refine ops_done ?_
  refine then_normal ?_
  refine wp_seq ?_
  refine flow_region (dsts := [some 27, some 28, some 29, some 30, some 31]) (refs := [[.pre 0], [.pre 1], [.res 1], [.res 0, .res 2], [.pre 2]]) (outs := [.res 3, .res 4, .pre 3, .pre 4, .pre 5]) (als := [false, false, false, false, false]) (posts := [.val (IsB (pNeg 64 b)), .val (Lit (.int .u64 (pM 64 b))), .val (IsC (pM 64 b)), .val (IsN (sI (pNeg 64 b) (pM 64 b))), .val (Lit (.int .i64 (pE 64 b)))])
    (out := [(30, .val (IsN (sI (pNeg 64 b) (pM 64 b)))), (31, .val (Lit (.int .i64 (pE 64 b)))), (2, .box 34 2 (Zero2)), (3, .val (Lit (.int .i64 0))), (33, .val (EnvV))]) (nb := []) H7 5 [5, 6] rfl (by kernel_rfl) rfl rfl ?_ ?_
  · refine .cons (.plain rfl (ok_move (.tmp 0 rfl))) ?_
    refine .cons (.plain rfl (ok_move (.tmp 0 rfl))) ?_
    refine .cons (.plain rfl (ok_call (con_nfrom (pM 64 b) (by omega)) (.cons (.tmp 0 rfl) (.nil)))) ?_
    refine .cons (.plain rfl (ok_buildBN (.tmp 0 rfl) (.weak (.tmp 1 rfl) weakCM))) ?_
    refine .cons (.plain rfl (ok_move (.tmp 0 rfl))) ?_
    exact .nil
  clear H7 a7 w7 B7
  intro a8 w8 B8 H8
  refine ops_one ?_
  refine store_op (l' := [(30, .val (IsN (sI (pNeg 64 b) (pM 64 b)))), (31, .val (Lit (.int .i64 (pE 64 b)))), (2, .box 34 2 (IsN (sI (pNeg 64 b) (pM 64 b)))), (3, .val (Lit (.int .i64 0))), (33, .val (EnvV))]) 2 H8 rfl tyI rfl (.tmp 0 rfl) shape_Z shape_N rfl rfl ?_
  clear H8 w8
  intro w9 H9
  refine ops_one ?_
  refine tail_op (D := .val (Lit (.int .i64 (pE 64 b)))) (l' := [(3, .val (Lit (.int .i64 (pE 64 b)))), (30, .val (IsN (sI (pNeg 64 b) (pM 64 b)))), (31, .val (Lit (.int .i64 (pE 64 b)))), (2, .box 34 2 (IsN (sI (pNeg 64 b) (pM 64 b)))), (33, .val (EnvV))]) H9 rfl rfl rfl (.plain rfl (ok_assign (.tmp 1 rfl))) rfl rfl ?_
  clear H9 a8 w9 B8
  intro a10 w10 B10 H10
  refine ops_done ?_
  refine then_normal ?_
  refine wp_ret ?_
  refine block_ret ?_
  refine then_ret ?_
  exact f_retN H10 rfl rfl (.cell 3 tyI rfl (fun v w B h => by exact h) (.tmp 0 rfl (fun v w B h => by exact h) (.nil)))

set_option maxRecDepth 20000 in
set_option maxHeartbeats 2000000 in
theorem con_raise (X n : Int) (hX : -18446744073709551616 < X ∧ X < 18446744073709551616) (hn : 0 ≤ n ∧ n ≤ 4096) : Con Tryz.prog 87 [IsN X, Lit (.int .i64 n)] (IsN (X * 2 ^ n.toNat)) := by
  refine f_enter (N := 18) Tryz.ntmps87 (fun _ _ => by go_simp) Tryz.func87 rfl (by simp) ?_
  intro a0 w0 B0 H0
  replace H0 : St 18 w0 B0 a0 w0 B0 [(0, .val (IsN X)), (1, .val (Lit (.int .i64 n)))] [] := H0
  refine wp_seq ?_
  have hs := shl_small X n hX hn
  refine flow_region (dsts := [some 2, some 4]) (refs := [[.pre 0], []]) (outs := [.res 0, .res 1, .pre 1]) (als := [true, true]) (posts := [.box 34 2 (IsN X), .box 34 2 (Zero2)])
    (out := [(2, .box 34 2 (IsN X)), (4, .box 34 2 (Zero2)), (1, .val (Lit (.int .i64 n)))]) (nb := [2, 4]) H0 2 [] rfl (by kernel_rfl) rfl rfl ?_ ?_
  · refine .cons (.plain rfl (ok_box (.tmp 0 rfl) shape_N.two)) ?_
    refine .cons (.plain rfl (ok_alloc (D := Zero2) zeroI rfl (fun _ _ => rfl))) ?_
    exact .nil
  clear H0
  intro a1 w1 B1 H1
  simp only [List.cons_append, List.nil_append] at H1
  refine ops_done ?_
  refine then_normal ?_
  refine wp_seq ?_
  refine flow_region (dsts := [some 8, some 9, some 10, some 11, some 7, some 12, some 13, some 5, some 6]) (refs := [[.pre 0], [.res 0], [.pre 2], [.res 1, .res 2], [.res 3], [.res 4], [.res 4], [.res 5], [.res 6]]) (outs := [.res 7, .pre 0, .pre 1]) (als := [false, false, false, false, false, false, false, false, false]) (posts := [.ptr 34 2 (IsN X) 1, .val (IsM ((X).natAbs : Int)), .val (Lit (.int .i64 n)), .val (Tup [IsC (shlNum (X.natAbs : Int) n), IsB (shlOk (X.natAbs : Int) n)]), .val (Tup [IsC (shlNum (X.natAbs : Int) n), IsB (shlOk (X.natAbs : Int) n)]), .val (IsC (shlNum (X.natAbs : Int) n)), .val (IsB (shlOk (X.natAbs : Int) n)), .val (IsC (shlNum (X.natAbs : Int) n)), .val (IsB (shlOk (X.natAbs : Int) n))])
    (out := [(5, .val (IsC (shlNum (X.natAbs : Int) n))), (2, .box 34 2 (IsN X)), (4, .box 34 2 (Zero2))]) (nb := []) H1 9 [] rfl (by kernel_rfl) rfl rfl ?_ ?_
  · refine .cons (.plain rfl (ok_addrI1 (.tmp 0 rfl))) ?_
    refine .cons (.plain rfl (ok_loadMagN (.tmp 0 rfl))) ?_
    refine .cons (.plain rfl (ok_move (.tmp 0 rfl))) ?_
    refine .cons (.plain rfl (ok_call (con_nshl ((X.natAbs : Int)) n (by omega) (by omega) hs.2) (.cons (.tmp 0 rfl) (.cons (.tmp 1 rfl) (.nil))))) ?_
    refine .cons (.plain rfl (ok_move (.tmp 0 rfl))) ?_
    refine .cons (.plain rfl (ok_extract 0 (.tmp 0 rfl) rfl)) ?_
    refine .cons (.plain rfl (ok_extract 1 (.tmp 0 rfl) rfl)) ?_
    refine .cons (.plain rfl (ok_assign (.tmp 0 rfl))) ?_
    refine .cons (.plain rfl (ok_assign (.tmp 0 rfl))) ?_
    exact .nil
  clear H1 a1 w1 B1
  intro a2 w2 B2 H2
  refine ops_done ?_
  refine then_normal ?_
  refine wp_seq ?_
  refine flow_region (dsts := [some 14, some 15, some 16, some 17]) (refs := [[.pre 1], [.res 0], [.pre 0], [.res 1, .res 2]]) (outs := [.res 3, .pre 2]) (als := [false, false, false, false]) (posts := [.ptr 34 2 (IsN X) 0, .val (IsSg X), .val (IsC (shlNum (X.natAbs : Int) n)), .val (IsN (X * 2 ^ n.toNat))])
    (out := [(17, .val (IsN (X * 2 ^ n.toNat))), (4, .box 34 2 (Zero2))]) (nb := []) H2 4 [4] rfl (by kernel_rfl) rfl rfl ?_ ?_
  · refine .cons (.plain rfl (ok_addrI0 (.tmp 0 rfl))) ?_
    refine .cons (.plain rfl (ok_loadNegN (.tmp 0 rfl))) ?_
    refine .cons (.plain rfl (ok_move (.tmp 0 rfl))) ?_
    refine .cons (.plain rfl (ok_buildSN (N := X * 2 ^ n.toNat) (.weak (.tmp 0 rfl) (weakSgM n.toNat)) (.weak (.weak (.tmp 1 rfl) (fun v w B h => isC_e hs.1 h)) weakCM))) ?_
    exact .nil
  clear H2 a2 w2 B2
  intro a3 w3 B3 H3
  refine ops_one ?_
  refine store_op (l' := [(17, .val (IsN (X * 2 ^ n.toNat))), (4, .box 34 2 (IsN (X * 2 ^ n.toNat)))]) 1 H3 rfl tyI rfl (.tmp 0 rfl) shape_Z shape_N rfl rfl ?_
  clear H3 w3
  intro w4 H4
  refine ops_done ?_
  refine then_normal ?_
  refine wp_ret ?_
  exact f_retC H4 tyI rfl 1 rfl (fun _ _ _ h => h)

set_option maxRecDepth 20000 in
set_option maxHeartbeats 2000000 in
theorem con_samevals : Con Tryz.prog 70 [K0, K0] (IsB true) := by
  refine f_enter (N := 27) Tryz.ntmps70 (fun _ _ => by go_simp) Tryz.func70 rfl (by simp) ?_
  intro a0 w0 B0 H0
  replace H0 : St 27 w0 B0 a0 w0 B0 [(0, .val (K0)), (1, .val (K0))] [] := H0
  refine wp_seq ?_
  refine flow_region (dsts := [some 4]) (refs := [[]]) (outs := [.res 0, .pre 0, .pre 1]) (als := [false]) (posts := [.val (IsB false)])
    (out := [(4, .val (IsB false)), (0, .val (K0)), (1, .val (K0))]) (nb := []) H0 1 [] rfl (by kernel_rfl) rfl rfl ?_ ?_
  · refine .cons (.plain rfl (ok_assign (.lit))) ?_
    exact .nil
  clear H0
  intro a1 w1 B1 H1
  refine ops_done ?_
  refine then_normal ?_
  refine wp_seq ?_
  refine wp_seq ?_
  refine flow_region (dsts := [some 6, some 7, some 8, some 9, some 10]) (refs := [[.pre 1], [.res 0], [.pre 2], [.res 2], [.res 1, .res 3]]) (outs := [.res 4, .pre 0, .pre 1, .pre 2]) (als := [false, false, false, false, false]) (posts := [.val (K0), .val (Lit (.int .i64 0)), .val (K0), .val (Lit (.int .i64 0)), .val (IsB false)])
    (out := [(10, .val (IsB false)), (4, .val (IsB false)), (0, .val (K0)), (1, .val (K0))]) (nb := []) H1 5 [] rfl (by kernel_rfl) rfl rfl ?_ ?_
  · refine .cons (.plain rfl (ok_move (.tmp 0 rfl))) ?_
    refine .cons (.plain rfl (ok_lenK0 (.tmp 0 rfl))) ?_
    refine .cons (.plain rfl (ok_move (.tmp 0 rfl))) ?_
    refine .cons (.plain rfl (ok_lenK0 (.tmp 0 rfl))) ?_
    refine .cons (.plain rfl (ok_cmp (b := false) (.tmp 0 rfl) (.tmp 1 rfl) (by decide))) ?_
    exact .nil
  clear H1 a1 w1 B1
  intro a2 w2 B2 H2
  refine ops_done ?_
  refine then_normal ?_
  refine f_condF H2 (.tmp 0 rfl) ?_
  refine wp_skip ?_
  refine then_normal ?_
  refine wp_seq ?_
  refine wp_seq ?_
  refine flow_region (dsts := [some 5]) (refs := [[]]) (outs := [.res 0, .pre 1, .pre 2, .pre 3]) (als := [false]) (posts := [.val (Lit (.int .i64 0))])
    (out := [(5, .val (Lit (.int .i64 0))), (4, .val (IsB false)), (0, .val (K0)), (1, .val (K0))]) (nb := []) H2 1 [] rfl (by kernel_rfl) rfl rfl ?_ ?_
  · refine .cons (.plain rfl (ok_assign (.lit))) ?_
    exact .nil
  clear H2 a2 w2 B2
  intro a3 w3 B3 H3
  refine ops_done ?_
  refine then_normal ?_
  refine wp_block ?_
  refine wp_loop_rounds 1 ?_
  rw [rounds_succ]
  refine wp_seq ?_
  refine wp_seq ?_
  refine flow_region (dsts := [some 11, some 12, some 13, some 14]) (refs := [[.pre 0], [.pre 2], [.res 1], [.res 0, .res 2]]) (outs := [.res 0, .res 1, .res 2, .res 3, .pre 0, .pre 1, .pre 2, .pre 3]) (als := [false, false, false, false]) (posts := [.val (Lit (.int .i64 0)), .val (K0), .val (Lit (.int .i64 0)), .val (IsB false)])
    (out := [(11, .val (Lit (.int .i64 0))), (12, .val (K0)), (13, .val (Lit (.int .i64 0))), (14, .val (IsB false)), (5, .val (Lit (.int .i64 0))), (4, .val (IsB false)), (0, .val (K0)), (1, .val (K0))]) (nb := []) H3 4 [] rfl (by kernel_rfl) rfl rfl ?_ ?_
  · refine .cons (.plain rfl (ok_move (.tmp 0 rfl))) ?_
    refine .cons (.plain rfl (ok_move (.tmp 0 rfl))) ?_
    refine .cons (.plain rfl (ok_lenK0 (.tmp 0 rfl))) ?_
    refine .cons (.plain rfl (ok_cmp (b := false) (.tmp 0 rfl) (.tmp 1 rfl) (by decide))) ?_
    exact .nil
  clear H3 a3 w3 B3
  intro a4 w4 B4 H4
  refine ops_done ?_
  refine then_normal ?_
  refine f_condF H4 (.tmp 3 rfl) ?_
  refine wp_exit ?_
  refine then_exit ?_
  refine then_exit ?_
  refine block_exit ?_
  refine then_normal ?_
  refine wp_seq ?_
  refine flow_region (dsts := [some 4]) (refs := [[]]) (outs := [.res 0, .pre 0, .pre 1, .pre 2, .pre 3, .pre 4, .pre 6, .pre 7]) (als := [false]) (posts := [.val (IsB true)])
    (out := [(4, .val (IsB true)), (11, .val (Lit (.int .i64 0))), (12, .val (K0)), (13, .val (Lit (.int .i64 0))), (14, .val (IsB false)), (5, .val (Lit (.int .i64 0))), (0, .val (K0)), (1, .val (K0))]) (nb := []) H4 1 [] rfl (by kernel_rfl) rfl rfl ?_ ?_
  · refine .cons (.plain rfl (ok_assign (.lit))) ?_
    exact .nil
  clear H4 a4 w4 B4
  intro a5 w5 B5 H5
  refine ops_done ?_
  refine then_normal ?_
  refine wp_ret ?_
  exact f_ret H5 rfl 0 rfl (fun _ _ _ h => h)

set_option maxRecDepth 20000 in
set_option maxHeartbeats 2000000 in
theorem con_svii (X Y : Int) : Con Tryz.prog 16 [IsNum (.int X), IsNum (.int Y)] (IsB (decide (NV.int X = NV.int Y))) := by
  refine f_enter (N := 52) Tryz.ntmps16 (fun _ _ => by go_simp) Tryz.func16 rfl (by simp) ?_
  intro a0 w0 B0 H0
  replace H0 : St 52 w0 B0 a0 w0 B0 [(0, .val (IsNum (.int X))), (1, .val (IsNum (.int Y)))] [] := H0
  refine wp_seq ?_
  refine flow_region (dsts := [some 2, some 3, some 4]) (refs := [[.pre 0], [.pre 1], []]) (outs := [.res 0, .res 1, .res 2]) (als := [true, true, false]) (posts := [.box 37 8 (IsNum (.int X)), .box 37 8 (IsNum (.int Y)), .val (IsB false)])
    (out := [(2, .box 37 8 (IsNum (.int X))), (3, .box 37 8 (IsNum (.int Y))), (4, .val (IsB false))]) (nb := [2, 3]) H0 3 [] rfl (by kernel_rfl) rfl rfl ?_ ?_
  · refine .cons (.plain rfl (ok_box (.tmp 0 rfl) shape_Num.two)) ?_
    refine .cons (.plain rfl (ok_box (.tmp 0 rfl) shape_Num.two)) ?_
    refine .cons (.plain rfl (ok_assign (.lit))) ?_
    exact .nil
  clear H0
  intro a1 w1 B1 H1
  simp only [List.cons_append, List.nil_append] at H1
  refine ops_done ?_
  refine then_normal ?_
  refine wp_seq ?_
  rcases (Decidable.em (X = Y)) with c0 | c0
  · refine flow_region (dsts := [some 5, some 6, some 7, some 8, some 9, some 10, some 11, some 12, some 13, some 14, some 15, some 16, some 17, some 18, some 19, some 20, some 21, some 22, some 23, some 24, some 25, some 26, some 27, some 28, some 29, some 30, some 31, some 32, some 33, some 34, some 35, some 36, some 37, some 38, some 39, some 40, some 41, some 42, some 43, some 44, some 45, some 46, some 47, some 48, some 49, some 50, some 51, some 4]) (refs := [[.pre 0], [.res 0], [.pre 1], [.res 2], [.res 1, .res 3], [.res 4], [.res 5, .pre 0], [.res 5, .res 6], [.res 5, .pre 1], [.res 5, .res 8], [.res 5, .res 7, .res 9], [.res 5, .res 10], [.res 11], [.res 12, .pre 0], [.res 12, .res 13], [.res 12, .pre 1], [.res 12, .res 15], [.res 12, .res 14, .res 16], [.res 12, .res 17], [.res 18], [.res 19, .pre 0], [.res 19, .res 20], [.res 19, .pre 1], [.res 19, .res 22], [.res 19, .res 21, .res 23], [.res 19, .res 24], [.res 25], [.res 26, .pre 0], [.res 26, .res 27], [.res 26, .pre 1], [.res 26, .res 29], [.res 26, .res 28, .res 30], [.res 26, .res 31], [.res 32], [.res 33, .pre 0], [.res 33, .res 34], [.res 33, .pre 1], [.res 33, .res 36], [.res 33, .res 35, .res 37], [.res 33, .res 38], [.res 39], [.res 40, .pre 0], [.res 40, .res 41], [.res 40, .pre 1], [.res 40, .res 43], [.res 40, .res 42, .res 44], [.res 40, .res 45], [.res 46]]) (outs := [.res 47]) (als := [false, false, false, false, false, false, false, false, false, false, false, false, false, false, false, false, false, false, false, false, false, false, false, false, false, false, false, false, false, false, false, false, false, false, false, false, false, false, false, false, false, false, false, false, false, false, false, false]) (posts := [.ptr 37 8 (IsNum (.int X)) 0, .val (Lit (.int .i8 3)), .ptr 37 8 (IsNum (.int Y)) 0, .val (Lit (.int .i8 3)), .val (IsB true), .val (IsB true), .ptr 37 8 (IsNum (.int X)) 1, .val (Lit (.int .u64 0)), .ptr 37 8 (IsNum (.int Y)) 1, .val (Lit (.int .u64 0)), .val (IsB true), .val (IsB true), .val (IsB true), .ptr 37 8 (IsNum (.int X)) 4, .val (Lit (.int .u64 0)), .ptr 37 8 (IsNum (.int Y)) 4, .val (Lit (.int .u64 0)), .val (IsB true), .val (IsB true), .val (IsB true), .ptr 37 8 (IsNum (.int X)) 5, .val (Lit (.int .i8 0)), .ptr 37 8 (IsNum (.int Y)) 5, .val (Lit (.int .i8 0)), .val (IsB true), .val (IsB true), .val (IsB true), .ptr 37 8 (IsNum (.int X)) 6, .val (Lit (.string (⟨#[]⟩))), .ptr 37 8 (IsNum (.int Y)) 6, .val (Lit (.string (⟨#[]⟩))), .val (IsB true), .val (IsB true), .val (IsB true), .ptr 37 8 (IsNum (.int X)) 2, .val (IsI X), .ptr 37 8 (IsNum (.int Y)) 2, .val (IsI Y), .val (IsB true), .val (IsB true), .val (IsB true), .ptr 37 8 (IsNum (.int X)) 7, .val (K0), .ptr 37 8 (IsNum (.int Y)) 7, .val (K0), .val (IsB true), .val (IsB true), .val (IsB true)])
      (out := [(4, .val (IsB true))]) (nb := []) H1 48 [] rfl (by kernel_rfl) rfl rfl ?_ ?_
    · refine .cons (.plain rfl (ok_addrV0 (.tmp 0 rfl))) ?_
      refine .cons (.plain rfl (ok_loadV0 (.tmp 0 rfl))) ?_
      refine .cons (.plain rfl (ok_addrV0 (.tmp 0 rfl))) ?_
      refine .cons (.plain rfl (ok_loadV0 (.tmp 0 rfl))) ?_
      refine .cons (.plain rfl (ok_cmp (b := true) (.tmp 0 rfl) (.tmp 1 rfl) (by decide))) ?_
      refine .cons (.plain rfl (ok_move (.tmp 0 rfl))) ?_
      refine .cons (.wanted 5 true rfl rfl rfl 0 rfl (ok_addrV1 (.tmp 1 rfl))) ?_
      refine .cons (.wanted 5 true rfl rfl rfl 0 rfl (ok_loadV1 (.tmp 1 rfl))) ?_
      refine .cons (.wanted 5 true rfl rfl rfl 0 rfl (ok_addrV1 (.tmp 1 rfl))) ?_
      refine .cons (.wanted 5 true rfl rfl rfl 0 rfl (ok_loadV1 (.tmp 1 rfl))) ?_
      refine .cons (.wanted 5 true rfl rfl rfl 0 rfl (ok_cmp (b := true) (.tmp 1 rfl) (.tmp 2 rfl) (by decide))) ?_
      refine .cons (.plain rfl (ok_pickT (.tmp 0 rfl) (.tmp 1 rfl))) ?_
      refine .cons (.plain rfl (ok_move (.tmp 0 rfl))) ?_
      refine .cons (.wanted 12 true rfl rfl rfl 0 rfl (ok_addrV3 (.tmp 1 rfl))) ?_
      refine .cons (.wanted 12 true rfl rfl rfl 0 rfl (ok_loadV3 (.tmp 1 rfl))) ?_
      refine .cons (.wanted 12 true rfl rfl rfl 0 rfl (ok_addrV3 (.tmp 1 rfl))) ?_
      refine .cons (.wanted 12 true rfl rfl rfl 0 rfl (ok_loadV3 (.tmp 1 rfl))) ?_
      refine .cons (.wanted 12 true rfl rfl rfl 0 rfl (ok_cmp (b := true) (.tmp 1 rfl) (.tmp 2 rfl) (by decide))) ?_
      refine .cons (.plain rfl (ok_pickT (.tmp 0 rfl) (.tmp 1 rfl))) ?_
      refine .cons (.plain rfl (ok_move (.tmp 0 rfl))) ?_
      refine .cons (.wanted 19 true rfl rfl rfl 0 rfl (ok_addrV4 (.tmp 1 rfl))) ?_
      refine .cons (.wanted 19 true rfl rfl rfl 0 rfl (ok_loadV4 (.tmp 1 rfl))) ?_
      refine .cons (.wanted 19 true rfl rfl rfl 0 rfl (ok_addrV4 (.tmp 1 rfl))) ?_
      refine .cons (.wanted 19 true rfl rfl rfl 0 rfl (ok_loadV4 (.tmp 1 rfl))) ?_
      refine .cons (.wanted 19 true rfl rfl rfl 0 rfl (ok_cmp (b := true) (.tmp 1 rfl) (.tmp 2 rfl) (by decide))) ?_
      refine .cons (.plain rfl (ok_pickT (.tmp 0 rfl) (.tmp 1 rfl))) ?_
      refine .cons (.plain rfl (ok_move (.tmp 0 rfl))) ?_
      refine .cons (.wanted 26 true rfl rfl rfl 0 rfl (ok_addrV5 (.tmp 1 rfl))) ?_
      refine .cons (.wanted 26 true rfl rfl rfl 0 rfl (ok_loadV5 (.tmp 1 rfl))) ?_
      refine .cons (.wanted 26 true rfl rfl rfl 0 rfl (ok_addrV5 (.tmp 1 rfl))) ?_
      refine .cons (.wanted 26 true rfl rfl rfl 0 rfl (ok_loadV5 (.tmp 1 rfl))) ?_
      refine .cons (.wanted 26 true rfl rfl rfl 0 rfl (ok_eqS (b := true) (.tmp 1 rfl) (.tmp 2 rfl) ((decide_eq_true (rfl)).symm))) ?_
      refine .cons (.plain rfl (ok_pickT (.tmp 0 rfl) (.tmp 1 rfl))) ?_
      refine .cons (.plain rfl (ok_move (.tmp 0 rfl))) ?_
      refine .cons (.wanted 33 true rfl rfl rfl 0 rfl (ok_addrV2 (.tmp 1 rfl))) ?_
      refine .cons (.wanted 33 true rfl rfl rfl 0 rfl (ok_loadV2 (.tmp 1 rfl))) ?_
      refine .cons (.wanted 33 true rfl rfl rfl 0 rfl (ok_addrV2 (.tmp 1 rfl))) ?_
      refine .cons (.wanted 33 true rfl rfl rfl 0 rfl (ok_loadV2 (.tmp 1 rfl))) ?_
      refine .cons (.wanted 33 true rfl rfl rfl 0 rfl (OpOk.eqB (b := decide (X = Y)) (ok_call (con_same X Y) (.cons (.tmp 1 rfl) (.cons (.tmp 2 rfl) (.nil)))) (decide_eq_true c0))) ?_
      refine .cons (.plain rfl (ok_pickT (.tmp 0 rfl) (.tmp 1 rfl))) ?_
      refine .cons (.plain rfl (ok_move (.tmp 0 rfl))) ?_
      refine .cons (.wanted 40 true rfl rfl rfl 0 rfl (ok_addrV6 (.tmp 1 rfl))) ?_
      refine .cons (.wanted 40 true rfl rfl rfl 0 rfl (ok_loadV6 (.tmp 1 rfl))) ?_
      refine .cons (.wanted 40 true rfl rfl rfl 0 rfl (ok_addrV6 (.tmp 1 rfl))) ?_
      refine .cons (.wanted 40 true rfl rfl rfl 0 rfl (ok_loadV6 (.tmp 1 rfl))) ?_
      refine .cons (.wanted 40 true rfl rfl rfl 0 rfl (ok_call (con_samevals) (.cons (.tmp 1 rfl) (.cons (.tmp 2 rfl) (.nil))))) ?_
      refine .cons (.plain rfl (ok_pickT (.tmp 0 rfl) (.tmp 1 rfl))) ?_
      refine .cons (.plain rfl (ok_assign (.tmp 0 rfl))) ?_
      exact .nil
    clear H1 a1 w1 B1
    intro a2 w2 B2 H2
    refine ops_done ?_
    refine then_normal ?_
    refine wp_ret ?_
    exact f_ret H2 rfl 0 rfl (fun v w B h => by refine isB_e ?_ h; first | simp [c0] | simp)
  · refine flow_region (dsts := [some 5, some 6, some 7, some 8, some 9, some 10, some 11, some 12, some 13, some 14, some 15, some 16, some 17, some 18, some 19, some 20, some 21, some 22, some 23, some 24, some 25, some 26, some 27, some 28, some 29, some 30, some 31, some 32, some 33, some 34, some 35, some 36, some 37, some 38, some 39, some 40, some 41, some 42, some 43, some 44, some 45, some 46, some 47, some 48, some 49, some 50, some 51, some 4]) (refs := [[.pre 0], [.res 0], [.pre 1], [.res 2], [.res 1, .res 3], [.res 4], [.res 5, .pre 0], [.res 5, .res 6], [.res 5, .pre 1], [.res 5, .res 8], [.res 5, .res 7, .res 9], [.res 5, .res 10], [.res 11], [.res 12, .pre 0], [.res 12, .res 13], [.res 12, .pre 1], [.res 12, .res 15], [.res 12, .res 14, .res 16], [.res 12, .res 17], [.res 18], [.res 19, .pre 0], [.res 19, .res 20], [.res 19, .pre 1], [.res 19, .res 22], [.res 19, .res 21, .res 23], [.res 19, .res 24], [.res 25], [.res 26, .pre 0], [.res 26, .res 27], [.res 26, .pre 1], [.res 26, .res 29], [.res 26, .res 28, .res 30], [.res 26, .res 31], [.res 32], [.res 33, .pre 0], [.res 33, .res 34], [.res 33, .pre 1], [.res 33, .res 36], [.res 33, .res 35, .res 37], [.res 33, .res 38], [.res 39], [.res 40], [.res 40], [.res 40], [.res 40], [.res 40], [.res 40], [.res 46]]) (outs := [.res 47]) (als := [false, false, false, false, false, false, false, false, false, false, false, false, false, false, false, false, false, false, false, false, false, false, false, false, false, false, false, false, false, false, false, false, false, false, false, false, false, false, false, false, false, false, false, false, false, false, false, false]) (posts := [.ptr 37 8 (IsNum (.int X)) 0, .val (Lit (.int .i8 3)), .ptr 37 8 (IsNum (.int Y)) 0, .val (Lit (.int .i8 3)), .val (IsB true), .val (IsB true), .ptr 37 8 (IsNum (.int X)) 1, .val (Lit (.int .u64 0)), .ptr 37 8 (IsNum (.int Y)) 1, .val (Lit (.int .u64 0)), .val (IsB true), .val (IsB true), .val (IsB true), .ptr 37 8 (IsNum (.int X)) 4, .val (Lit (.int .u64 0)), .ptr 37 8 (IsNum (.int Y)) 4, .val (Lit (.int .u64 0)), .val (IsB true), .val (IsB true), .val (IsB true), .ptr 37 8 (IsNum (.int X)) 5, .val (Lit (.int .i8 0)), .ptr 37 8 (IsNum (.int Y)) 5, .val (Lit (.int .i8 0)), .val (IsB true), .val (IsB true), .val (IsB true), .ptr 37 8 (IsNum (.int X)) 6, .val (Lit (.string (⟨#[]⟩))), .ptr 37 8 (IsNum (.int Y)) 6, .val (Lit (.string (⟨#[]⟩))), .val (IsB true), .val (IsB true), .val (IsB true), .ptr 37 8 (IsNum (.int X)) 2, .val (IsI X), .ptr 37 8 (IsNum (.int Y)) 2, .val (IsI Y), .val (IsB false), .val (IsB false), .val (IsB false), .val (IsUndef), .val (IsUndef), .val (IsUndef), .val (IsUndef), .val (IsUndef), .val (IsB false), .val (IsB false)])
      (out := [(4, .val (IsB false))]) (nb := []) H1 48 [] rfl (by kernel_rfl) rfl rfl ?_ ?_
    · refine .cons (.plain rfl (ok_addrV0 (.tmp 0 rfl))) ?_
      refine .cons (.plain rfl (ok_loadV0 (.tmp 0 rfl))) ?_
      refine .cons (.plain rfl (ok_addrV0 (.tmp 0 rfl))) ?_
      refine .cons (.plain rfl (ok_loadV0 (.tmp 0 rfl))) ?_
      refine .cons (.plain rfl (ok_cmp (b := true) (.tmp 0 rfl) (.tmp 1 rfl) (by decide))) ?_
      refine .cons (.plain rfl (ok_move (.tmp 0 rfl))) ?_
      refine .cons (.wanted 5 true rfl rfl rfl 0 rfl (ok_addrV1 (.tmp 1 rfl))) ?_
      refine .cons (.wanted 5 true rfl rfl rfl 0 rfl (ok_loadV1 (.tmp 1 rfl))) ?_
      refine .cons (.wanted 5 true rfl rfl rfl 0 rfl (ok_addrV1 (.tmp 1 rfl))) ?_
      refine .cons (.wanted 5 true rfl rfl rfl 0 rfl (ok_loadV1 (.tmp 1 rfl))) ?_
      refine .cons (.wanted 5 true rfl rfl rfl 0 rfl (ok_cmp (b := true) (.tmp 1 rfl) (.tmp 2 rfl) (by decide))) ?_
      refine .cons (.plain rfl (ok_pickT (.tmp 0 rfl) (.tmp 1 rfl))) ?_
      refine .cons (.plain rfl (ok_move (.tmp 0 rfl))) ?_
      refine .cons (.wanted 12 true rfl rfl rfl 0 rfl (ok_addrV3 (.tmp 1 rfl))) ?_
      refine .cons (.wanted 12 true rfl rfl rfl 0 rfl (ok_loadV3 (.tmp 1 rfl))) ?_
      refine .cons (.wanted 12 true rfl rfl rfl 0 rfl (ok_addrV3 (.tmp 1 rfl))) ?_
      refine .cons (.wanted 12 true rfl rfl rfl 0 rfl (ok_loadV3 (.tmp 1 rfl))) ?_
      refine .cons (.wanted 12 true rfl rfl rfl 0 rfl (ok_cmp (b := true) (.tmp 1 rfl) (.tmp 2 rfl) (by decide))) ?_
      refine .cons (.plain rfl (ok_pickT (.tmp 0 rfl) (.tmp 1 rfl))) ?_
      refine .cons (.plain rfl (ok_move (.tmp 0 rfl))) ?_
      refine .cons (.wanted 19 true rfl rfl rfl 0 rfl (ok_addrV4 (.tmp 1 rfl))) ?_
      refine .cons (.wanted 19 true rfl rfl rfl 0 rfl (ok_loadV4 (.tmp 1 rfl))) ?_
      refine .cons (.wanted 19 true rfl rfl rfl 0 rfl (ok_addrV4 (.tmp 1 rfl))) ?_
      refine .cons (.wanted 19 true rfl rfl rfl 0 rfl (ok_loadV4 (.tmp 1 rfl))) ?_
      refine .cons (.wanted 19 true rfl rfl rfl 0 rfl (ok_cmp (b := true) (.tmp 1 rfl) (.tmp 2 rfl) (by decide))) ?_
      refine .cons (.plain rfl (ok_pickT (.tmp 0 rfl) (.tmp 1 rfl))) ?_
      refine .cons (.plain rfl (ok_move (.tmp 0 rfl))) ?_
      refine .cons (.wanted 26 true rfl rfl rfl 0 rfl (ok_addrV5 (.tmp 1 rfl))) ?_
      refine .cons (.wanted 26 true rfl rfl rfl 0 rfl (ok_loadV5 (.tmp 1 rfl))) ?_
      refine .cons (.wanted 26 true rfl rfl rfl 0 rfl (ok_addrV5 (.tmp 1 rfl))) ?_
      refine .cons (.wanted 26 true rfl rfl rfl 0 rfl (ok_loadV5 (.tmp 1 rfl))) ?_
      refine .cons (.wanted 26 true rfl rfl rfl 0 rfl (ok_eqS (b := true) (.tmp 1 rfl) (.tmp 2 rfl) ((decide_eq_true (rfl)).symm))) ?_
      refine .cons (.plain rfl (ok_pickT (.tmp 0 rfl) (.tmp 1 rfl))) ?_
      refine .cons (.plain rfl (ok_move (.tmp 0 rfl))) ?_
      refine .cons (.wanted 33 true rfl rfl rfl 0 rfl (ok_addrV2 (.tmp 1 rfl))) ?_
      refine .cons (.wanted 33 true rfl rfl rfl 0 rfl (ok_loadV2 (.tmp 1 rfl))) ?_
      refine .cons (.wanted 33 true rfl rfl rfl 0 rfl (ok_addrV2 (.tmp 1 rfl))) ?_
      refine .cons (.wanted 33 true rfl rfl rfl 0 rfl (ok_loadV2 (.tmp 1 rfl))) ?_
      refine .cons (.wanted 33 true rfl rfl rfl 0 rfl (OpOk.eqB (b := decide (X = Y)) (ok_call (con_same X Y) (.cons (.tmp 1 rfl) (.cons (.tmp 2 rfl) (.nil)))) (decide_eq_false c0))) ?_
      refine .cons (.plain rfl (ok_pickT (.tmp 0 rfl) (.tmp 1 rfl))) ?_
      refine .cons (.plain rfl (ok_move (.tmp 0 rfl))) ?_
      refine .cons (.unwanted 40 true rfl rfl rfl 0 rfl) ?_
      refine .cons (.unwanted 40 true rfl rfl rfl 0 rfl) ?_
      refine .cons (.unwanted 40 true rfl rfl rfl 0 rfl) ?_
      refine .cons (.unwanted 40 true rfl rfl rfl 0 rfl) ?_
      refine .cons (.unwanted 40 true rfl rfl rfl 0 rfl) ?_
      refine .cons (.plain rfl (ok_pickF (.tmp 0 rfl) (.lit))) ?_
      refine .cons (.plain rfl (ok_assign (.tmp 0 rfl))) ?_
      exact .nil
    clear H1 a1 w1 B1
    intro a3 w3 B3 H3
    refine ops_done ?_
    refine then_normal ?_
    refine wp_ret ?_
    exact f_ret H3 rfl 0 rfl (fun v w B h => by refine isB_e ?_ h; first | simp [c0] | simp)

set_option maxRecDepth 20000 in
set_option maxHeartbeats 2000000 in
theorem con_svff (x y : Int) : Con Tryz.prog 16 [IsNum (.flt x), IsNum (.flt y)] (IsB (decide (NV.flt x = NV.flt y))) := by
  refine f_enter (N := 52) Tryz.ntmps16 (fun _ _ => by go_simp) Tryz.func16 rfl (by simp) ?_
  intro a0 w0 B0 H0
  replace H0 : St 52 w0 B0 a0 w0 B0 [(0, .val (IsNum (.flt x))), (1, .val (IsNum (.flt y)))] [] := H0
  refine wp_seq ?_
  refine flow_region (dsts := [some 2, some 3, some 4]) (refs := [[.pre 0], [.pre 1], []]) (outs := [.res 0, .res 1, .res 2]) (als := [true, true, false]) (posts := [.box 37 8 (IsNum (.flt x)), .box 37 8 (IsNum (.flt y)), .val (IsB false)])
    (out := [(2, .box 37 8 (IsNum (.flt x))), (3, .box 37 8 (IsNum (.flt y))), (4, .val (IsB false))]) (nb := [2, 3]) H0 3 [] rfl (by kernel_rfl) rfl rfl ?_ ?_
  · refine .cons (.plain rfl (ok_box (.tmp 0 rfl) shape_Num.two)) ?_
    refine .cons (.plain rfl (ok_box (.tmp 0 rfl) shape_Num.two)) ?_
    refine .cons (.plain rfl (ok_assign (.lit))) ?_
    exact .nil
  clear H0
  intro a1 w1 B1 H1
  simp only [List.cons_append, List.nil_append] at H1
  refine ops_done ?_
  refine then_normal ?_
  refine wp_seq ?_
  rcases (Decidable.em (x = y)) with c0 | c0
  · refine flow_region (dsts := [some 5, some 6, some 7, some 8, some 9, some 10, some 11, some 12, some 13, some 14, some 15, some 16, some 17, some 18, some 19, some 20, some 21, some 22, some 23, some 24, some 25, some 26, some 27, some 28, some 29, some 30, some 31, some 32, some 33, some 34, some 35, some 36, some 37, some 38, some 39, some 40, some 41, some 42, some 43, some 44, some 45, some 46, some 47, some 48, some 49, some 50, some 51, some 4]) (refs := [[.pre 0], [.res 0], [.pre 1], [.res 2], [.res 1, .res 3], [.res 4], [.res 5, .pre 0], [.res 5, .res 6], [.res 5, .pre 1], [.res 5, .res 8], [.res 5, .res 7, .res 9], [.res 5, .res 10], [.res 11], [.res 12, .pre 0], [.res 12, .res 13], [.res 12, .pre 1], [.res 12, .res 15], [.res 12, .res 14, .res 16], [.res 12, .res 17], [.res 18], [.res 19, .pre 0], [.res 19, .res 20], [.res 19, .pre 1], [.res 19, .res 22], [.res 19, .res 21, .res 23], [.res 19, .res 24], [.res 25], [.res 26, .pre 0], [.res 26, .res 27], [.res 26, .pre 1], [.res 26, .res 29], [.res 26, .res 28, .res 30], [.res 26, .res 31], [.res 32], [.res 33, .pre 0], [.res 33, .res 34], [.res 33, .pre 1], [.res 33, .res 36], [.res 33, .res 35, .res 37], [.res 33, .res 38], [.res 39], [.res 40, .pre 0], [.res 40, .res 41], [.res 40, .pre 1], [.res 40, .res 43], [.res 40, .res 42, .res 44], [.res 40, .res 45], [.res 46]]) (outs := [.res 47]) (als := [false, false, false, false, false, false, false, false, false, false, false, false, false, false, false, false, false, false, false, false, false, false, false, false, false, false, false, false, false, false, false, false, false, false, false, false, false, false, false, false, false, false, false, false, false, false, false, false]) (posts := [.ptr 37 8 (IsNum (.flt x)) 0, .val (Lit (.int .i8 4)), .ptr 37 8 (IsNum (.flt y)) 0, .val (Lit (.int .i8 4)), .val (IsB true), .val (IsB true), .ptr 37 8 (IsNum (.flt x)) 1, .val (Lit (.int .u64 0)), .ptr 37 8 (IsNum (.flt y)) 1, .val (Lit (.int .u64 0)), .val (IsB true), .val (IsB true), .val (IsB true), .ptr 37 8 (IsNum (.flt x)) 4, .val (Lit (.int .u64 x)), .ptr 37 8 (IsNum (.flt y)) 4, .val (Lit (.int .u64 y)), .val (IsB true), .val (IsB true), .val (IsB true), .ptr 37 8 (IsNum (.flt x)) 5, .val (Lit (.int .i8 0)), .ptr 37 8 (IsNum (.flt y)) 5, .val (Lit (.int .i8 0)), .val (IsB true), .val (IsB true), .val (IsB true), .ptr 37 8 (IsNum (.flt x)) 6, .val (Lit (.string (⟨#[]⟩))), .ptr 37 8 (IsNum (.flt y)) 6, .val (Lit (.string (⟨#[]⟩))), .val (IsB true), .val (IsB true), .val (IsB true), .ptr 37 8 (IsNum (.flt x)) 2, .val (IsI 0), .ptr 37 8 (IsNum (.flt y)) 2, .val (IsI 0), .val (IsB true), .val (IsB true), .val (IsB true), .ptr 37 8 (IsNum (.flt x)) 7, .val (K0), .ptr 37 8 (IsNum (.flt y)) 7, .val (K0), .val (IsB true), .val (IsB true), .val (IsB true)])
      (out := [(4, .val (IsB true))]) (nb := []) H1 48 [] rfl (by kernel_rfl) rfl rfl ?_ ?_
    · refine .cons (.plain rfl (ok_addrV0 (.tmp 0 rfl))) ?_
      refine .cons (.plain rfl (ok_loadV0 (.tmp 0 rfl))) ?_
      refine .cons (.plain rfl (ok_addrV0 (.tmp 0 rfl))) ?_
      refine .cons (.plain rfl (ok_loadV0 (.tmp 0 rfl))) ?_
      refine .cons (.plain rfl (ok_cmp (b := true) (.tmp 0 rfl) (.tmp 1 rfl) (by decide))) ?_
      refine .cons (.plain rfl (ok_move (.tmp 0 rfl))) ?_
      refine .cons (.wanted 5 true rfl rfl rfl 0 rfl (ok_addrV1 (.tmp 1 rfl))) ?_
      refine .cons (.wanted 5 true rfl rfl rfl 0 rfl (ok_loadV1 (.tmp 1 rfl))) ?_
      refine .cons (.wanted 5 true rfl rfl rfl 0 rfl (ok_addrV1 (.tmp 1 rfl))) ?_
      refine .cons (.wanted 5 true rfl rfl rfl 0 rfl (ok_loadV1 (.tmp 1 rfl))) ?_
      refine .cons (.wanted 5 true rfl rfl rfl 0 rfl (ok_cmp (b := true) (.tmp 1 rfl) (.tmp 2 rfl) (by decide))) ?_
      refine .cons (.plain rfl (ok_pickT (.tmp 0 rfl) (.tmp 1 rfl))) ?_
      refine .cons (.plain rfl (ok_move (.tmp 0 rfl))) ?_
      refine .cons (.wanted 12 true rfl rfl rfl 0 rfl (ok_addrV3 (.tmp 1 rfl))) ?_
      refine .cons (.wanted 12 true rfl rfl rfl 0 rfl (ok_loadV3 (.tmp 1 rfl))) ?_
      refine .cons (.wanted 12 true rfl rfl rfl 0 rfl (ok_addrV3 (.tmp 1 rfl))) ?_
      refine .cons (.wanted 12 true rfl rfl rfl 0 rfl (ok_loadV3 (.tmp 1 rfl))) ?_
      refine .cons (.wanted 12 true rfl rfl rfl 0 rfl (ok_cmp (b := true) (.tmp 1 rfl) (.tmp 2 rfl) ((decide_eq_true (c0)).symm))) ?_
      refine .cons (.plain rfl (ok_pickT (.tmp 0 rfl) (.tmp 1 rfl))) ?_
      refine .cons (.plain rfl (ok_move (.tmp 0 rfl))) ?_
      refine .cons (.wanted 19 true rfl rfl rfl 0 rfl (ok_addrV4 (.tmp 1 rfl))) ?_
      refine .cons (.wanted 19 true rfl rfl rfl 0 rfl (ok_loadV4 (.tmp 1 rfl))) ?_
      refine .cons (.wanted 19 true rfl rfl rfl 0 rfl (ok_addrV4 (.tmp 1 rfl))) ?_
      refine .cons (.wanted 19 true rfl rfl rfl 0 rfl (ok_loadV4 (.tmp 1 rfl))) ?_
      refine .cons (.wanted 19 true rfl rfl rfl 0 rfl (ok_cmp (b := true) (.tmp 1 rfl) (.tmp 2 rfl) (by decide))) ?_
      refine .cons (.plain rfl (ok_pickT (.tmp 0 rfl) (.tmp 1 rfl))) ?_
      refine .cons (.plain rfl (ok_move (.tmp 0 rfl))) ?_
      refine .cons (.wanted 26 true rfl rfl rfl 0 rfl (ok_addrV5 (.tmp 1 rfl))) ?_
      refine .cons (.wanted 26 true rfl rfl rfl 0 rfl (ok_loadV5 (.tmp 1 rfl))) ?_
      refine .cons (.wanted 26 true rfl rfl rfl 0 rfl (ok_addrV5 (.tmp 1 rfl))) ?_
      refine .cons (.wanted 26 true rfl rfl rfl 0 rfl (ok_loadV5 (.tmp 1 rfl))) ?_
      refine .cons (.wanted 26 true rfl rfl rfl 0 rfl (ok_eqS (b := true) (.tmp 1 rfl) (.tmp 2 rfl) ((decide_eq_true (rfl)).symm))) ?_
      refine .cons (.plain rfl (ok_pickT (.tmp 0 rfl) (.tmp 1 rfl))) ?_
      refine .cons (.plain rfl (ok_move (.tmp 0 rfl))) ?_
      refine .cons (.wanted 33 true rfl rfl rfl 0 rfl (ok_addrV2 (.tmp 1 rfl))) ?_
      refine .cons (.wanted 33 true rfl rfl rfl 0 rfl (ok_loadV2 (.tmp 1 rfl))) ?_
      refine .cons (.wanted 33 true rfl rfl rfl 0 rfl (ok_addrV2 (.tmp 1 rfl))) ?_
      refine .cons (.wanted 33 true rfl rfl rfl 0 rfl (ok_loadV2 (.tmp 1 rfl))) ?_
      refine .cons (.wanted 33 true rfl rfl rfl 0 rfl (ok_call (con_sameT (X := 0) rfl) (.cons (.tmp 1 rfl) (.cons (.tmp 2 rfl) (.nil))))) ?_
      refine .cons (.plain rfl (ok_pickT (.tmp 0 rfl) (.tmp 1 rfl))) ?_
      refine .cons (.plain rfl (ok_move (.tmp 0 rfl))) ?_
      refine .cons (.wanted 40 true rfl rfl rfl 0 rfl (ok_addrV6 (.tmp 1 rfl))) ?_
      refine .cons (.wanted 40 true rfl rfl rfl 0 rfl (ok_loadV6 (.tmp 1 rfl))) ?_
      refine .cons (.wanted 40 true rfl rfl rfl 0 rfl (ok_addrV6 (.tmp 1 rfl))) ?_
      refine .cons (.wanted 40 true rfl rfl rfl 0 rfl (ok_loadV6 (.tmp 1 rfl))) ?_
      refine .cons (.wanted 40 true rfl rfl rfl 0 rfl (ok_call (con_samevals) (.cons (.tmp 1 rfl) (.cons (.tmp 2 rfl) (.nil))))) ?_
      refine .cons (.plain rfl (ok_pickT (.tmp 0 rfl) (.tmp 1 rfl))) ?_
      refine .cons (.plain rfl (ok_assign (.tmp 0 rfl))) ?_
      exact .nil
    clear H1 a1 w1 B1
    intro a2 w2 B2 H2
    refine ops_done ?_
    refine then_normal ?_
    refine wp_ret ?_
    exact f_ret H2 rfl 0 rfl (fun v w B h => by refine isB_e ?_ h; first | simp [c0] | simp)
  · refine flow_region (dsts := [some 5, some 6, some 7, some 8, some 9, some 10, some 11, some 12, some 13, some 14, some 15, some 16, some 17, some 18, some 19, some 20, some 21, some 22, some 23, some 24, some 25, some 26, some 27, some 28, some 29, some 30, some 31, some 32, some 33, some 34, some 35, some 36, some 37, some 38, some 39, some 40, some 41, some 42, some 43, some 44, some 45, some 46, some 47, some 48, some 49, some 50, some 51, some 4]) (refs := [[.pre 0], [.res 0], [.pre 1], [.res 2], [.res 1, .res 3], [.res 4], [.res 5, .pre 0], [.res 5, .res 6], [.res 5, .pre 1], [.res 5, .res 8], [.res 5, .res 7, .res 9], [.res 5, .res 10], [.res 11], [.res 12, .pre 0], [.res 12, .res 13], [.res 12, .pre 1], [.res 12, .res 15], [.res 12, .res 14, .res 16], [.res 12, .res 17], [.res 18], [.res 19], [.res 19], [.res 19], [.res 19], [.res 19], [.res 19], [.res 25], [.res 26], [.res 26], [.res 26], [.res 26], [.res 26], [.res 26], [.res 32], [.res 33], [.res 33], [.res 33], [.res 33], [.res 33], [.res 33], [.res 39], [.res 40], [.res 40], [.res 40], [.res 40], [.res 40], [.res 40], [.res 46]]) (outs := [.res 47]) (als := [false, false, false, false, false, false, false, false, false, false, false, false, false, false, false, false, false, false, false, false, false, false, false, false, false, false, false, false, false, false, false, false, false, false, false, false, false, false, false, false, false, false, false, false, false, false, false, false]) (posts := [.ptr 37 8 (IsNum (.flt x)) 0, .val (Lit (.int .i8 4)), .ptr 37 8 (IsNum (.flt y)) 0, .val (Lit (.int .i8 4)), .val (IsB true), .val (IsB true), .ptr 37 8 (IsNum (.flt x)) 1, .val (Lit (.int .u64 0)), .ptr 37 8 (IsNum (.flt y)) 1, .val (Lit (.int .u64 0)), .val (IsB true), .val (IsB true), .val (IsB true), .ptr 37 8 (IsNum (.flt x)) 4, .val (Lit (.int .u64 x)), .ptr 37 8 (IsNum (.flt y)) 4, .val (Lit (.int .u64 y)), .val (IsB false), .val (IsB false), .val (IsB false), .val (IsUndef), .val (IsUndef), .val (IsUndef), .val (IsUndef), .val (IsUndef), .val (IsB false), .val (IsB false), .val (IsUndef), .val (IsUndef), .val (IsUndef), .val (IsUndef), .val (IsUndef), .val (IsB false), .val (IsB false), .val (IsUndef), .val (IsUndef), .val (IsUndef), .val (IsUndef), .val (IsUndef), .val (IsB false), .val (IsB false), .val (IsUndef), .val (IsUndef), .val (IsUndef), .val (IsUndef), .val (IsUndef), .val (IsB false), .val (IsB false)])
      (out := [(4, .val (IsB false))]) (nb := []) H1 48 [] rfl (by kernel_rfl) rfl rfl ?_ ?_
    · refine .cons (.plain rfl (ok_addrV0 (.tmp 0 rfl))) ?_
      refine .cons (.plain rfl (ok_loadV0 (.tmp 0 rfl))) ?_
      refine .cons (.plain rfl (ok_addrV0 (.tmp 0 rfl))) ?_
      refine .cons (.plain rfl (ok_loadV0 (.tmp 0 rfl))) ?_
      refine .cons (.plain rfl (ok_cmp (b := true) (.tmp 0 rfl) (.tmp 1 rfl) (by decide))) ?_
      refine .cons (.plain rfl (ok_move (.tmp 0 rfl))) ?_
      refine .cons (.wanted 5 true rfl rfl rfl 0 rfl (ok_addrV1 (.tmp 1 rfl))) ?_
      refine .cons (.wanted 5 true rfl rfl rfl 0 rfl (ok_loadV1 (.tmp 1 rfl))) ?_
      refine .cons (.wanted 5 true rfl rfl rfl 0 rfl (ok_addrV1 (.tmp 1 rfl))) ?_
      refine .cons (.wanted 5 true rfl rfl rfl 0 rfl (ok_loadV1 (.tmp 1 rfl))) ?_
      refine .cons (.wanted 5 true rfl rfl rfl 0 rfl (ok_cmp (b := true) (.tmp 1 rfl) (.tmp 2 rfl) (by decide))) ?_
      refine .cons (.plain rfl (ok_pickT (.tmp 0 rfl) (.tmp 1 rfl))) ?_
      refine .cons (.plain rfl (ok_move (.tmp 0 rfl))) ?_
      refine .cons (.wanted 12 true rfl rfl rfl 0 rfl (ok_addrV3 (.tmp 1 rfl))) ?_
      refine .cons (.wanted 12 true rfl rfl rfl 0 rfl (ok_loadV3 (.tmp 1 rfl))) ?_
      refine .cons (.wanted 12 true rfl rfl rfl 0 rfl (ok_addrV3 (.tmp 1 rfl))) ?_
      refine .cons (.wanted 12 true rfl rfl rfl 0 rfl (ok_loadV3 (.tmp 1 rfl))) ?_
      refine .cons (.wanted 12 true rfl rfl rfl 0 rfl (ok_cmp (b := false) (.tmp 1 rfl) (.tmp 2 rfl) ((decide_eq_false (c0)).symm))) ?_
      refine .cons (.plain rfl (ok_pickT (.tmp 0 rfl) (.tmp 1 rfl))) ?_
      refine .cons (.plain rfl (ok_move (.tmp 0 rfl))) ?_
      refine .cons (.unwanted 19 true rfl rfl rfl 0 rfl) ?_
      refine .cons (.unwanted 19 true rfl rfl rfl 0 rfl) ?_
      refine .cons (.unwanted 19 true rfl rfl rfl 0 rfl) ?_
      refine .cons (.unwanted 19 true rfl rfl rfl 0 rfl) ?_
      refine .cons (.unwanted 19 true rfl rfl rfl 0 rfl) ?_
      refine .cons (.plain rfl (ok_pickF (.tmp 0 rfl) (.lit))) ?_
      refine .cons (.plain rfl (ok_move (.tmp 0 rfl))) ?_
      refine .cons (.unwanted 26 true rfl rfl rfl 0 rfl) ?_
      refine .cons (.unwanted 26 true rfl rfl rfl 0 rfl) ?_
      refine .cons (.unwanted 26 true rfl rfl rfl 0 rfl) ?_
      refine .cons (.unwanted 26 true rfl rfl rfl 0 rfl) ?_
      refine .cons (.unwanted 26 true rfl rfl rfl 0 rfl) ?_
      refine .cons (.plain rfl (ok_pickF (.tmp 0 rfl) (.lit))) ?_
      refine .cons (.plain rfl (ok_move (.tmp 0 rfl))) ?_
      refine .cons (.unwanted 33 true rfl rfl rfl 0 rfl) ?_
      refine .cons (.unwanted 33 true rfl rfl rfl 0 rfl) ?_
      refine .cons (.unwanted 33 true rfl rfl rfl 0 rfl) ?_
      refine .cons (.unwanted 33 true rfl rfl rfl 0 rfl) ?_
      refine .cons (.unwanted 33 true rfl rfl rfl 0 rfl) ?_
      refine .cons (.plain rfl (ok_pickF (.tmp 0 rfl) (.lit))) ?_
      refine .cons (.plain rfl (ok_move (.tmp 0 rfl))) ?_
      refine .cons (.unwanted 40 true rfl rfl rfl 0 rfl) ?_
      refine .cons (.unwanted 40 true rfl rfl rfl 0 rfl) ?_
      refine .cons (.unwanted 40 true rfl rfl rfl 0 rfl) ?_
      refine .cons (.unwanted 40 true rfl rfl rfl 0 rfl) ?_
      refine .cons (.unwanted 40 true rfl rfl rfl 0 rfl) ?_
      refine .cons (.plain rfl (ok_pickF (.tmp 0 rfl) (.lit))) ?_
      refine .cons (.plain rfl (ok_assign (.tmp 0 rfl))) ?_
      exact .nil
    clear H1 a1 w1 B1
    intro a3 w3 B3 H3
    refine ops_done ?_
    refine then_normal ?_
    refine wp_ret ?_
    exact f_ret H3 rfl 0 rfl (fun v w B h => by refine isB_e ?_ h; first | simp [c0] | simp)

set_option maxRecDepth 20000 in
set_option maxHeartbeats 2000000 in
theorem con_svif (X y : Int) : Con Tryz.prog 16 [IsNum (.int X), IsNum (.flt y)] (IsB (decide (NV.int X = NV.flt y))) := by
  refine f_enter (N := 52) Tryz.ntmps16 (fun _ _ => by go_simp) Tryz.func16 rfl (by simp) ?_
  intro a0 w0 B0 H0
  replace H0 : St 52 w0 B0 a0 w0 B0 [(0, .val (IsNum (.int X))), (1, .val (IsNum (.flt y)))] [] := H0
  refine wp_seq ?_
  refine flow_region (dsts := [some 2, some 3, some 4]) (refs := [[.pre 0], [.pre 1], []]) (outs := [.res 0, .res 1, .res 2]) (als := [true, true, false]) (posts := [.box 37 8 (IsNum (.int X)), .box 37 8 (IsNum (.flt y)), .val (IsB false)])
    (out := [(2, .box 37 8 (IsNum (.int X))), (3, .box 37 8 (IsNum (.flt y))), (4, .val (IsB false))]) (nb := [2, 3]) H0 3 [] rfl (by kernel_rfl) rfl rfl ?_ ?_
  · refine .cons (.plain rfl (ok_box (.tmp 0 rfl) shape_Num.two)) ?_
    refine .cons (.plain rfl (ok_box (.tmp 0 rfl) shape_Num.two)) ?_
    refine .cons (.plain rfl (ok_assign (.lit))) ?_
    exact .nil
  clear H0
  intro a1 w1 B1 H1
  simp only [List.cons_append, List.nil_append] at H1
  refine ops_done ?_
  refine then_normal ?_
  refine wp_seq ?_
  refine flow_region (dsts := [some 5, some 6, some 7, some 8, some 9, some 10, some 11, some 12, some 13, some 14, some 15, some 16, some 17, some 18, some 19, some 20, some 21, some 22, some 23, some 24, some 25, some 26, some 27, some 28, some 29, some 30, some 31, some 32, some 33, some 34, some 35, some 36, some 37, some 38, some 39, some 40, some 41, some 42, some 43, some 44, some 45, some 46, some 47, some 48, some 49, some 50, some 51, some 4]) (refs := [[.pre 0], [.res 0], [.pre 1], [.res 2], [.res 1, .res 3], [.res 4], [.res 5], [.res 5], [.res 5], [.res 5], [.res 5], [.res 5], [.res 11], [.res 12], [.res 12], [.res 12], [.res 12], [.res 12], [.res 12], [.res 18], [.res 19], [.res 19], [.res 19], [.res 19], [.res 19], [.res 19], [.res 25], [.res 26], [.res 26], [.res 26], [.res 26], [.res 26], [.res 26], [.res 32], [.res 33], [.res 33], [.res 33], [.res 33], [.res 33], [.res 33], [.res 39], [.res 40], [.res 40], [.res 40], [.res 40], [.res 40], [.res 40], [.res 46]]) (outs := [.res 47]) (als := [false, false, false, false, false, false, false, false, false, false, false, false, false, false, false, false, false, false, false, false, false, false, false, false, false, false, false, false, false, false, false, false, false, false, false, false, false, false, false, false, false, false, false, false, false, false, false, false]) (posts := [.ptr 37 8 (IsNum (.int X)) 0, .val (Lit (.int .i8 3)), .ptr 37 8 (IsNum (.flt y)) 0, .val (Lit (.int .i8 4)), .val (IsB false), .val (IsB false), .val (IsUndef), .val (IsUndef), .val (IsUndef), .val (IsUndef), .val (IsUndef), .val (IsB false), .val (IsB false), .val (IsUndef), .val (IsUndef), .val (IsUndef), .val (IsUndef), .val (IsUndef), .val (IsB false), .val (IsB false), .val (IsUndef), .val (IsUndef), .val (IsUndef), .val (IsUndef), .val (IsUndef), .val (IsB false), .val (IsB false), .val (IsUndef), .val (IsUndef), .val (IsUndef), .val (IsUndef), .val (IsUndef), .val (IsB false), .val (IsB false), .val (IsUndef), .val (IsUndef), .val (IsUndef), .val (IsUndef), .val (IsUndef), .val (IsB false), .val (IsB false), .val (IsUndef), .val (IsUndef), .val (IsUndef), .val (IsUndef), .val (IsUndef), .val (IsB false), .val (IsB false)])
    (out := [(4, .val (IsB false))]) (nb := []) H1 48 [] rfl (by kernel_rfl) rfl rfl ?_ ?_
  · refine .cons (.plain rfl (ok_addrV0 (.tmp 0 rfl))) ?_
    refine .cons (.plain rfl (ok_loadV0 (.tmp 0 rfl))) ?_
    refine .cons (.plain rfl (ok_addrV0 (.tmp 0 rfl))) ?_
    refine .cons (.plain rfl (ok_loadV0 (.tmp 0 rfl))) ?_
    refine .cons (.plain rfl (ok_cmp (b := false) (.tmp 0 rfl) (.tmp 1 rfl) (by decide))) ?_
    refine .cons (.plain rfl (ok_move (.tmp 0 rfl))) ?_
    refine .cons (.unwanted 5 true rfl rfl rfl 0 rfl) ?_
    refine .cons (.unwanted 5 true rfl rfl rfl 0 rfl) ?_
    refine .cons (.unwanted 5 true rfl rfl rfl 0 rfl) ?_
    refine .cons (.unwanted 5 true rfl rfl rfl 0 rfl) ?_
    refine .cons (.unwanted 5 true rfl rfl rfl 0 rfl) ?_
    refine .cons (.plain rfl (ok_pickF (.tmp 0 rfl) (.lit))) ?_
    refine .cons (.plain rfl (ok_move (.tmp 0 rfl))) ?_
    refine .cons (.unwanted 12 true rfl rfl rfl 0 rfl) ?_
    refine .cons (.unwanted 12 true rfl rfl rfl 0 rfl) ?_
    refine .cons (.unwanted 12 true rfl rfl rfl 0 rfl) ?_
    refine .cons (.unwanted 12 true rfl rfl rfl 0 rfl) ?_
    refine .cons (.unwanted 12 true rfl rfl rfl 0 rfl) ?_
    refine .cons (.plain rfl (ok_pickF (.tmp 0 rfl) (.lit))) ?_
    refine .cons (.plain rfl (ok_move (.tmp 0 rfl))) ?_
    refine .cons (.unwanted 19 true rfl rfl rfl 0 rfl) ?_
    refine .cons (.unwanted 19 true rfl rfl rfl 0 rfl) ?_
    refine .cons (.unwanted 19 true rfl rfl rfl 0 rfl) ?_
    refine .cons (.unwanted 19 true rfl rfl rfl 0 rfl) ?_
    refine .cons (.unwanted 19 true rfl rfl rfl 0 rfl) ?_
    refine .cons (.plain rfl (ok_pickF (.tmp 0 rfl) (.lit))) ?_
    refine .cons (.plain rfl (ok_move (.tmp 0 rfl))) ?_
    refine .cons (.unwanted 26 true rfl rfl rfl 0 rfl) ?_
    refine .cons (.unwanted 26 true rfl rfl rfl 0 rfl) ?_
    refine .cons (.unwanted 26 true rfl rfl rfl 0 rfl) ?_
    refine .cons (.unwanted 26 true rfl rfl rfl 0 rfl) ?_
    refine .cons (.unwanted 26 true rfl rfl rfl 0 rfl) ?_
    refine .cons (.plain rfl (ok_pickF (.tmp 0 rfl) (.lit))) ?_
    refine .cons (.plain rfl (ok_move (.tmp 0 rfl))) ?_
    refine .cons (.unwanted 33 true rfl rfl rfl 0 rfl) ?_
    refine .cons (.unwanted 33 true rfl rfl rfl 0 rfl) ?_
    refine .cons (.unwanted 33 true rfl rfl rfl 0 rfl) ?_
    refine .cons (.unwanted 33 true rfl rfl rfl 0 rfl) ?_
    refine .cons (.unwanted 33 true rfl rfl rfl 0 rfl) ?_
    refine .cons (.plain rfl (ok_pickF (.tmp 0 rfl) (.lit))) ?_
    refine .cons (.plain rfl (ok_move (.tmp 0 rfl))) ?_
    refine .cons (.unwanted 40 true rfl rfl rfl 0 rfl) ?_
    refine .cons (.unwanted 40 true rfl rfl rfl 0 rfl) ?_
    refine .cons (.unwanted 40 true rfl rfl rfl 0 rfl) ?_
    refine .cons (.unwanted 40 true rfl rfl rfl 0 rfl) ?_
    refine .cons (.unwanted 40 true rfl rfl rfl 0 rfl) ?_
    refine .cons (.plain rfl (ok_pickF (.tmp 0 rfl) (.lit))) ?_
    refine .cons (.plain rfl (ok_assign (.tmp 0 rfl))) ?_
    exact .nil
  clear H1 a1 w1 B1
  intro a2 w2 B2 H2
  refine ops_done ?_
  refine then_normal ?_
  refine wp_ret ?_
  exact f_ret H2 rfl 0 rfl (fun v w B h => by refine isB_e ?_ h; first | simp [c0] | simp)

set_option maxRecDepth 20000 in
set_option maxHeartbeats 2000000 in
theorem con_svfi (x Y : Int) : Con Tryz.prog 16 [IsNum (.flt x), IsNum (.int Y)] (IsB (decide (NV.flt x = NV.int Y))) := by
  refine f_enter (N := 52) Tryz.ntmps16 (fun _ _ => by go_simp) Tryz.func16 rfl (by simp) ?_
  intro a0 w0 B0 H0
  replace H0 : St 52 w0 B0 a0 w0 B0 [(0, .val (IsNum (.flt x))), (1, .val (IsNum (.int Y)))] [] := H0
  refine wp_seq ?_
  refine flow_region (dsts := [some 2, some 3, some 4]) (refs := [[.pre 0], [.pre 1], []]) (outs := [.res 0, .res 1, .res 2]) (als := [true, true, false]) (posts := [.box 37 8 (IsNum (.flt x)), .box 37 8 (IsNum (.int Y)), .val (IsB false)])
    (out := [(2, .box 37 8 (IsNum (.flt x))), (3, .box 37 8 (IsNum (.int Y))), (4, .val (IsB false))]) (nb := [2, 3]) H0 3 [] rfl (by kernel_rfl) rfl rfl ?_ ?_
  · refine .cons (.plain rfl (ok_box (.tmp 0 rfl) shape_Num.two)) ?_
    refine .cons (.plain rfl (ok_box (.tmp 0 rfl) shape_Num.two)) ?_
    refine .cons (.plain rfl (ok_assign (.lit))) ?_
    exact .nil
  clear H0
  intro a1 w1 B1 H1
  simp only [List.cons_append, List.nil_append] at H1
  refine ops_done ?_
  refine then_normal ?_
  refine wp_seq ?_
  refine flow_region (dsts := [some 5, some 6, some 7, some 8, some 9, some 10, some 11, some 12, some 13, some 14, some 15, some 16, some 17, some 18, some 19, some 20, some 21, some 22, some 23, some 24, some 25, some 26, some 27, some 28, some 29, some 30, some 31, some 32, some 33, some 34, some 35, some 36, some 37, some 38, some 39, some 40, some 41, some 42, some 43, some 44, some 45, some 46, some 47, some 48, some 49, some 50, some 51, some 4]) (refs := [[.pre 0], [.res 0], [.pre 1], [.res 2], [.res 1, .res 3], [.res 4], [.res 5], [.res 5], [.res 5], [.res 5], [.res 5], [.res 5], [.res 11], [.res 12], [.res 12], [.res 12], [.res 12], [.res 12], [.res 12], [.res 18], [.res 19], [.res 19], [.res 19], [.res 19], [.res 19], [.res 19], [.res 25], [.res 26], [.res 26], [.res 26], [.res 26], [.res 26], [.res 26], [.res 32], [.res 33], [.res 33], [.res 33], [.res 33], [.res 33], [.res 33], [.res 39], [.res 40], [.res 40], [.res 40], [.res 40], [.res 40], [.res 40], [.res 46]]) (outs := [.res 47]) (als := [false, false, false, false, false, false, false, false, false, false, false, false, false, false, false, false, false, false, false, false, false, false, false, false, false, false, false, false, false, false, false, false, false, false, false, false, false, false, false, false, false, false, false, false, false, false, false, false]) (posts := [.ptr 37 8 (IsNum (.flt x)) 0, .val (Lit (.int .i8 4)), .ptr 37 8 (IsNum (.int Y)) 0, .val (Lit (.int .i8 3)), .val (IsB false), .val (IsB false), .val (IsUndef), .val (IsUndef), .val (IsUndef), .val (IsUndef), .val (IsUndef), .val (IsB false), .val (IsB false), .val (IsUndef), .val (IsUndef), .val (IsUndef), .val (IsUndef), .val (IsUndef), .val (IsB false), .val (IsB false), .val (IsUndef), .val (IsUndef), .val (IsUndef), .val (IsUndef), .val (IsUndef), .val (IsB false), .val (IsB false), .val (IsUndef), .val (IsUndef), .val (IsUndef), .val (IsUndef), .val (IsUndef), .val (IsB false), .val (IsB false), .val (IsUndef), .val (IsUndef), .val (IsUndef), .val (IsUndef), .val (IsUndef), .val (IsB false), .val (IsB false), .val (IsUndef), .val (IsUndef), .val (IsUndef), .val (IsUndef), .val (IsUndef), .val (IsB false), .val (IsB false)])
    (out := [(4, .val (IsB false))]) (nb := []) H1 48 [] rfl (by kernel_rfl) rfl rfl ?_ ?_
  · refine .cons (.plain rfl (ok_addrV0 (.tmp 0 rfl))) ?_
    refine .cons (.plain rfl (ok_loadV0 (.tmp 0 rfl))) ?_
    refine .cons (.plain rfl (ok_addrV0 (.tmp 0 rfl))) ?_
    refine .cons (.plain rfl (ok_loadV0 (.tmp 0 rfl))) ?_
    refine .cons (.plain rfl (ok_cmp (b := false) (.tmp 0 rfl) (.tmp 1 rfl) (by decide))) ?_
    refine .cons (.plain rfl (ok_move (.tmp 0 rfl))) ?_
    refine .cons (.unwanted 5 true rfl rfl rfl 0 rfl) ?_
    refine .cons (.unwanted 5 true rfl rfl rfl 0 rfl) ?_
    refine .cons (.unwanted 5 true rfl rfl rfl 0 rfl) ?_
    refine .cons (.unwanted 5 true rfl rfl rfl 0 rfl) ?_
    refine .cons (.unwanted 5 true rfl rfl rfl 0 rfl) ?_
    refine .cons (.plain rfl (ok_pickF (.tmp 0 rfl) (.lit))) ?_
    refine .cons (.plain rfl (ok_move (.tmp 0 rfl))) ?_
    refine .cons (.unwanted 12 true rfl rfl rfl 0 rfl) ?_
    refine .cons (.unwanted 12 true rfl rfl rfl 0 rfl) ?_
    refine .cons (.unwanted 12 true rfl rfl rfl 0 rfl) ?_
    refine .cons (.unwanted 12 true rfl rfl rfl 0 rfl) ?_
    refine .cons (.unwanted 12 true rfl rfl rfl 0 rfl) ?_
    refine .cons (.plain rfl (ok_pickF (.tmp 0 rfl) (.lit))) ?_
    refine .cons (.plain rfl (ok_move (.tmp 0 rfl))) ?_
    refine .cons (.unwanted 19 true rfl rfl rfl 0 rfl) ?_
    refine .cons (.unwanted 19 true rfl rfl rfl 0 rfl) ?_
    refine .cons (.unwanted 19 true rfl rfl rfl 0 rfl) ?_
    refine .cons (.unwanted 19 true rfl rfl rfl 0 rfl) ?_
    refine .cons (.unwanted 19 true rfl rfl rfl 0 rfl) ?_
    refine .cons (.plain rfl (ok_pickF (.tmp 0 rfl) (.lit))) ?_
    refine .cons (.plain rfl (ok_move (.tmp 0 rfl))) ?_
    refine .cons (.unwanted 26 true rfl rfl rfl 0 rfl) ?_
    refine .cons (.unwanted 26 true rfl rfl rfl 0 rfl) ?_
    refine .cons (.unwanted 26 true rfl rfl rfl 0 rfl) ?_
    refine .cons (.unwanted 26 true rfl rfl rfl 0 rfl) ?_
    refine .cons (.unwanted 26 true rfl rfl rfl 0 rfl) ?_
    refine .cons (.plain rfl (ok_pickF (.tmp 0 rfl) (.lit))) ?_
    refine .cons (.plain rfl (ok_move (.tmp 0 rfl))) ?_
    refine .cons (.unwanted 33 true rfl rfl rfl 0 rfl) ?_
    refine .cons (.unwanted 33 true rfl rfl rfl 0 rfl) ?_
    refine .cons (.unwanted 33 true rfl rfl rfl 0 rfl) ?_
    refine .cons (.unwanted 33 true rfl rfl rfl 0 rfl) ?_
    refine .cons (.unwanted 33 true rfl rfl rfl 0 rfl) ?_
    refine .cons (.plain rfl (ok_pickF (.tmp 0 rfl) (.lit))) ?_
    refine .cons (.plain rfl (ok_move (.tmp 0 rfl))) ?_
    refine .cons (.unwanted 40 true rfl rfl rfl 0 rfl) ?_
    refine .cons (.unwanted 40 true rfl rfl rfl 0 rfl) ?_
    refine .cons (.unwanted 40 true rfl rfl rfl 0 rfl) ?_
    refine .cons (.unwanted 40 true rfl rfl rfl 0 rfl) ?_
    refine .cons (.unwanted 40 true rfl rfl rfl 0 rfl) ?_
    refine .cons (.plain rfl (ok_pickF (.tmp 0 rfl) (.lit))) ?_
    refine .cons (.plain rfl (ok_assign (.tmp 0 rfl))) ?_
    exact .nil
  clear H1 a1 w1 B1
  intro a2 w2 B2 H2
  refine ops_done ?_
  refine then_normal ?_
  refine wp_ret ?_
  exact f_ret H2 rfl 0 rfl (fun v w B h => by refine isB_e ?_ h; first | simp [c0] | simp)

theorem con_sameval (z u : NV) : Con Tryz.prog 16 [IsNum z, IsNum u] (IsB (decide (z = u))) := by
  cases z <;> cases u
  · exact con_svii _ _
  · exact con_svif _ _
  · exact con_svfi _ _
  · exact con_svff _ _
end Go.Proofs.YtoimhjcpeifegaaGreatDoor

