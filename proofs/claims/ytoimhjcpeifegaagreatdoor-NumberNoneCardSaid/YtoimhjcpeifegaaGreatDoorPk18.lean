/- Contracts of functions, and plain facts, part 18. -/
import Derived.DataReads
import Derived.Test.YtoimhjcpeifegaaGreatDoorCards
import Derived.Lib.LaidTab
import Derived.Test.YtoimhjcpeifegaaGreatDoorPk7
import Derived.Test.YtoimhjcpeifegaaGreatDoorPk16
import Derived.Test.YtoimhjcpeifegaaGreatDoorPk17
set_option linter.unusedVariables false
set_option linter.unusedSimpArgs false
/- VBits. (Printed by flow15.py.) -/
namespace Go.Proofs.YtoimhjcpeifegaaGreatDoor
open Go Go.RowKit

theorem toW_bd2 {V : Nat} (hV : Wide V) (W : Nat) (x : Int) : 0 ≤ (toW V W x).1 ∧ (toW V W x).1 < 2 ^ V := by
  have h1 := inf_fits hV
  have h2 := pow_wide hV
  have h3 := roundW_bd hV (pNeg W x) (pM W x) (pE W x) false
  unfold toW
  split
  · dsimp only; omega
  · split
    · dsimp only; split <;> omega
    · exact h3
theorem bits_bd (z : NV) (hz : okNV z) : 0 ≤ (bitsO (whatV z)).1 ∧ (bitsO (whatV z)).1 < 18446744073709551616 := by
  cases z with
  | int X =>
    have h3 := roundW_bd (W := 64) (by unfold Wide; omega) (decide (X < 0)) X.natAbs 0 false
    show 0 ≤ (bitsO (.exact X)).1 ∧ (bitsO (.exact X)).1 < 18446744073709551616
    by_cases hq : (fromW 64 X).2 = true
    · rw [bits_yes hq]; exact h3
    · rw [bits_no (by simpa using hq)]; dsimp only; omega
  | flt b =>
    have hb := hz.1
    show 0 ≤ (bitsO (oneF b)).1 ∧ (bitsO (oneF b)).1 < 18446744073709551616
    unfold oneF
    by_cases h1 : clsW 64 b = 4
    · rw [if_pos h1]; exact hb
    · by_cases h2 : clsW 64 b = 5
      · rw [if_neg h1, if_pos h2]; exact hb
      · rw [if_neg h1, if_neg h2]; exact hb
/-- The narrowest pattern of a number whose pattern is p. -/
noncomputable def narrowP (p : Int × Bool) : Int × Int × Bool := if p.2 = true then (if (toW 16 64 p.1).2 = true then (16, (toW 16 64 p.1).1, true) else if (toW 32 64 p.1).2 = true then (32, (toW 32 64 p.1).1, true) else (64, p.1, true)) else (0, 0, false)
def sideI (b : Int) : Int := if b / 9223372036854775808 = 1 then -1 else 1
/-- A finite number as m times 2 to the power of e. -/
noncomputable def partN : One → Int
  | .exact X => X
  | .broken b => sI (pNeg 64 b) (pM 64 b)
  | _ => 0
noncomputable def partE : One → Int
  | .broken b => pE 64 b
  | _ => 0
theorem weakSgM {X : Int} (n : Nat) (v : Value) (w : World) (B : Bx) (h : (IsSg X).p v w B) : (IsSg (X * 2 ^ n)).p v w B := by
  obtain ⟨ng, e, hX⟩ := h
  refine ⟨ng, e, ?_⟩
  have hp : ((2 : Int) ^ n).natAbs = 2 ^ n := by rw [Int.natAbs_pow]; rfl
  rw [Int.natAbs_mul, Int.natCast_mul, hp]
  have h2 : ((2 ^ n : Nat) : Int) = 2 ^ n := by simp
  rw [h2]
  unfold sI at *
  generalize (2 : Int) ^ n = P at *
  split at hX
  · next hn => rw [if_pos hn, ← Int.neg_mul, ← hX]
  · next hn => rw [if_neg hn, ← hX]
theorem shl_small (X n : Int) (hX : -18446744073709551616 < X ∧ X < 18446744073709551616) (hn : 0 ≤ n ∧ n ≤ 4096) : shlNum (X.natAbs : Int) n = ((X * 2 ^ n.toNat).natAbs : Int) ∧ Fits (shlNum (X.natAbs : Int) n) := by
  have hb : blen (X.natAbs : Int).toNat ≤ 64 := blen_limbs _ 2 (by omega) (by rw [show (4294967296 : Int) ^ 2 = 18446744073709551616 from by decide]; omega)
  have hok : shlOk (X.natAbs : Int) n = true := decide_eq_true ⟨hn.1, .inr (by omega)⟩
  have e : shlNum (X.natAbs : Int) n = ((X * 2 ^ n.toNat).natAbs : Int) := by
    unfold shlNum
    rw [if_pos hok, Int.natAbs_mul, Int.natCast_mul, Int.natAbs_pow]
    simp
  refine ⟨e, ⟨131, by have := lim_eq; omega, ?_⟩⟩
  unfold shlNum
  rw [if_pos hok]
  unfold FitK
  have h1 : (2 : Int) ^ n.toNat ≤ 2 ^ 4096 := pow_le (by omega) (by omega)
  have h2 : ((X.natAbs : Int)) * 2 ^ n.toNat ≤ 18446744073709551616 * 2 ^ 4096 := Int.mul_le_mul (by omega) h1 (Int.pow_nonneg (by omega)) (by omega)
  have h3 : 0 ≤ ((X.natAbs : Int)) * 2 ^ n.toNat := Int.mul_nonneg (by omega) (Int.pow_nonneg (by omega))
  have h4 : (18446744073709551616 : Int) * 2 ^ 4096 < 4294967296 ^ 131 := by decide +kernel
  omega
theorem isC_e {a b : Int} (e : a = b) {v : Value} {w : World} {B : Bx} (h : (IsC a).p v w B) : (IsC b).p v w B := e ▸ h

set_option maxRecDepth 20000 in
set_option maxHeartbeats 2000000 in
theorem con_nbits (z : NV) (hz : okNV z) : ConE Tryz.prog 29 [IsNum z] (Tup [Lit (.int .u64 (bitsO (whatV z)).1), IsB (bitsO (whatV z)).2]) := by
  refine f_enterE (N := 13) Tryz.ntmps29 (fun _ _ => by go_simp) Tryz.func29 rfl (by simp) ?_
  intro a0 w0 B0 H0
  replace H0 : St 13 w0 B0 a0 w0 B0 [(0, .val (IsNum z)), (13, .val (EnvV))] [] := H0
  refine wp_seq ?_
  refine flow_region (dsts := [some 1, some 2, some 3]) (refs := [[.pre 0], [], []]) (outs := [.res 0, .res 1, .res 2, .pre 1]) (als := [true, false, false]) (posts := [.box 37 8 (IsNum z), .val (Lit (.int .u64 0)), .val (IsB false)])
    (out := [(1, .box 37 8 (IsNum z)), (2, .val (Lit (.int .u64 0))), (3, .val (IsB false)), (13, .val (EnvV))]) (nb := [1]) H0 3 [] rfl (by kernel_rfl) rfl rfl ?_ ?_
  · refine .cons (.plain rfl (ok_box (.tmp 0 rfl) shape_Num.two)) ?_
    refine .cons (.plain rfl (ok_assign (.lit))) ?_
    refine .cons (.plain rfl (ok_assign (.lit))) ?_
    exact .nil
  clear H0
  intro a1 w1 B1 H1
  simp only [List.cons_append, List.nil_append] at H1
  refine ops_done ?_
  refine then_normal ?_
  refine wp_seq ?_
  refine flow_region (dsts := [some 5, some 6, some 4]) (refs := [[.pre 0], [.res 0, .pre 3], [.res 1]]) (outs := [.res 2, .pre 1, .pre 2, .pre 3]) (als := [false, false, false]) (posts := [.val (IsNum z), .val (IsOne (whatV z)), .val (IsOne (whatV z))])
    (out := [(4, .val (IsOne (whatV z))), (2, .val (Lit (.int .u64 0))), (3, .val (IsB false)), (13, .val (EnvV))]) (nb := []) H1 3 [] rfl (by kernel_rfl) rfl rfl ?_ ?_
  · refine .cons (.plain rfl (ok_load tyV (.tmp 0 rfl))) ?_
    refine .cons (.plain rfl (ok_callE (con_what (z) hz) 1 rfl (.cons (.tmp 0 rfl) (.nil)))) ?_
    refine .cons (.plain rfl (ok_assign (.tmp 0 rfl))) ?_
    exact .nil
  clear H1 a1 w1 B1
  intro a2 w2 B2 H2
  refine ops_done ?_
  refine then_normal ?_
  refine wp_seq ?_
  refine wp_seq ?_
  refine flow_region (dsts := [some 7, some 8]) (refs := [[.pre 0], [.res 0]]) (outs := [.res 1, .pre 0, .pre 1, .pre 2, .pre 3]) (als := [false, false]) (posts := [.val (IsOne (whatV z)), .val (IsB false)])
    (out := [(8, .val (IsB false)), (4, .val (IsOne (whatV z))), (2, .val (Lit (.int .u64 0))), (3, .val (IsB false)), (13, .val (EnvV))]) (nb := []) H2 2 [] rfl (by kernel_rfl) rfl rfl ?_ ?_
  · refine .cons (.plain rfl (ok_move (.tmp 0 rfl))) ?_
    refine .cons (.plain rfl (ok_eqNil (.tmp 0 rfl) ((whatV_some _).symm))) ?_
    exact .nil
  clear H2 a2 w2 B2
  intro a3 w3 B3 H3
  refine ops_done ?_
  refine then_normal ?_
  refine f_condF H3 (.tmp 0 rfl) ?_
  refine wp_skip ?_
  refine then_normal ?_
  refine wp_seq ?_
  refine flow_region (dsts := [some 9, some 10, some 11, some 12, some 2, some 3]) (refs := [[.pre 1], [.res 0, .pre 4], [.res 1], [.res 1], [.res 2], [.res 3]]) (outs := [.res 4, .res 5, .pre 4]) (als := [false, false, false, false, false, false]) (posts := [.val (IsOne (whatV z)), .val (Tup [Lit (.int .u64 ((bitsO (whatV z)).1)), IsB ((bitsO (whatV z)).2)]), .val (Lit (.int .u64 ((bitsO (whatV z)).1))), .val (IsB ((bitsO (whatV z)).2)), .val (Lit (.int .u64 ((bitsO (whatV z)).1))), .val (IsB ((bitsO (whatV z)).2))])
    (out := [(2, .val (Lit (.int .u64 ((bitsO (whatV z)).1)))), (3, .val (IsB ((bitsO (whatV z)).2))), (13, .val (EnvV))]) (nb := []) H3 6 [] rfl (by kernel_rfl) rfl rfl ?_ ?_
  · refine .cons (.plain rfl (ok_move (.tmp 0 rfl))) ?_
    refine .cons (.plain rfl (ok_inv 1 rfl (whatV_some _) (.tmp 0 rfl))) ?_
    refine .cons (.plain rfl (ok_extract 0 (.tmp 0 rfl) rfl)) ?_
    refine .cons (.plain rfl (ok_extract 1 (.tmp 0 rfl) rfl)) ?_
    refine .cons (.plain rfl (ok_assign (.tmp 0 rfl))) ?_
    refine .cons (.plain rfl (ok_assign (.tmp 0 rfl))) ?_
    exact .nil
  clear H3 a3 w3 B3
  intro a4 w4 B4 H4
  refine ops_done ?_
  refine then_normal ?_
  refine wp_ret ?_
  exact f_retN H4 rfl rfl (.tmp 0 rfl (fun v w B h => by exact h) (.tmp 1 rfl (fun v w B h => by exact h) (.nil)))

set_option maxRecDepth 20000 in
set_option maxHeartbeats 2000000 in
theorem con_narrow (z : NV) (hz : okNV z) : ConE Tryz.prog 22 [IsNum z] (Tup [Lit (.int .i64 (narrowP (bitsO (whatV z))).1), Lit (.int .u64 (narrowP (bitsO (whatV z))).2.1), IsB (narrowP (bitsO (whatV z))).2.2]) := by
  refine f_enterE (N := 34) Tryz.ntmps22 (fun _ _ => by go_simp) Tryz.func22 rfl (by simp) ?_
  intro a0 w0 B0 H0
  replace H0 : St 34 w0 B0 a0 w0 B0 [(0, .val (IsNum z)), (34, .val (EnvV))] [] := H0
  refine wp_seq ?_
  refine flow_region (dsts := [some 1, some 2, some 3, some 4]) (refs := [[.pre 0], [], [], []]) (outs := [.res 0, .res 1, .res 2, .res 3, .pre 1]) (als := [true, false, false, false]) (posts := [.box 37 8 (IsNum z), .val (Lit (.int .i64 0)), .val (Lit (.int .u64 0)), .val (IsB false)])
    (out := [(1, .box 37 8 (IsNum z)), (2, .val (Lit (.int .i64 0))), (3, .val (Lit (.int .u64 0))), (4, .val (IsB false)), (34, .val (EnvV))]) (nb := [1]) H0 4 [] rfl (by kernel_rfl) rfl rfl ?_ ?_
  · refine .cons (.plain rfl (ok_box (.tmp 0 rfl) shape_Num.two)) ?_
    refine .cons (.plain rfl (ok_assign (.lit))) ?_
    refine .cons (.plain rfl (ok_assign (.lit))) ?_
    refine .cons (.plain rfl (ok_assign (.lit))) ?_
    exact .nil
  clear H0
  intro a1 w1 B1 H1
  simp only [List.cons_append, List.nil_append] at H1
  refine ops_done ?_
  refine then_normal ?_
  refine wp_seq ?_
  have hb16 := toW_bd2 (V := 16) (by unfold Wide; omega) 64 (bitsO (whatV z)).1
  have hb32 := toW_bd2 (V := 32) (by unfold Wide; omega) 64 (bitsO (whatV z)).1
  rw [show (2 : Int) ^ 16 = 65536 from by decide] at hb16
  rw [show (2 : Int) ^ 32 = 4294967296 from by decide] at hb32
  refine flow_region (dsts := [some 11, some 12, some 10, some 13, some 14, some 5, some 4]) (refs := [[.pre 0], [.res 0, .pre 4], [.res 1], [.res 2], [.res 2], [.res 3], [.res 4]]) (outs := [.res 5, .res 6, .pre 1, .pre 2, .pre 4]) (als := [false, false, false, false, false, false, false]) (posts := [.val (IsNum z), .val (Tup [Lit (.int .u64 ((bitsO (whatV z)).1)), IsB ((bitsO (whatV z)).2)]), .val (Tup [Lit (.int .u64 ((bitsO (whatV z)).1)), IsB ((bitsO (whatV z)).2)]), .val (Lit (.int .u64 ((bitsO (whatV z)).1))), .val (IsB ((bitsO (whatV z)).2)), .val (Lit (.int .u64 ((bitsO (whatV z)).1))), .val (IsB ((bitsO (whatV z)).2))])
    (out := [(5, .val (Lit (.int .u64 ((bitsO (whatV z)).1)))), (4, .val (IsB ((bitsO (whatV z)).2))), (2, .val (Lit (.int .i64 0))), (3, .val (Lit (.int .u64 0))), (34, .val (EnvV))]) (nb := []) H1 7 [] rfl (by kernel_rfl) rfl rfl ?_ ?_
  · refine .cons (.plain rfl (ok_load tyV (.tmp 0 rfl))) ?_
    refine .cons (.plain rfl (ok_callE (con_nbits (z) hz) 1 rfl (.cons (.tmp 0 rfl) (.nil)))) ?_
    refine .cons (.plain rfl (ok_move (.tmp 0 rfl))) ?_
    refine .cons (.plain rfl (ok_extract 0 (.tmp 0 rfl) rfl)) ?_
    refine .cons (.plain rfl (ok_extract 1 (.tmp 0 rfl) rfl)) ?_
    refine .cons (.plain rfl (ok_assign (.tmp 0 rfl))) ?_
    refine .cons (.plain rfl (ok_assign (.tmp 0 rfl))) ?_
    exact .nil
  clear H1 a1 w1 B1
  intro a2 w2 B2 H2
  refine ops_done ?_
  refine then_normal ?_
  refine wp_seq ?_
  refine wp_seq ?_
  refine flow_region (dsts := [some 15, some 16]) (refs := [[.pre 1], [.res 0]]) (outs := [.res 1, .pre 0, .pre 1, .pre 2, .pre 3, .pre 4]) (als := [false, false]) (posts := [.val (IsB ((bitsO (whatV z)).2)), .val (IsB (!((bitsO (whatV z)).2)))])
    (out := [(16, .val (IsB (!((bitsO (whatV z)).2)))), (5, .val (Lit (.int .u64 ((bitsO (whatV z)).1)))), (4, .val (IsB ((bitsO (whatV z)).2))), (2, .val (Lit (.int .i64 0))), (3, .val (Lit (.int .u64 0))), (34, .val (EnvV))]) (nb := []) H2 2 [] rfl (by kernel_rfl) rfl rfl ?_ ?_
  · refine .cons (.plain rfl (ok_move (.tmp 0 rfl))) ?_
    refine .cons (.plain rfl (ok_not (b := (bitsO (whatV z)).2) (.tmp 0 rfl))) ?_
    exact .nil
  clear H2 a2 w2 B2
  intro a3 w3 B3 H3
  refine ops_done ?_
  refine then_normal ?_
  refine f_cond H3 (.tmp 0 rfl) ?_ ?_
  · intro hc4
    replace hc4 : ((bitsO (whatV z)).2) = false := by simpa using hc4
    refine wp_seq ?_
    refine flow_region (dsts := [some 2, some 3, some 4]) (refs := [[], [], []]) (outs := [.res 0, .res 1, .res 2, .pre 1, .pre 5]) (als := [false, false, false]) (posts := [.val (Lit (.int .i64 0)), .val (Lit (.int .u64 0)), .val (IsB false)])
      (out := [(2, .val (Lit (.int .i64 0))), (3, .val (Lit (.int .u64 0))), (4, .val (IsB false)), (5, .val (Lit (.int .u64 ((bitsO (whatV z)).1)))), (34, .val (EnvV))]) (nb := []) H3 3 [] rfl (by kernel_rfl) rfl rfl ?_ ?_
    · refine .cons (.plain rfl (ok_assign (.lit))) ?_
      refine .cons (.plain rfl (ok_assign (.lit))) ?_
      refine .cons (.plain rfl (ok_assign (.lit))) ?_
      exact .nil
    clear H3 a3 w3 B3
    intro a5 w5 B5 H5
    refine ops_done ?_
    refine then_normal ?_
    refine wp_ret ?_
    refine then_ret ?_
    exact f_retN H5 rfl rfl (.tmp 0 rfl (fun v w B h => by refine int_e ?_ h; unfold narrowP; simp [*]) (.tmp 1 rfl (fun v w B h => by refine int_e ?_ h; unfold narrowP; simp [*]) (.tmp 2 rfl (fun v w B h => by refine isB_e ?_ h; unfold narrowP; simp [*]) (.nil))))
  · intro hc4
    replace hc4 : ((bitsO (whatV z)).2) = true := by simpa using hc4
    refine wp_skip ?_
    refine then_normal ?_
    refine wp_seq ?_
    refine wp_seq ?_
    refine flow_region (dsts := [some 18, some 19, some 17, some 20, some 21, some 6, some 7]) (refs := [[.pre 1], [.res 0, .pre 5], [.res 1], [.res 2], [.res 2], [.res 3], [.res 4]]) (outs := [.res 5, .res 6, .pre 1, .pre 2, .pre 3, .pre 4, .pre 5]) (als := [false, false, false, false, false, false, false]) (posts := [.val (Lit (.int .u64 ((bitsO (whatV z)).1))), .val (Tup [Lit (.int .u16 ((toW 16 64 ((bitsO (whatV z)).1)).1)), IsB ((toW 16 64 ((bitsO (whatV z)).1)).2)]), .val (Tup [Lit (.int .u16 ((toW 16 64 ((bitsO (whatV z)).1)).1)), IsB ((toW 16 64 ((bitsO (whatV z)).1)).2)]), .val (Lit (.int .u16 ((toW 16 64 ((bitsO (whatV z)).1)).1))), .val (IsB ((toW 16 64 ((bitsO (whatV z)).1)).2)), .val (Lit (.int .u16 ((toW 16 64 ((bitsO (whatV z)).1)).1))), .val (IsB ((toW 16 64 ((bitsO (whatV z)).1)).2))])
      (out := [(6, .val (Lit (.int .u16 ((toW 16 64 ((bitsO (whatV z)).1)).1)))), (7, .val (IsB ((toW 16 64 ((bitsO (whatV z)).1)).2))), (5, .val (Lit (.int .u64 ((bitsO (whatV z)).1)))), (4, .val (IsB ((bitsO (whatV z)).2))), (2, .val (Lit (.int .i64 0))), (3, .val (Lit (.int .u64 0))), (34, .val (EnvV))]) (nb := []) H3 7 [] rfl (by kernel_rfl) rfl rfl ?_ ?_
    · refine .cons (.plain rfl (ok_move (.tmp 0 rfl))) ?_
      refine .cons (.plain rfl (ok_callE (con_to1664 ((bitsO (whatV z)).1) (bits_bd z hz)) 1 rfl (.cons (.tmp 0 rfl) (.nil)))) ?_
      refine .cons (.plain rfl (ok_move (.tmp 0 rfl))) ?_
      refine .cons (.plain rfl (ok_extract 0 (.tmp 0 rfl) rfl)) ?_
      refine .cons (.plain rfl (ok_extract 1 (.tmp 0 rfl) rfl)) ?_
      refine .cons (.plain rfl (ok_assign (.tmp 0 rfl))) ?_
      refine .cons (.plain rfl (ok_assign (.tmp 0 rfl))) ?_
      exact .nil
    clear H3 a3 w3 B3
    intro a6 w6 B6 H6
    refine ops_done ?_
    refine then_normal ?_
    refine wp_seq ?_
    refine flow_region (dsts := [some 22]) (refs := [[.pre 1]]) (outs := [.res 0, .pre 0, .pre 2, .pre 3, .pre 4, .pre 5, .pre 6]) (als := [false]) (posts := [.val (IsB ((toW 16 64 ((bitsO (whatV z)).1)).2))])
      (out := [(22, .val (IsB ((toW 16 64 ((bitsO (whatV z)).1)).2))), (6, .val (Lit (.int .u16 ((toW 16 64 ((bitsO (whatV z)).1)).1)))), (5, .val (Lit (.int .u64 ((bitsO (whatV z)).1)))), (4, .val (IsB ((bitsO (whatV z)).2))), (2, .val (Lit (.int .i64 0))), (3, .val (Lit (.int .u64 0))), (34, .val (EnvV))]) (nb := []) H6 1 [] rfl (by kernel_rfl) rfl rfl ?_ ?_
    · refine .cons (.plain rfl (ok_move (.tmp 0 rfl))) ?_
      exact .nil
    clear H6 a6 w6 B6
    intro a7 w7 B7 H7
    refine ops_done ?_
    refine then_normal ?_
    refine f_cond H7 (.tmp 0 rfl) ?_ ?_
    · intro hc8
      refine wp_seq ?_
      refine flow_region (dsts := [some 23, some 24, some 2, some 3, some 4]) (refs := [[.pre 1], [.res 0], [], [.res 1], []]) (outs := [.res 2, .res 3, .res 4, .pre 2, .pre 6]) (als := [false, false, false, false, false]) (posts := [.val (Lit (.int .u16 ((toW 16 64 ((bitsO (whatV z)).1)).1))), .val (Lit (.int .u64 ((toW 16 64 ((bitsO (whatV z)).1)).1))), .val (Lit (.int .i64 16)), .val (Lit (.int .u64 ((toW 16 64 ((bitsO (whatV z)).1)).1))), .val (IsB true)])
        (out := [(2, .val (Lit (.int .i64 16))), (3, .val (Lit (.int .u64 ((toW 16 64 ((bitsO (whatV z)).1)).1)))), (4, .val (IsB true)), (5, .val (Lit (.int .u64 ((bitsO (whatV z)).1)))), (34, .val (EnvV))]) (nb := []) H7 5 [] rfl (by kernel_rfl) rfl rfl ?_ ?_
      · refine .cons (.plain rfl (ok_move (.tmp 0 rfl))) ?_
        refine .cons (.plain rfl (ok_conv Tryz.underlying22 Tryz.underlying24 (r := ((toW 16 64 ((bitsO (whatV z)).1)).1)) (.tmp 0 rfl) (w_u64 (by omega)))) ?_
        refine .cons (.plain rfl (ok_assign (.lit))) ?_
        refine .cons (.plain rfl (ok_assign (.tmp 0 rfl))) ?_
        refine .cons (.plain rfl (ok_assign (.lit))) ?_
        exact .nil
      clear H7 a7 w7 B7
      intro a9 w9 B9 H9
      refine ops_done ?_
      refine then_normal ?_
      refine wp_ret ?_
      refine then_ret ?_
      exact f_retN H9 rfl rfl (.tmp 0 rfl (fun v w B h => by refine int_e ?_ h; unfold narrowP; simp [*]) (.tmp 1 rfl (fun v w B h => by refine int_e ?_ h; unfold narrowP; simp [*]) (.tmp 2 rfl (fun v w B h => by refine isB_e ?_ h; unfold narrowP; simp [*]) (.nil))))
    · intro hc8
      refine wp_skip ?_
      refine then_normal ?_
      refine wp_seq ?_
      refine wp_seq ?_
      refine flow_region (dsts := [some 26, some 27, some 25, some 28, some 29, some 8, some 9]) (refs := [[.pre 2], [.res 0, .pre 6], [.res 1], [.res 2], [.res 2], [.res 3], [.res 4]]) (outs := [.res 5, .res 6, .pre 2, .pre 3, .pre 4, .pre 5, .pre 6]) (als := [false, false, false, false, false, false, false]) (posts := [.val (Lit (.int .u64 ((bitsO (whatV z)).1))), .val (Tup [Lit (.int .u32 ((toW 32 64 ((bitsO (whatV z)).1)).1)), IsB ((toW 32 64 ((bitsO (whatV z)).1)).2)]), .val (Tup [Lit (.int .u32 ((toW 32 64 ((bitsO (whatV z)).1)).1)), IsB ((toW 32 64 ((bitsO (whatV z)).1)).2)]), .val (Lit (.int .u32 ((toW 32 64 ((bitsO (whatV z)).1)).1))), .val (IsB ((toW 32 64 ((bitsO (whatV z)).1)).2)), .val (Lit (.int .u32 ((toW 32 64 ((bitsO (whatV z)).1)).1))), .val (IsB ((toW 32 64 ((bitsO (whatV z)).1)).2))])
        (out := [(8, .val (Lit (.int .u32 ((toW 32 64 ((bitsO (whatV z)).1)).1)))), (9, .val (IsB ((toW 32 64 ((bitsO (whatV z)).1)).2))), (5, .val (Lit (.int .u64 ((bitsO (whatV z)).1)))), (4, .val (IsB ((bitsO (whatV z)).2))), (2, .val (Lit (.int .i64 0))), (3, .val (Lit (.int .u64 0))), (34, .val (EnvV))]) (nb := []) H7 7 [] rfl (by kernel_rfl) rfl rfl ?_ ?_
      · refine .cons (.plain rfl (ok_move (.tmp 0 rfl))) ?_
        refine .cons (.plain rfl (ok_callE (con_to3264 ((bitsO (whatV z)).1) (bits_bd z hz)) 1 rfl (.cons (.tmp 0 rfl) (.nil)))) ?_
        refine .cons (.plain rfl (ok_move (.tmp 0 rfl))) ?_
        refine .cons (.plain rfl (ok_extract 0 (.tmp 0 rfl) rfl)) ?_
        refine .cons (.plain rfl (ok_extract 1 (.tmp 0 rfl) rfl)) ?_
        refine .cons (.plain rfl (ok_assign (.tmp 0 rfl))) ?_
        refine .cons (.plain rfl (ok_assign (.tmp 0 rfl))) ?_
        exact .nil
      clear H7 a7 w7 B7
      intro a10 w10 B10 H10
      refine ops_done ?_
      refine then_normal ?_
      refine wp_seq ?_
      refine flow_region (dsts := [some 30]) (refs := [[.pre 1]]) (outs := [.res 0, .pre 0, .pre 2, .pre 3, .pre 4, .pre 5, .pre 6]) (als := [false]) (posts := [.val (IsB ((toW 32 64 ((bitsO (whatV z)).1)).2))])
        (out := [(30, .val (IsB ((toW 32 64 ((bitsO (whatV z)).1)).2))), (8, .val (Lit (.int .u32 ((toW 32 64 ((bitsO (whatV z)).1)).1)))), (5, .val (Lit (.int .u64 ((bitsO (whatV z)).1)))), (4, .val (IsB ((bitsO (whatV z)).2))), (2, .val (Lit (.int .i64 0))), (3, .val (Lit (.int .u64 0))), (34, .val (EnvV))]) (nb := []) H10 1 [] rfl (by kernel_rfl) rfl rfl ?_ ?_
      · refine .cons (.plain rfl (ok_move (.tmp 0 rfl))) ?_
        exact .nil
      clear H10 a10 w10 B10
      intro a11 w11 B11 H11
      refine ops_done ?_
      refine then_normal ?_
      refine f_cond H11 (.tmp 0 rfl) ?_ ?_
      · intro hc12
        refine wp_seq ?_
        refine flow_region (dsts := [some 31, some 32, some 2, some 3, some 4]) (refs := [[.pre 1], [.res 0], [], [.res 1], []]) (outs := [.res 2, .res 3, .res 4, .pre 2, .pre 6]) (als := [false, false, false, false, false]) (posts := [.val (Lit (.int .u32 ((toW 32 64 ((bitsO (whatV z)).1)).1))), .val (Lit (.int .u64 ((toW 32 64 ((bitsO (whatV z)).1)).1))), .val (Lit (.int .i64 32)), .val (Lit (.int .u64 ((toW 32 64 ((bitsO (whatV z)).1)).1))), .val (IsB true)])
          (out := [(2, .val (Lit (.int .i64 32))), (3, .val (Lit (.int .u64 ((toW 32 64 ((bitsO (whatV z)).1)).1)))), (4, .val (IsB true)), (5, .val (Lit (.int .u64 ((bitsO (whatV z)).1)))), (34, .val (EnvV))]) (nb := []) H11 5 [] rfl (by kernel_rfl) rfl rfl ?_ ?_
        · refine .cons (.plain rfl (ok_move (.tmp 0 rfl))) ?_
          refine .cons (.plain rfl (ok_conv Tryz.underlying23 Tryz.underlying24 (r := ((toW 32 64 ((bitsO (whatV z)).1)).1)) (.tmp 0 rfl) (w_u64 (by omega)))) ?_
          refine .cons (.plain rfl (ok_assign (.lit))) ?_
          refine .cons (.plain rfl (ok_assign (.tmp 0 rfl))) ?_
          refine .cons (.plain rfl (ok_assign (.lit))) ?_
          exact .nil
        clear H11 a11 w11 B11
        intro a13 w13 B13 H13
        refine ops_done ?_
        refine then_normal ?_
        refine wp_ret ?_
        refine then_ret ?_
        exact f_retN H13 rfl rfl (.tmp 0 rfl (fun v w B h => by refine int_e ?_ h; unfold narrowP; simp [*]) (.tmp 1 rfl (fun v w B h => by refine int_e ?_ h; unfold narrowP; simp [*]) (.tmp 2 rfl (fun v w B h => by refine isB_e ?_ h; unfold narrowP; simp [*]) (.nil))))
      · intro hc12
        refine wp_skip ?_
        refine then_normal ?_
        refine wp_seq ?_
        refine flow_region (dsts := [some 33, some 2, some 3, some 4]) (refs := [[.pre 2], [], [.res 0], []]) (outs := [.res 1, .res 2, .res 3, .pre 6]) (als := [false, false, false, false]) (posts := [.val (Lit (.int .u64 ((bitsO (whatV z)).1))), .val (Lit (.int .i64 64)), .val (Lit (.int .u64 ((bitsO (whatV z)).1))), .val (IsB true)])
          (out := [(2, .val (Lit (.int .i64 64))), (3, .val (Lit (.int .u64 ((bitsO (whatV z)).1)))), (4, .val (IsB true)), (34, .val (EnvV))]) (nb := []) H11 4 [] rfl (by kernel_rfl) rfl rfl ?_ ?_
        · refine .cons (.plain rfl (ok_move (.tmp 0 rfl))) ?_
          refine .cons (.plain rfl (ok_assign (.lit))) ?_
          refine .cons (.plain rfl (ok_assign (.tmp 0 rfl))) ?_
          refine .cons (.plain rfl (ok_assign (.lit))) ?_
          exact .nil
        clear H11 a11 w11 B11
        intro a14 w14 B14 H14
        refine ops_done ?_
        refine then_normal ?_
        refine wp_ret ?_
        exact f_retN H14 rfl rfl (.tmp 0 rfl (fun v w B h => by refine int_e ?_ h; unfold narrowP; simp [*]) (.tmp 1 rfl (fun v w B h => by refine int_e ?_ h; unfold narrowP; simp [*]) (.tmp 2 rfl (fun v w B h => by refine isB_e ?_ h; unfold narrowP; simp [*]) (.nil))))

set_option maxRecDepth 20000 in
set_option maxHeartbeats 2000000 in
theorem con_partsE (X : Int) : Con Tryz.prog 85 [IsOne (.exact X)] (Tup [IsN (partN (.exact X)), Lit (.int .i64 (partE (.exact X)))]) := by
  refine f_enter (N := 33) Tryz.ntmps85 (fun _ _ => by go_simp) Tryz.func85 rfl (by simp) ?_
  intro a0 w0 B0 H0
  replace H0 : St 33 w0 B0 a0 w0 B0 [(0, .val (IsOne (.exact X)))] [] := H0
  refine wp_seq ?_
  refine flow_region (dsts := [some 2, some 3]) (refs := [[], []]) (outs := [.res 0, .res 1, .pre 0]) (als := [true, false]) (posts := [.box 34 2 (Zero2), .val (Lit (.int .i64 0))])
    (out := [(2, .box 34 2 (Zero2)), (3, .val (Lit (.int .i64 0))), (0, .val (IsOne (.exact X)))]) (nb := [2]) H0 2 [] rfl (by kernel_rfl) rfl rfl ?_ ?_
  · refine .cons (.plain rfl (ok_alloc (D := Zero2) zeroI rfl (fun _ _ => rfl))) ?_
    refine .cons (.plain rfl (ok_assign (.lit))) ?_
    exact .nil
  clear H0
  intro a1 w1 B1 H1
  simp only [List.cons_append, List.nil_append] at H1
  refine ops_done ?_
  refine then_normal ?_
  refine wp_seq ?_
  refine wp_seq ?_
  refine flow_region (dsts := [some 10]) (refs := [[.pre 2]]) (outs := [.res 0, .pre 0, .pre 1]) (als := [false]) (posts := [.val (IsOne (.exact X))])
    (out := [(10, .val (IsOne (.exact X))), (2, .box 34 2 (Zero2)), (3, .val (Lit (.int .i64 0)))]) (nb := []) H1 1 [] rfl (by kernel_rfl) rfl rfl ?_ ?_
  · refine .cons (.plain rfl (ok_move (.tmp 0 rfl))) ?_
    exact .nil
  clear H1 a1 w1 B1
  intro a2 w2 B2 H2
  refine ops_done ?_
  refine then_normal ?_
  refine wp_block ?_
  refine wp_seq ?_
  refine flow_region (dsts := [some 11, some 12, some 13]) (refs := [[.pre 0], [.res 0], [.res 0]]) (outs := [.res 1, .res 2, .pre 0, .pre 1, .pre 2]) (als := [false, false, false]) (posts := [.val (Tup [IsEx X, IsB true]), .val (IsB true), .val (IsEx X)])
    (out := [(12, .val (IsB true)), (13, .val (IsEx X)), (10, .val (IsOne (.exact X))), (2, .box 34 2 (Zero2)), (3, .val (Lit (.int .i64 0)))]) (nb := []) H2 3 [] rfl (by kernel_rfl) rfl rfl ?_ ?_
  · refine .cons (.plain rfl (ok_ta1 (.tmp 0 rfl) rfl rfl rfl)) ?_
    refine .cons (.plain rfl (ok_extract 1 (.tmp 0 rfl) rfl)) ?_
    refine .cons (.plain rfl (ok_extract 0 (.tmp 0 rfl) rfl)) ?_
    exact .nil
  clear H2 a2 w2 B2
  intro a3 w3 B3 H3
  refine ops_done ?_
  refine then_normal ?_
  refine f_condT H3 (.tmp 0 rfl) ?_
  refine wp_seq ?_
  refine flow_region (dsts := [some 4]) (refs := [[]]) (outs := [.res 0, .pre 1, .pre 2, .pre 3, .pre 4]) (als := [true]) (posts := [.box 166 2 (IsEx 0)])
    (out := [(4, .box 166 2 (IsEx 0)), (13, .val (IsEx X)), (10, .val (IsOne (.exact X))), (2, .box 34 2 (Zero2)), (3, .val (Lit (.int .i64 0)))]) (nb := [4]) H3 1 [1] rfl (by kernel_rfl) rfl rfl ?_ ?_
  · refine .cons (.plain rfl (ok_allocEx)) ?_
    exact .nil
  clear H3 a3 w3 B3
  intro a4 w4 B4 H4
  simp only [List.cons_append, List.nil_append] at H4
  refine ops_one ?_
  refine store_op (l' := [(4, .box 166 2 (IsEx X)), (13, .val (IsEx X)), (10, .val (IsOne (.exact X))), (2, .box 34 2 (Zero2)), (3, .val (Lit (.int .i64 0)))]) 0 H4 rfl tyEx rfl (.tmp 1 rfl) shape_Ex shape_Ex rfl rfl ?_
  clear H4 w4
  intro w5 H5
  refine ops_done ?_
  refine then_normal ?_
  refine wp_seq ?_
  refine flow_region (dsts := [some 14, some 15]) (refs := [[.pre 0], [.res 0]]) (outs := [.res 1, .pre 2, .pre 3, .pre 4]) (als := [false, false]) (posts := [.ptr 166 2 (IsEx X) 0, .val (IsI X)])
    (out := [(15, .val (IsI X)), (10, .val (IsOne (.exact X))), (2, .box 34 2 (Zero2)), (3, .val (Lit (.int .i64 0)))]) (nb := []) H5 2 [2, 3] rfl (by kernel_rfl) rfl rfl ?_ ?_
  · refine .cons (.plain rfl (ok_addrEx (.tmp 0 rfl))) ?_
    refine .cons (.plain rfl (ok_loadEx (.tmp 0 rfl))) ?_
    exact .nil
  clear H5 a4 w5 B4
  intro a6 w6 B6 H6
  refine ops_one ?_
  refine store_op (l' := [(15, .val (IsI X)), (10, .val (IsOne (.exact X))), (2, .box 34 2 (IsI X)), (3, .val (Lit (.int .i64 0)))]) 2 H6 rfl tyI rfl (.tmp 0 rfl) shape_Z shape_I rfl rfl ?_
  clear H6 w6
  intro w7 H7
  refine ops_one ?_
  refine tail_op (D := .val (Lit (.int .i64 0))) (l' := [(3, .val (Lit (.int .i64 0))), (15, .val (IsI X)), (10, .val (IsOne (.exact X))), (2, .box 34 2 (IsI X))]) H7 rfl rfl rfl (.plain rfl (ok_assign (.lit))) rfl rfl ?_
  clear H7 a6 w7 B6
  intro a8 w8 B8 H8
  refine ops_done ?_
  refine then_normal ?_
  refine wp_ret ?_
  refine block_ret ?_
  refine then_ret ?_
  exact f_retN H8 rfl rfl (.cell 3 tyI rfl (fun v w B h => by exact weakIN v w B h) (.tmp 0 rfl (fun v w B h => by exact h) (.nil)))

set_option maxRecDepth 20000 in
set_option maxHeartbeats 2000000 in
theorem con_partsB (b : Int) (hb : 0 ≤ b ∧ b < 18446744073709551616) : ConE Tryz.prog 85 [IsOne (.broken b)] (Tup [IsN (partN (.broken b)), Lit (.int .i64 (partE (.broken b)))]) := by
  refine f_enterE (N := 33) Tryz.ntmps85 (fun _ _ => by go_simp) Tryz.func85 rfl (by simp) ?_
  intro a0 w0 B0 H0
  replace H0 : St 33 w0 B0 a0 w0 B0 [(0, .val (IsOne (.broken b))), (33, .val (EnvV))] [] := H0
  refine wp_seq ?_
  have hpm := pM_bd (W := 64) (by unfold Wide; omega) b
  refine flow_region (dsts := [some 2, some 3]) (refs := [[], []]) (outs := [.res 0, .res 1, .pre 0, .pre 1]) (als := [true, false]) (posts := [.box 34 2 (Zero2), .val (Lit (.int .i64 0))])
    (out := [(2, .box 34 2 (Zero2)), (3, .val (Lit (.int .i64 0))), (0, .val (IsOne (.broken b))), (33, .val (EnvV))]) (nb := [2]) H0 2 [] rfl (by kernel_rfl) rfl rfl ?_ ?_
  · refine .cons (.plain rfl (ok_alloc (D := Zero2) zeroI rfl (fun _ _ => rfl))) ?_
    refine .cons (.plain rfl (ok_assign (.lit))) ?_
    exact .nil
  clear H0
  intro a1 w1 B1 H1
  simp only [List.cons_append, List.nil_append] at H1
  refine ops_done ?_
  refine then_normal ?_
  refine wp_seq ?_
  refine wp_seq ?_
  refine flow_region (dsts := [some 10]) (refs := [[.pre 2]]) (outs := [.res 0, .pre 0, .pre 1, .pre 3]) (als := [false]) (posts := [.val (IsOne (.broken b))])
    (out := [(10, .val (IsOne (.broken b))), (2, .box 34 2 (Zero2)), (3, .val (Lit (.int .i64 0))), (33, .val (EnvV))]) (nb := []) H1 1 [] rfl (by kernel_rfl) rfl rfl ?_ ?_
  · refine .cons (.plain rfl (ok_move (.tmp 0 rfl))) ?_
    exact .nil
  clear H1 a1 w1 B1
  intro a2 w2 B2 H2
  refine ops_done ?_
  refine then_normal ?_
  refine wp_block ?_
  refine wp_seq ?_
  refine flow_region (dsts := [some 11, some 12, some 13]) (refs := [[.pre 0], [.res 0], [.res 0]]) (outs := [.res 1, .res 2, .pre 0, .pre 1, .pre 2, .pre 3]) (als := [false, false, false]) (posts := [.val (Tup [VP.top, IsB false]), .val (IsB false), .val (VP.top)])
    (out := [(12, .val (IsB false)), (13, .val (VP.top)), (10, .val (IsOne (.broken b))), (2, .box 34 2 (Zero2)), (3, .val (Lit (.int .i64 0))), (33, .val (EnvV))]) (nb := []) H2 3 [] rfl (by kernel_rfl) rfl rfl ?_ ?_
  · refine .cons (.plain rfl (ok_ta0 (.tmp 0 rfl) rfl (.inl rfl) (show (167 : Nat) ≠ 166 by decide))) ?_
    refine .cons (.plain rfl (ok_extract 1 (.tmp 0 rfl) rfl)) ?_
    refine .cons (.plain rfl (ok_extract 0 (.tmp 0 rfl) rfl)) ?_
    exact .nil
  clear H2 a2 w2 B2
  intro a3 w3 B3 H3
  refine ops_done ?_
  refine then_normal ?_
  refine f_condF H3 (.tmp 0 rfl) ?_
  refine wp_seq ?_
  refine flow_region (dsts := [some 16, some 17, some 18]) (refs := [[.pre 2], [.res 0], [.res 0]]) (outs := [.res 1, .res 2, .pre 3, .pre 4, .pre 5]) (als := [false, false, false]) (posts := [.val (Tup [U1 b, IsB true]), .val (IsB true), .val (U1 b)])
    (out := [(17, .val (IsB true)), (18, .val (U1 b)), (2, .box 34 2 (Zero2)), (3, .val (Lit (.int .i64 0))), (33, .val (EnvV))]) (nb := []) H3 3 [] rfl (by kernel_rfl) rfl rfl ?_ ?_
  · refine .cons (.plain rfl (ok_ta1 (.tmp 0 rfl) rfl rfl rfl)) ?_
    refine .cons (.plain rfl (ok_extract 1 (.tmp 0 rfl) rfl)) ?_
    refine .cons (.plain rfl (ok_extract 0 (.tmp 0 rfl) rfl)) ?_
    exact .nil
  clear H3 a3 w3 B3
  intro a4 w4 B4 H4
  refine ops_done ?_
  refine then_normal ?_
  refine f_condT H4 (.tmp 0 rfl) ?_
  refine wp_seq ?_
  refine flow_region (dsts := [some 5]) (refs := [[]]) (outs := [.res 0, .pre 1, .pre 2, .pre 3, .pre 4]) (als := [true]) (posts := [.box 167 1 (U1 0)])
    (out := [(5, .box 167 1 (U1 0)), (18, .val (U1 b)), (2, .box 34 2 (Zero2)), (3, .val (Lit (.int .i64 0))), (33, .val (EnvV))]) (nb := [5]) H4 1 [1] rfl (by kernel_rfl) rfl rfl ?_ ?_
  · refine .cons (.plain rfl (ok_allocBr)) ?_
    exact .nil
  clear H4 a4 w4 B4
  intro a5 w5 B5 H5
  simp only [List.cons_append, List.nil_append] at H5
  refine ops_one ?_
  refine store_op (l' := [(5, .box 167 1 (U1 b)), (18, .val (U1 b)), (2, .box 34 2 (Zero2)), (3, .val (Lit (.int .i64 0))), (33, .val (EnvV))]) 0 H5 rfl tyBr rfl (.tmp 1 rfl) shape_U1 shape_U1 rfl rfl ?_
  clear H5 w5
  intro w6 H6
  refine ops_done ?_
  refine then_normal ?_
  refine wp_seq ?_
  refine flow_region (dsts := [some 20, some 21, some 22, some 19, some 23, some 24, some 25, some 26, some 6, some 7, some 8, some 9]) (refs := [[.pre 0], [.res 0], [.res 1, .pre 4], [.res 2], [.res 3], [.res 3], [.res 3], [.res 3], [.res 4], [.res 5], [.res 6], [.res 7]]) (outs := [.res 8, .res 9, .res 10, .pre 2, .pre 3, .pre 4]) (als := [false, false, false, false, false, false, false, false, false, false, false, false]) (posts := [.ptr 167 1 (U1 b) 0, .val (Lit (.int .u64 b)), .val (Tup [IsB (pNeg 64 b), Lit (.int .u64 (pM 64 b)), Lit (.int .i64 (pE 64 b)), IsB (pOk 64 b)]), .val (Tup [IsB (pNeg 64 b), Lit (.int .u64 (pM 64 b)), Lit (.int .i64 (pE 64 b)), IsB (pOk 64 b)]), .val (IsB (pNeg 64 b)), .val (Lit (.int .u64 (pM 64 b))), .val (Lit (.int .i64 (pE 64 b))), .val (IsB (pOk 64 b)), .val (IsB (pNeg 64 b)), .val (Lit (.int .u64 (pM 64 b))), .val (Lit (.int .i64 (pE 64 b))), .val (IsB (pOk 64 b))])
    (out := [(6, .val (IsB (pNeg 64 b))), (7, .val (Lit (.int .u64 (pM 64 b)))), (8, .val (Lit (.int .i64 (pE 64 b)))), (2, .box 34 2 (Zero2)), (3, .val (Lit (.int .i64 0))), (33, .val (EnvV))]) (nb := []) H6 12 [] rfl (by kernel_rfl) rfl rfl ?_ ?_
  · refine .cons (.plain rfl (ok_addrBr (.tmp 0 rfl))) ?_
    refine .cons (.plain rfl (ok_loadU1 (.tmp 0 rfl))) ?_
    refine .cons (.plain rfl (ok_callE (con_iparts64 b hb) 1 rfl (.cons (.tmp 0 rfl) (.nil)))) ?_
    refine .cons (.plain rfl (ok_move (.tmp 0 rfl))) ?_
    refine .cons (.plain rfl (ok_extract 0 (.tmp 0 rfl) rfl)) ?_
    refine .cons (.plain rfl (ok_extract 1 (.tmp 0 rfl) rfl)) ?_
    refine .cons (.plain rfl (ok_extract 2 (.tmp 0 rfl) rfl)) ?_
    refine .cons (.plain rfl (ok_extract 3 (.tmp 0 rfl) rfl)) ?_
    refine .cons (.plain rfl (ok_assign (.tmp 0 rfl))) ?_
    refine .cons (.plain rfl (ok_assign (.tmp 0 rfl))) ?_
    refine .cons (.plain rfl (ok_assign (.tmp 0 rfl))) ?_
    refine .cons (.plain rfl (ok_assign (.tmp 0 rfl))) ?_
    exact .nil
  clear H6 a5 w6 B5
  intro a7 w7 B7 H7
  refine ops_done ?_
  refine then_normal ?_
  refine wp_seq ?_
  refine flow_region (dsts := [some 27, some 28, some 29, some 30, some 31]) (refs := [[.pre 0], [.pre 1], [.res 1], [.res 0, .res 2], [.pre 2]]) (outs := [.res 3, .res 4, .pre 3, .pre 4, .pre 5]) (als := [false, false, false, false, false]) (posts := [.val (IsB (pNeg 64 b)), .val (Lit (.int .u64 (pM 64 b))), .val (IsC (pM 64 b)), .val (IsN (sI (pNeg 64 b) (pM 64 b))), .val (Lit (.int .i64 (pE 64 b)))])
    (out := [(30, .val (IsN (sI (pNeg 64 b) (pM 64 b)))), (31, .val (Lit (.int .i64 (pE 64 b)))), (2, .box 34 2 (Zero2)), (3, .val (Lit (.int .i64 0))), (33, .val (EnvV))]) (nb := []) H7 5 [5, 6] rfl (by kernel_rfl) rfl rfl ?_ ?_
  · refine .cons (.plain rfl (ok_move (.tmp 0 rfl))) ?_
    refine .cons (.plain rfl (ok_move (.tmp 0 rfl))) ?_
    refine .cons (.plain rfl (ok_call (con_nfrom (pM 64 b) (by omega)) (.cons (.tmp 0 rfl) (.nil)))) ?_
    refine .cons (.plain rfl (ok_buildBN (.tmp 0 rfl) (.weak (.tmp 1 rfl) weakCM))) ?_
    refine .cons (.plain rfl (ok_move (.tmp 0 rfl))) ?_
    exact .nil
  clear H7 a7 w7 B7
  intro a8 w8 B8 H8
  refine ops_one ?_
  refine store_op (l' := [(30, .val (IsN (sI (pNeg 64 b) (pM 64 b)))), (31, .val (Lit (.int .i64 (pE 64 b)))), (2, .box 34 2 (IsN (sI (pNeg 64 b) (pM 64 b)))), (3, .val (Lit (.int .i64 0))), (33, .val (EnvV))]) 2 H8 rfl tyI rfl (.tmp 0 rfl) shape_Z shape_N rfl rfl ?_
  clear H8 w8
  intro w9 H9
  refine ops_one ?_
  refine tail_op (D := .val (Lit (.int .i64 (pE 64 b)))) (l' := [(3, .val (Lit (.int .i64 (pE 64 b)))), (30, .val (IsN (sI (pNeg 64 b) (pM 64 b)))), (31, .val (Lit (.int .i64 (pE 64 b)))), (2, .box 34 2 (IsN (sI (pNeg 64 b) (pM 64 b)))), (33, .val (EnvV))]) H9 rfl rfl rfl (.plain rfl (ok_assign (.tmp 1 rfl))) rfl rfl ?_
  clear H9 a8 w9 B8
  intro a10 w10 B10 H10
  refine ops_done ?_
  refine then_normal ?_
  refine wp_ret ?_
  refine block_ret ?_
  refine then_ret ?_
  exact f_retN H10 rfl rfl (.cell 3 tyI rfl (fun v w B h => by exact h) (.tmp 0 rfl (fun v w B h => by exact h) (.nil)))

set_option maxRecDepth 20000 in
set_option maxHeartbeats 2000000 in
theorem con_raise (X n : Int) (hX : -18446744073709551616 < X ∧ X < 18446744073709551616) (hn : 0 ≤ n ∧ n ≤ 4096) : Con Tryz.prog 87 [IsN X, Lit (.int .i64 n)] (IsN (X * 2 ^ n.toNat)) := by
  refine f_enter (N := 18) Tryz.ntmps87 (fun _ _ => by go_simp) Tryz.func87 rfl (by simp) ?_
  intro a0 w0 B0 H0
  replace H0 : St 18 w0 B0 a0 w0 B0 [(0, .val (IsN X)), (1, .val (Lit (.int .i64 n)))] [] := H0
  refine wp_seq ?_
  have hs := shl_small X n hX hn
  refine flow_region (dsts := [some 2, some 4]) (refs := [[.pre 0], []]) (outs := [.res 0, .res 1, .pre 1]) (als := [true, true]) (posts := [.box 34 2 (IsN X), .box 34 2 (Zero2)])
    (out := [(2, .box 34 2 (IsN X)), (4, .box 34 2 (Zero2)), (1, .val (Lit (.int .i64 n)))]) (nb := [2, 4]) H0 2 [] rfl (by kernel_rfl) rfl rfl ?_ ?_
  · refine .cons (.plain rfl (ok_box (.tmp 0 rfl) shape_N.two)) ?_
    refine .cons (.plain rfl (ok_alloc (D := Zero2) zeroI rfl (fun _ _ => rfl))) ?_
    exact .nil
  clear H0
  intro a1 w1 B1 H1
  simp only [List.cons_append, List.nil_append] at H1
  refine ops_done ?_
  refine then_normal ?_
  refine wp_seq ?_
  refine flow_region (dsts := [some 8, some 9, some 10, some 11, some 7, some 12, some 13, some 5, some 6]) (refs := [[.pre 0], [.res 0], [.pre 2], [.res 1, .res 2], [.res 3], [.res 4], [.res 4], [.res 5], [.res 6]]) (outs := [.res 7, .pre 0, .pre 1]) (als := [false, false, false, false, false, false, false, false, false]) (posts := [.ptr 34 2 (IsN X) 1, .val (IsM ((X).natAbs : Int)), .val (Lit (.int .i64 n)), .val (Tup [IsC (shlNum (X.natAbs : Int) n), IsB (shlOk (X.natAbs : Int) n)]), .val (Tup [IsC (shlNum (X.natAbs : Int) n), IsB (shlOk (X.natAbs : Int) n)]), .val (IsC (shlNum (X.natAbs : Int) n)), .val (IsB (shlOk (X.natAbs : Int) n)), .val (IsC (shlNum (X.natAbs : Int) n)), .val (IsB (shlOk (X.natAbs : Int) n))])
    (out := [(5, .val (IsC (shlNum (X.natAbs : Int) n))), (2, .box 34 2 (IsN X)), (4, .box 34 2 (Zero2))]) (nb := []) H1 9 [] rfl (by kernel_rfl) rfl rfl ?_ ?_
  · refine .cons (.plain rfl (ok_addrI1 (.tmp 0 rfl))) ?_
    refine .cons (.plain rfl (ok_loadMagN (.tmp 0 rfl))) ?_
    refine .cons (.plain rfl (ok_move (.tmp 0 rfl))) ?_
    refine .cons (.plain rfl (ok_call (con_nshl ((X.natAbs : Int)) n (by omega) (by omega) hs.2) (.cons (.tmp 0 rfl) (.cons (.tmp 1 rfl) (.nil))))) ?_
    refine .cons (.plain rfl (ok_move (.tmp 0 rfl))) ?_
    refine .cons (.plain rfl (ok_extract 0 (.tmp 0 rfl) rfl)) ?_
    refine .cons (.plain rfl (ok_extract 1 (.tmp 0 rfl) rfl)) ?_
    refine .cons (.plain rfl (ok_assign (.tmp 0 rfl))) ?_
    refine .cons (.plain rfl (ok_assign (.tmp 0 rfl))) ?_
    exact .nil
  clear H1 a1 w1 B1
  intro a2 w2 B2 H2
  refine ops_done ?_
  refine then_normal ?_
  refine wp_seq ?_
  refine flow_region (dsts := [some 14, some 15, some 16, some 17]) (refs := [[.pre 1], [.res 0], [.pre 0], [.res 1, .res 2]]) (outs := [.res 3, .pre 2]) (als := [false, false, false, false]) (posts := [.ptr 34 2 (IsN X) 0, .val (IsSg X), .val (IsC (shlNum (X.natAbs : Int) n)), .val (IsN (X * 2 ^ n.toNat))])
    (out := [(17, .val (IsN (X * 2 ^ n.toNat))), (4, .box 34 2 (Zero2))]) (nb := []) H2 4 [4] rfl (by kernel_rfl) rfl rfl ?_ ?_
  · refine .cons (.plain rfl (ok_addrI0 (.tmp 0 rfl))) ?_
    refine .cons (.plain rfl (ok_loadNegN (.tmp 0 rfl))) ?_
    refine .cons (.plain rfl (ok_move (.tmp 0 rfl))) ?_
    refine .cons (.plain rfl (ok_buildSN (N := X * 2 ^ n.toNat) (.weak (.tmp 0 rfl) (weakSgM n.toNat)) (.weak (.weak (.tmp 1 rfl) (fun v w B h => isC_e hs.1 h)) weakCM))) ?_
    exact .nil
  clear H2 a2 w2 B2
  intro a3 w3 B3 H3
  refine ops_one ?_
  refine store_op (l' := [(17, .val (IsN (X * 2 ^ n.toNat))), (4, .box 34 2 (IsN (X * 2 ^ n.toNat)))]) 1 H3 rfl tyI rfl (.tmp 0 rfl) shape_Z shape_N rfl rfl ?_
  clear H3 w3
  intro w4 H4
  refine ops_done ?_
  refine then_normal ?_
  refine wp_ret ?_
  exact f_retC H4 tyI rfl 1 rfl (fun _ _ _ h => h)

end Go.Proofs.YtoimhjcpeifegaaGreatDoor


/- A value of any kind as a number, or none: what is asked of it; package value's checks. -/
set_option maxRecDepth 50000
namespace Go.Proofs.YtoimhjcpeifegaaGreatDoor
open Go Go.RowKit

/-- The variable ErrArg holds an error, and is no variable of a call's. -/
def ErrAP (w : World) (B : Bx) : Prop := ∃ te ue, w.cell? ⟨0, 0, none⟩ = some (.iface te ue) ∧ ¬ B 0
theorem ErrAP.mv {w w' : World} {B B' : Bx} (h : Mv w B w' B') (e : ErrAP w B) : ErrAP w' B' := by
  obtain ⟨te, ue, hc, hn⟩ := e
  have hl := World.block_lt_of_cell? w _ hc
  exact ⟨te, ue, cell_mv h hc (.inl hn), fun hb => hn (h.box _ hl hb)⟩
/-- A value that reads as t. -/
def IsVA (t : VT) : VP := ⟨fun v w B => (IsVv t).p v w B ∧ ErrAP w B, fun v w B w' B' h ⟨h1, h2⟩ => ⟨(IsVv t).st _ _ _ _ _ h h1, h2.mv h⟩⟩
theorem shape_VA {t : VT} : Shape 8 (IsVA t) := fun v w B ⟨h, _⟩ => by
  have h : RdV w.heap.size w B t v := h
  obtain ⟨cs, rfl⟩ := h.agg
  obtain ⟨ad, n, c, kd, rfl, _, _, ⟨ka, kc, rfl, _⟩, _⟩ := h.open
  refine ⟨_, rfl, rfl, by simp [Value.oneCell'], fun j ik x hk => ?_⟩
  rcases j with _ | _ | _ | _ | _ | _ | _ | _ | j <;> simp <;> (rintro rfl; rcases hk with hk | hk <;> cases hk)
section
variable {need : List (Tmp × FD)} {d : Option Tmp} {ty : TypeId} {pos : String} {af : Array Edge} {g : Option (Nat × Bool)} {x : Operand} {t : VT}
theorem ok_loadVA0 (h : Opd need x (.ptr 37 8 (IsVA t) 0)) : OpOk Tryz.prog ⟨d, .load 30 x, ty, pos, af, g⟩ need (.val (Lit (.int .i8 (VT.d t).k))) false :=
  ok_loadPtr1 aggKind h (by decide) fun cs v w B ⟨h1, _⟩ hv => by
    obtain ⟨ad, n, c, kd, rfl, _⟩ := RdV.open (show RdV w.heap.size w B t (.agg cs) from h1)
    simp at hv
    exact hv.symm
/-- One value as a list. -/
theorem ok_oneVq (h : Opd need x (.val (IsVA t))) : OpOk Tryz.prog ⟨d, .buildSlice 35 1 #[(0, x)], ty, pos, af, g⟩ need (.val (IsVq [t])) false := by
  intro Q K a w B hB hF hK
  have hv : RdV w.heap.size w B t (a.eval x) := (h a w B hF).1
  obtain ⟨v, w', hr, hp, hbel⟩ := oneV_at (d := d) (ty := ty) (pos := pos) (af := af) (g := g) hB hv
  unfold Oper.wp
  rw [hr]
  exact hK _ _ B (hp.mono (Nat.le_refl _) hbel.size) (Bl.of_below B hbel) hbel (below_own1 hB hbel) (by simp)
end
/-- May the node be by itself (of a number's kind). -/
noncomputable def aloneT (t : VT) : Bool := if t.d.k = 3 then normB t.d.ng t.d.xs && restB t.d.n t.d.b t.d.x t.d.t t.kids.length else fltB t.d.b && !t.d.ng && decide (t.d.xs.length = 0) && restB t.d.n 0 t.d.x t.d.t t.kids.length
theorem con_aloneA (t : VT) (hk : t.d.k = 3 ∨ t.d.k = 4) (hb : 0 ≤ t.d.b ∧ t.d.b < 18446744073709551616) : ConE Tryz.prog 101 [IsVA t] (IsB (aloneT t)) := by
  refine ⟨fun _ _ => by go_simp, fun vs w B hB hE hV => ?_⟩
  match vs, hV with
  | [v], ⟨⟨h1, _⟩, _⟩ =>
    have h1 : RdV w.heap.size w B t v := h1
    obtain ⟨cs, rfl⟩ := h1.agg
    obtain ⟨ad, n, c, kd, rfl, _, ka, ⟨ke, kc, rfl, _⟩, hn, _⟩ := h1.open
    have hl := ka.rds.len
    unfold aloneT
    rcases hk with hk | hk
    · rw [hk, if_pos rfl]
      exact (alone3_gen _ _ _ _ _ ad n c _ ke _ kc w ka (by rw [big_eq] at hn; omega)).mono fun e w' h => ⟨_, h.1, rfl, h.2⟩
    · rw [hk, if_neg (by decide), hl]
      refine (alone4_gen _ _ _ _ _ ad n c ke _ kc (fltB t.d.b) w fun w' hb2 => ?_).mono fun e w' h => ⟨_, h.1, rfl, h.2⟩
      have hE2 := hE.mv (Bl.of_below B hb2).mv
      refine ((con_vfloat t.d.b hb).calls [.int .u64 t.d.b] w' (fun _ => False) (fun _ h => h.elim) ⟨hE2.sh, hE2.tab, fun h => h⟩ ⟨rfl, trivial⟩).mono ?_
      rintro e w2 ⟨v, rfl, h, hb3⟩
      obtain rfl := h
      exact ⟨rfl, hb3⟩
/-- The parts are of their kinds. -/
structure VOk (d : VD) : Prop where
  k : -128 ≤ d.k ∧ d.k < 128
  n : 0 ≤ d.n ∧ d.n < 18446744073709551616
  b : 0 ≤ d.b ∧ d.b < 18446744073709551616
  x : -128 ≤ d.x ∧ d.x < 128
/-- No number, or none that may be. -/
def NoNum (t : VT) : Prop := (t.d.k ≠ 3 ∧ t.d.k ≠ 4) ∨ ((t.d.k = 3 ∨ t.d.k = 4) ∧ aloneT t = false)
end Go.Proofs.YtoimhjcpeifegaaGreatDoor


/- VCmpM. (Printed by flow15.py.) -/
namespace Go.Proofs.YtoimhjcpeifegaaGreatDoor
open Go Go.RowKit

def isNo : One → Bool
  | .none => true
  | .nothing _ => true
  | _ => false
def endO : One → Int
  | .endless b => sideI b
  | _ => 0
def clampI (d : Int) : Int := if -1 < (if d < 1 then d else 1) then (if d < 1 then d else 1) else -1
def cmpFin (m e n f : Int) : Int := cmpI (m * 2 ^ (if 0 < e - f then e - f else 0).toNat) (n * 2 ^ (if 0 < f - e then f - e else 0).toNat)
/-- How two numbers stand. -/
noncomputable def cmpO (o1 o2 : One) : Int × Bool := if isNo o1 || isNo o2 then (0, false) else if endO o1 ≠ 0 ∨ endO o2 ≠ 0 then (clampI (endO o1 - endO o2), true) else (cmpFin (partN o1) (partE o1) (partN o2) (partE o2), true)
theorem cmpO_fin (o1 o2 : One) (h1 : isNo o1 = false) (h2 : isNo o2 = false) (h3 : endO o1 = 0) (h4 : endO o2 = 0) : cmpO o1 o2 = (cmpFin (partN o1) (partE o1) (partN o2) (partE o2), true) := by
  unfold cmpO
  rw [if_neg (by rw [h1, h2]; simp), if_neg (by omega)]
theorem bits_small {V : Int} (hV : 0 ≤ V) (h : ¬ 64 < bitsOf V) : V < 18446744073709551616 := by
  unfold bitsOf at h
  have h1 := blen_lt V.toNat
  have h2 : 2 ^ blen V.toNat ≤ 2 ^ 64 := Nat.pow_le_pow_right (by omega) (by omega)
  omega
theorem bits_great {V : Int} (hV : 0 ≤ V) (h : 64 < bitsOf V) : 18446744073709551616 ≤ V := by
  unfold bitsOf at h
  have h0 : V.toNat ≠ 0 := fun e => by rw [e, blen_zero] at h; omega
  have h1 := blen_ge V.toNat h0
  have h2 : 2 ^ 64 ≤ 2 ^ (blen V.toNat - 1) := Nat.pow_le_pow_right (by omega) (by omega)
  omega
theorem cmp_long1 (X m f : Int) (hX : 64 < bitsOf (X.natAbs : Int)) (hm : -18446744073709551616 < m ∧ m < 18446744073709551616) (hf : f < 0) : cmpI X 0 = cmpFin X 0 m f := by
  have h1 := bits_great (by omega) hX
  unfold cmpFin
  rw [if_pos (show 0 < 0 - f by omega), if_neg (show ¬ 0 < f - 0 by omega)]
  have h2 : (1 : Int) ≤ 2 ^ (0 - f).toNat := Int.pow_pos (by omega)
  generalize (2 : Int) ^ (0 - f).toNat = P at *
  rw [Int.toNat_zero, Int.pow_zero, Int.mul_one]
  rcases Int.lt_or_le X 0 with h | h
  · have h3 : X * P ≤ X * 1 := Int.mul_le_mul_of_nonpos_left (by omega) h2
    rw [cmpI_lt h, cmpI_lt (by omega)]
  · have h3 : X * 1 ≤ X * P := Int.mul_le_mul_of_nonneg_left h2 h
    rw [cmpI_gt (by omega), cmpI_gt (by omega)]
theorem partN_bd (b : Int) : -18446744073709551616 < sI (pNeg 64 b) (pM 64 b) ∧ sI (pNeg 64 b) (pM 64 b) < 18446744073709551616 := by
  have := pM_bd (W := 64) (by unfold Wide; omega) b
  unfold sI
  split <;> omega
end Go.Proofs.YtoimhjcpeifegaaGreatDoor


/- From a row's reading of a value (of any kind, with all that lies within it) to what the walks ask. -/
namespace Go.Proofs.YtoimhjcpeifegaaGreatDoor
open Go Go.ChangeShapes Go.WideShapes Go.RowKit

theorem fields_value : ∃ f0 f1 f2 f3 f4 f5 f6 : Field, Tryz.prog.underlying 37 = some (.struct #[f0, f1, f2, f3, f4, f5, f6]) ∧ (f0.type = 30 ∧ f0.offset = 0) ∧ (f1.type = 24 ∧ f1.offset = 1) ∧ (f2.type = 34 ∧ f2.offset = 2) ∧ (f3.type = 24 ∧ f3.offset = 4) ∧ (f4.type = 29 ∧ f4.offset = 5) ∧ (f5.type = 9 ∧ f5.offset = 6) ∧ (f6.type = 35 ∧ f6.offset = 7) :=
  ⟨_, _, _, _, _, _, _, Tryz.underlying37, ⟨rfl, rfl⟩, ⟨rfl, rfl⟩, ⟨rfl, rfl⟩, ⟨rfl, rfl⟩, ⟨rfl, rfl⟩, ⟨rfl, rfl⟩, ⟨rfl, rfl⟩⟩
theorem cellsVal : Tryz.prog.cellsOf 37 = 8 := by kernel_rfl
theorem bytesVal : Tryz.prog.bytesOf 37 = 104 := by kernel_rfl
theorem cellsKind : Tryz.prog.cellsOf 30 = 1 := by kernel_rfl
theorem cellsU64 : Tryz.prog.cellsOf 24 = 1 := by kernel_rfl
theorem cellsI8 : Tryz.prog.cellsOf 29 = 1 := by kernel_rfl
theorem cellsStrV : Tryz.prog.cellsOf 9 = 1 := by kernel_rfl
theorem cellsVals : Tryz.prog.cellsOf 35 = 1 := by kernel_rfl
theorem wf_i8 {x : Int} (h : (Lit.int .i8 x).wf = true) : -128 ≤ x ∧ x < 128 := by
  have := bounds_i8 h
  omega
/-- Trees, one for each place. -/
theorem choose_trees {n : Nat} {Q : Nat → VT → Prop} (h : ∀ j, j < n → ∃ t, Q j t) : ∃ l : List VT, l.length = n ∧ ∀ (j : Nat) (t : VT), l[j]? = some t → Q j t := by
  induction n generalizing Q with
  | zero => exact ⟨[], rfl, fun j t hj => by simp at hj⟩
  | succ n ih =>
    obtain ⟨t0, h0⟩ := h 0 (by omega)
    obtain ⟨l, h1, h2⟩ := ih (Q := fun j => Q (j + 1)) fun j hj => h (j + 1) (by omega)
    refine ⟨t0 :: l, by simp [h1], fun j t hj => ?_⟩
    cases j with
    | zero => simp at hj; subst hj; exact h0
    | succ j => exact h2 j t (by simpa using hj)
theorem arg_lt {w : World} {ad : Option Addr} {n c : Nat} {xs : List Int} (k : Arg w ad n c xs) : 0 < n → ∀ b, blkOf ad = some b → b < w.heap.size := fun hn b hb => by
  obtain ⟨a, rfl, hc⟩ := k.rds.cell 0 hn
  have := World.block_lt_of_cell? w _ hc
  rw [blk_add] at this
  have hb : a.block = b := Option.some.inj hb
  omega
theorem weights_all_mem {H : Type} {P : Program} {e : TypeId} {d : DataW H} {z : Nat} : ∀ {L : List (DataW H)}, d ∈ L → z ∈ d.weights P e → z ∈ DataW.weightsAll P e L
  | [], h, _ => by cases h
  | u :: us, h, hz => by
    rw [DataW.weightsAll]
    rcases List.mem_cons.1 h with h | h
    · exact List.mem_append_left _ (h ▸ hz)
    · exact List.mem_append_right _ (weights_all_mem h hz)
set_option maxRecDepth 100000 in
theorem open_val {H : Type} {enc : TypeId × Value → H} {W : World} : ∀ (n : Nat) (cs : List Value) (x : DataW H × List MemPlace), DataW.trod enc Tryz.prog W 0 (fun _ => true) true n 37 cs = some x → (x.1.weights Tryz.prog 37).all (· ≤ reachBytes) = true →
    ∃ t : VT, RdV W.heap.size W (fun _ => False) t (.agg cs.toArray) ∧ VOk t.d ∧ cs.length = 8 := by
  intro n
  induction n using Nat.strongRecOn with
  | ind n ih =>
  intro cs x hf hsz
  obtain ⟨f0, f1, f2, f3, f4, f5, f6, hs, ⟨t0, o0⟩, ⟨t1, o1⟩, ⟨t2, o2⟩, ⟨t3, o3⟩, ⟨t4, o4⟩, ⟨t5, o5⟩, ⟨t6, o6⟩⟩ := fields_value
  obtain ⟨xs, q, hq, hx, hlen8, hlen, hfs⟩ := DataW.trod_struct hs hf
  rw [cellsVal] at hlen8
  have g0 := hfs 0 f0 rfl
  have g1 := hfs 1 f1 rfl
  have g2 := hfs 2 f2 rfl
  have g3 := hfs 3 f3 rfl
  have g4 := hfs 4 f4 rfl
  have g5 := hfs 5 f5 rfl
  have g6 := hfs 6 f6 rfl
  match xs, hlen with
  | [y0, y1, y2, y3, y4, y5, y6], _ =>
    subst hx
    have hz : (DataW.weightsEach Tryz.prog [30, 24, 34, 24, 29, 9, 35] [y0.1, y1.1, y2.1, y3.1, y4.1, y5.1, y6.1]).all (· ≤ reachBytes) = true := by
      rw [List.all_eq_true] at hsz ⊢
      intro x hx
      refine hsz x ?_
      simp only [List.map_cons, List.map_nil]
      rw [DataW.weights, hs]
      simp only [List.map_cons, List.map_nil, t0, t1, t2, t3, t4, t5, t6]
      exact hx
    match cs, hlen8 with
    | [c0, c1, c2, c3, c4, c5, c6, c7], _ =>
      rw [t0, o0, cellsKind] at g0
      rw [t1, o1, cellsU64] at g1
      rw [t2, o2, cellsInt2] at g2
      rw [t3, o3, cellsU64] at g3
      rw [t4, o4, cellsI8] at g4
      rw [t5, o5, cellsStrV] at g5
      rw [t6, o6, cellsVals] at g6
      simp only [List.drop_succ_cons, List.drop_zero, List.take_succ_cons, List.take_zero, List.getElem?_cons_zero, List.getElem?_cons_succ] at g0 g1 g2 g3 g4 g5 g6
      obtain ⟨k, e0, -, w0⟩ := DataW.trod_int Tryz.underlying30 g0
      obtain ⟨nn, e1, -, w1⟩ := DataW.trod_int Tryz.underlying24 g1
      obtain ⟨ng, ad, len, cap, zs, e2, e3, ka, kb⟩ := open_int2 hz (j := 2) rfl rfl g2
      obtain ⟨b, e4, -, w4⟩ := DataW.trod_int Tryz.underlying24 g3
      obtain ⟨xx, e5, -, w5⟩ := DataW.trod_int Tryz.underlying29 g4
      obtain ⟨s, e6, e7, w6⟩ := DataW.trod_string Tryz.underlying9 g5
      injection e0 with e0
      injection e1 with e1
      injection e4 with e4
      injection e5 with e5
      injection e6 with e6
      subst e0 e1 e2 e3 e4 e5 e6
      have hy5 : y5.1 = .lit (.string s.data.toList) := by rw [e7]
      have hss := sized_string hz (j := 5) (t := 9) (bytes := s.data.toList) rfl (by rw [← hy5]; rfl)
      rw [Array.length_toList] at hss
      have hss2 : s.size ≤ BIG := by
        have : reachBytes = 140737488351232 := rfl
        rw [big_eq]
        exact Nat.le_trans hss (by omega)
      have hln : len ≤ BIG := by rw [big_eq]; omega
      have hok : VOk ⟨k, nn, ng, zs, b, xx, s⟩ := ⟨wf_i8 w0, wf_u64 w1, wf_u64 w4, wf_i8 w5⟩
      rcases DataW.trod_slice Tryz.underlying35 g6 with ⟨h7, _⟩ | ⟨a, ln, cp, elems, rest, q2, hq2, h7, h8, _, h9, _, h10, h11, _⟩
      · injection h7 with h7
        subst h7
        refine ⟨.node ⟨k, nn, ng, zs, b, xx, s⟩ [], ?_, hok, rfl⟩
        unfold RdV
        refine ⟨ad, len, cap, none, 0, rfl, ka, arg_lt ka, hln, Nat.zero_le _, hss2, ?_⟩
        unfold RdL
        trivial
      · injection h7 with h7
        subst h7
        rw [cellsVal] at h11
        have hw6 : y6.1 = .slice (elems.map (·.1)) (rest.map (·.1)) := by rw [h8]
        have hsl := sized_slice hz (j := 6) (t := 35) (elems := elems.map (·.1)) (spare := rest.map (·.1)) rfl (by rw [← hw6]; rfl) Tryz.underlying35
        rw [bytesVal, List.length_map, h10] at hsl
        have hlb : ln ≤ BIG := by
          have : reachBytes = 140737488351232 := rfl
          rw [big_eq]
          have h12 : ln * 104 ≤ reachBytes := Nat.le_trans (Nat.mul_le_mul_right _ (Nat.le_add_right _ _)) hsl
          omega
        have hel : ∀ j, j < ln → ∃ t : VT, ∃ cs, At8 W (a.add (8 * j)) cs ∧ RdV W.heap.size W (fun _ => False) t (.agg cs.toArray) := fun j hj => by
          have h12 := h11 j hj
          rw [List.getElem?_eq_getElem (by omega)] at h12
          obtain ⟨cs2, h13, h14⟩ := Option.bind_eq_some_iff.1 h12
          have hwj : (elems[j].1.weights Tryz.prog 37).all (· ≤ reachBytes) = true := by
            rw [List.all_eq_true] at hz ⊢
            intro z hzz
            refine hz z (DataW.weights_mem_each (j := 6) (t := 35) (d := y6.1) rfl rfl z ?_)
            rw [hw6, DataW.weights, Tryz.underlying35]
            refine List.mem_cons_of_mem _ (List.mem_append_left _ ?_)
            exact weights_all_mem (List.mem_map.2 ⟨_, List.getElem_mem _, rfl⟩) hzz
          obtain ⟨t, h15, _, h16⟩ := ih q2 (by omega) cs2 _ h14 hwj
          refine ⟨t, cs2, ⟨h16, fun i u hi => ?_⟩, h15⟩
          unfold World.cells? at h13
          rw [if_pos (Nat.zero_le _)] at h13
          have hi8 : i < 8 := by rw [← h16]; exact (List.getElem?_eq_some_iff.1 hi).1
          have := mapM_some_get h13 i i (by rw [List.getElem?_range hi8])
          rw [hi, Nat.mul_comm] at this
          exact this
        obtain ⟨l, hl1, hl2⟩ := choose_trees hel
        refine ⟨.node ⟨k, nn, ng, zs, b, xx, s⟩ l, ?_, hok, rfl⟩
        unfold RdV
        refine ⟨ad, len, cap, some a, cp, by rw [hl1], ka, arg_lt ka, hln, by rw [hl1]; exact hlb, hss2, RdL.mk fun j t hj => ?_⟩
        obtain ⟨cs2, h12, h13⟩ := hl2 j t hj
        refine ⟨?_, fun h => h, cs2, by rw [Nat.zero_add]; exact h12, h13⟩
        have h14 := h12.2 0 _ (List.getElem?_eq_getElem (by rw [h12.1]; omega))
        have := World.block_lt_of_cell? W _ h14
        rwa [blk_add, blk_add] at this
set_option maxRecDepth 100000 in
theorem open_value {H : Type} {enc : TypeId × Value → H} {W : World} {base : Nat} {v : Value} {d : DataW H} {p : List MemPlace} {ts : List TypeId} {ds : List (DataW H)} {j : Nat}
    (hsz : (DataW.weightsEach Tryz.prog ts ds).all (· ≤ reachBytes) = true) (ht : ts[j]? = some 37) (hd : ds[j]? = some d)
    (hv : Value.okWide Tryz.prog W .any base 37 v) (h : DataW.Trod enc Tryz.prog W 0 (fun _ => true) true 37 v d p) :
    ∃ t : VT, RdV W.heap.size W (fun _ => False) t v ∧ VOk t.d ∧ ∀ x ∈ p, x.block < W.heap.size := by
  have hlt : ∀ x ∈ p, x.block < W.heap.size := by obtain ⟨m, hm⟩ := h; exact DataW.trod_lt m _ _ _ hm
  obtain ⟨f0, f1, f2, f3, f4, f5, f6, hs, _⟩ := fields_value
  obtain ⟨cs, rfl, hcs⟩ := okWide_struct hs hv
  obtain ⟨fuel, hf⟩ := h
  obtain ⟨t, h1, h2, _⟩ := open_val fuel _ _ hf (by
    rw [List.all_eq_true] at hsz ⊢
    intro x hx
    exact hsz x (DataW.weights_mem_each ht hd x hx))
  exact ⟨t, h1, h2, hlt⟩
end Go.Proofs.YtoimhjcpeifegaaGreatDoor


/- The error ErrArg out of a row's list. -/
set_option maxRecDepth 100000
namespace Go.Proofs.YtoimhjcpeifegaaGreatDoor
open Go Go.RowKit

theorem gErr : Tryz.prog.globalNamed "crucible/api.ErrArg" = some 0 := by kernel_rfl
theorem gErrType : (Tryz.prog.globals[0]?).map (·.type) = some 67 := by kernel_rfl
theorem err_of_laid {W : World} {rest : List (String × DataW Unit)} (h : laidMet Tryz.prog (("crucible/api.ErrArg", Rows.laid_crucible_api_ErrArg) :: rest) W) : ErrAP W (fun _ => False) := by
  obtain ⟨ps, hl, -⟩ := h
  obtain ⟨g, t, cs, fuel, p, q1, hg, ht, hcs, htr, -, -⟩ := hl
  rw [gErr] at hg
  injection hg with hg
  subst hg
  rw [gErrType] at ht
  injection ht with ht
  subst ht
  have hc := World.var?_cell gErr hcs
  have key : ∃ u v, cs.toList = [.iface u v] := by
    cases fuel with
    | zero => simp [DataW.trod] at htr
    | succ fuel =>
      unfold DataW.trod at htr
      rw [Tryz.underlying67] at htr
      generalize cs.toList = L at *
      match L with
      | [.iface u v] => exact ⟨u, v, rfl⟩
      | [.nilIface] => simp [Rows.laid_crucible_api_ErrArg] at htr
      | [] => simp at htr
      | _ :: _ :: _ => simp at htr
      | [.bool _] => simp at htr
      | [.int _ _] => simp at htr
      | [.string _] => simp at htr
      | [.pointer _] => simp at htr
      | [.slice _ _ _] => simp at htr
      | [.agg _] => simp at htr
      | [.float _ _] => simp at htr
      | [.tuple _] => simp at htr
      | [.nilFunc] => simp at htr
      | [.func _ _ _] => simp at htr
      | [.map _] => simp at htr
      | [.chan _] => simp at htr
      | [.complex _ _ _] => simp at htr
  obtain ⟨u, v, e⟩ := key
  refine ⟨u, v, ?_, fun h => h⟩
  rw [hc, ← Array.getElem?_toList, e]
  rfl
end Go.Proofs.YtoimhjcpeifegaaGreatDoor

