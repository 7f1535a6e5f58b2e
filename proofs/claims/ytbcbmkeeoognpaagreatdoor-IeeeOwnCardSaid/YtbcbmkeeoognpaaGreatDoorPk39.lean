/- Contracts of functions, and plain facts, part 39. -/
import Derived.Test.YtbcbmkeeoognpaaGreatDoorPk31
import Derived.Test.YtbcbmkeeoognpaaGreatDoorPk36
import Derived.Test.YtbcbmkeeoognpaaGreatDoorPk38
set_option linter.unusedVariables false
set_option linter.unusedSimpArgs false
/- LWholeF. (Printed by flowfn.py.) -/
namespace Go.Proofs.YtbcbmkeeoognpaaGreatDoor
open Go Go.RowKit

/-- The number of a pattern of the width that ww tells. -/
def lwN (ww x : Int) : Int := if ww % 4 = 0 then intN 16 (x % 65536) else if ww % 4 = 2 then intN 64 x else intN 32 (x % 4294967296)
set_option maxRecDepth 20000 in
set_option maxHeartbeats 2000000 in
theorem con_lwholeF (ww x : Int) (hw : 0 ≤ ww ∧ ww < 256) (hx : 0 ≤ x ∧ x < 18446744073709551616) : ConEF Tryz.prog 20 [Lit (.int .u8 ww), Lit (.int .u64 x)] (fun lo => Tup [IsFrI lo (IsI (lwN ww x)), VP.top]) := by
  refine f_enterEF (N := 33) Tryz.ntmps20 (fun _ _ => by go_simp) Tryz.func20 rfl (by simp) ?_
  intro lo a0 w0 B0 H0
  replace H0 : St 33 w0 B0 a0 w0 B0 [(0, .val (Lit (.int .u8 ww))), (1, .val (Lit (.int .u64 x))), (33, .val (Sz lo)), (34, .val (EnvV))] [] := H0
  refine wp_seq ?_
  refine flow_region (dsts := [some 4, some 5]) (refs := [[], []]) (outs := [.res 0, .res 1, .pre 0, .pre 1, .pre 2, .pre 3]) (als := [true, false]) (posts := [.box 52 2 (Zero2), .val (IsB false)])
    (out := [(4, .box 52 2 (Zero2)), (5, .val (IsB false)), (0, .val (Lit (.int .u8 ww))), (1, .val (Lit (.int .u64 x))), (33, .val (Sz lo)), (34, .val (EnvV))]) (nb := [4]) H0 2 [] rfl (by kernel_rfl) rfl rfl ?_ ?_
  · refine .cons (.plain rfl (ok_alloc (D := Zero2) zeroI rfl (fun _ _ => rfl))) ?_
    refine .cons (.plain rfl (ok_assign (.lit))) ?_
    exact .nil
  clear H0
  intro a1 w1 B1 H1
  simp only [List.cons_append, List.nil_append] at H1
  refine ops_done ?_
  refine then_normal ?_
  refine wp_seq ?_
  refine wp_seq ?_
  rcases (show ww % 4 = 0 ∨ ww % 4 = 1 ∨ ww % 4 = 2 ∨ ww % 4 = 3 by omega) with c0 | c0 | c0 | c0
  · have e1 : intN 16 (x % 65536) = lwN ww x := by unfold lwN; rw [if_pos c0]
    refine flow_region (dsts := [some 6, some 7]) (refs := [[.pre 2], [.res 0]]) (outs := [.res 1, .pre 0, .pre 1, .pre 3, .pre 4, .pre 5]) (als := [false, false]) (posts := [.val (Lit (.int .u8 ww)), .val (Lit (.int .u8 (ww % 4)))])
      (out := [(7, .val (Lit (.int .u8 (ww % 4)))), (4, .box 52 2 (Zero2)), (5, .val (IsB false)), (1, .val (Lit (.int .u64 x))), (33, .val (Sz lo)), (34, .val (EnvV))]) (nb := []) H1 2 [] rfl (by kernel_rfl) rfl rfl ?_ ?_
    · refine .cons (.plain rfl (ok_move (.tmp 0 rfl))) ?_
      refine .cons (.plain rfl (ok_rem (r := (ww % 4)) (.tmp 0 rfl) (.lit) (by omega) (Int.tmod_eq_emod_of_nonneg (by omega)))) ?_
      exact .nil
    clear H1 a1 w1 B1
    intro a2 w2 B2 H2
    refine ops_done ?_
    refine then_normal ?_
    refine wp_block ?_
    refine wp_seq ?_
    refine flow_region (dsts := [some 9, some 8]) (refs := [[.pre 0], [.res 0]]) (outs := [.res 1, .pre 0, .pre 1, .pre 2, .pre 3, .pre 4, .pre 5]) (als := [false, false]) (posts := [.val (IsB true), .val (IsB true)])
      (out := [(8, .val (IsB true)), (7, .val (Lit (.int .u8 (ww % 4)))), (4, .box 52 2 (Zero2)), (5, .val (IsB false)), (1, .val (Lit (.int .u64 x))), (33, .val (Sz lo)), (34, .val (EnvV))]) (nb := []) H2 2 [] rfl (by kernel_rfl) rfl rfl ?_ ?_
    · refine .cons (.plain rfl (ok_cmp (b := true) (.tmp 0 rfl) (.lit) ((decide_eq_true (c0)).symm))) ?_
      refine .cons (.plain rfl (ok_assign (.tmp 0 rfl))) ?_
      exact .nil
    clear H2 a2 w2 B2
    intro a3 w3 B3 H3
    refine ops_done ?_
    refine then_normal ?_
    refine f_condT H3 (.tmp 0 rfl) ?_
    refine wp_seq ?_
    refine flow_region (dsts := [some 10, some 11, some 12, some 13, some 14]) (refs := [[.pre 4], [.res 0], [.res 1, .pre 5, .pre 6], [.res 2], [.res 2]]) (outs := [.res 3, .res 4, .pre 1, .pre 2, .pre 3, .pre 4, .pre 5, .pre 6]) (als := [false, false, false, false, false]) (posts := [.val (Lit (.int .u64 x)), .val (Lit (.int .u16 (x % 65536))), .val (Tup [IsFrI lo (IsI (intN 16 (x % 65536))), IsB (intOk 16 (x % 65536))]), .val (IsFrI lo (IsI (intN 16 (x % 65536)))), .val (IsB (intOk 16 (x % 65536)))])
      (out := [(13, .val (IsFrI lo (IsI (intN 16 (x % 65536))))), (14, .val (IsB (intOk 16 (x % 65536)))), (7, .val (Lit (.int .u8 (ww % 4)))), (4, .box 52 2 (Zero2)), (5, .val (IsB false)), (1, .val (Lit (.int .u64 x))), (33, .val (Sz lo)), (34, .val (EnvV))]) (nb := []) H3 5 [5, 6] rfl (by kernel_rfl) rfl rfl ?_ ?_
    · refine .cons (.plain rfl (ok_move (.tmp 0 rfl))) ?_
      refine .cons (.plain rfl (ok_conv Tryz.underlying49 Tryz.underlying90 (r := (x % 65536)) (.tmp 0 rfl) (IntKind.wrap_u16 x))) ?_
      refine .cons (.plain rfl (ok_callEF 1 2 (con_iint16F (x % 65536) (by omega)) rfl rfl (.cons (.tmp 0 rfl) (.nil)))) ?_
      refine .cons (.plain rfl (ok_extract 0 (.tmp 0 rfl) rfl)) ?_
      refine .cons (.plain rfl (ok_extract 1 (.tmp 0 rfl) rfl)) ?_
      exact .nil
    clear H3 a3 w3 B3
    intro a4 w4 B4 H4
    refine ops_one ?_
    refine store_op (l' := [(13, .val (IsFrI lo (IsI (intN 16 (x % 65536))))), (14, .val (IsB (intOk 16 (x % 65536)))), (7, .val (Lit (.int .u8 (ww % 4)))), (4, .box 52 2 (IsFrI lo (IsI (intN 16 (x % 65536))))), (5, .val (IsB false)), (1, .val (Lit (.int .u64 x))), (33, .val (Sz lo)), (34, .val (EnvV))]) 3 H4 rfl tyI rfl (.tmp 0 rfl) shape_Z shape_FrI rfl rfl ?_
    clear H4 w4
    intro w5 H5
    refine ops_one ?_
    refine tail_op (D := .val (IsB (intOk 16 (x % 65536)))) (l' := [(5, .val (IsB (intOk 16 (x % 65536)))), (13, .val (IsFrI lo (IsI (intN 16 (x % 65536))))), (14, .val (IsB (intOk 16 (x % 65536)))), (7, .val (Lit (.int .u8 (ww % 4)))), (4, .box 52 2 (IsFrI lo (IsI (intN 16 (x % 65536))))), (1, .val (Lit (.int .u64 x))), (33, .val (Sz lo)), (34, .val (EnvV))]) H5 rfl rfl rfl (.plain rfl (ok_assign (.tmp 1 rfl))) rfl rfl ?_
    clear H5 a4 w5 B4
    intro a6 w6 B6 H6
    refine ops_done ?_
    refine then_normal ?_
    refine wp_ret ?_
    refine block_ret ?_
    refine then_ret ?_
    exact f_retN H6 rfl rfl (.cell 4 tyI rfl (fun v w B h => by exact isFrI_eq e1 h) (.tmp 0 rfl (fun v w B h => by trivial) (.nil)))
  · have e1 : intN 32 (x % 4294967296) = lwN ww x := by unfold lwN; rw [if_neg (by omega), if_neg (by omega)]
    refine flow_region (dsts := [some 6, some 7]) (refs := [[.pre 2], [.res 0]]) (outs := [.res 1, .pre 0, .pre 1, .pre 3, .pre 4, .pre 5]) (als := [false, false]) (posts := [.val (Lit (.int .u8 ww)), .val (Lit (.int .u8 (ww % 4)))])
      (out := [(7, .val (Lit (.int .u8 (ww % 4)))), (4, .box 52 2 (Zero2)), (5, .val (IsB false)), (1, .val (Lit (.int .u64 x))), (33, .val (Sz lo)), (34, .val (EnvV))]) (nb := []) H1 2 [] rfl (by kernel_rfl) rfl rfl ?_ ?_
    · refine .cons (.plain rfl (ok_move (.tmp 0 rfl))) ?_
      refine .cons (.plain rfl (ok_rem (r := (ww % 4)) (.tmp 0 rfl) (.lit) (by omega) (Int.tmod_eq_emod_of_nonneg (by omega)))) ?_
      exact .nil
    clear H1 a1 w1 B1
    intro a7 w7 B7 H7
    refine ops_done ?_
    refine then_normal ?_
    refine wp_block ?_
    refine wp_seq ?_
    refine flow_region (dsts := [some 9, some 8]) (refs := [[.pre 0], [.res 0]]) (outs := [.res 1, .pre 0, .pre 1, .pre 2, .pre 3, .pre 4, .pre 5]) (als := [false, false]) (posts := [.val (IsB false), .val (IsB false)])
      (out := [(8, .val (IsB false)), (7, .val (Lit (.int .u8 (ww % 4)))), (4, .box 52 2 (Zero2)), (5, .val (IsB false)), (1, .val (Lit (.int .u64 x))), (33, .val (Sz lo)), (34, .val (EnvV))]) (nb := []) H7 2 [] rfl (by kernel_rfl) rfl rfl ?_ ?_
    · refine .cons (.plain rfl (ok_cmp (b := false) (.tmp 0 rfl) (.lit) ((decide_eq_false ((by omega))).symm))) ?_
      refine .cons (.plain rfl (ok_assign (.tmp 0 rfl))) ?_
      exact .nil
    clear H7 a7 w7 B7
    intro a8 w8 B8 H8
    refine ops_done ?_
    refine then_normal ?_
    refine f_condF H8 (.tmp 0 rfl) ?_
    refine wp_seq ?_
    refine flow_region (dsts := [some 16, some 15]) (refs := [[.pre 1], [.res 0]]) (outs := [.res 1, .pre 1, .pre 2, .pre 3, .pre 4, .pre 5, .pre 6]) (als := [false, false]) (posts := [.val (IsB false), .val (IsB false)])
      (out := [(15, .val (IsB false)), (7, .val (Lit (.int .u8 (ww % 4)))), (4, .box 52 2 (Zero2)), (5, .val (IsB false)), (1, .val (Lit (.int .u64 x))), (33, .val (Sz lo)), (34, .val (EnvV))]) (nb := []) H8 2 [] rfl (by kernel_rfl) rfl rfl ?_ ?_
    · refine .cons (.plain rfl (ok_cmp (b := false) (.tmp 0 rfl) (.lit) ((decide_eq_false ((by omega))).symm))) ?_
      refine .cons (.plain rfl (ok_assign (.tmp 0 rfl))) ?_
      exact .nil
    clear H8 a8 w8 B8
    intro a9 w9 B9 H9
    refine ops_done ?_
    refine then_normal ?_
    refine f_condF H9 (.tmp 0 rfl) ?_
    refine wp_seq ?_
    refine flow_region (dsts := [some 22, some 21]) (refs := [[.pre 1], [.res 0]]) (outs := [.res 1, .pre 2, .pre 3, .pre 4, .pre 5, .pre 6]) (als := [false, false]) (posts := [.val (IsB false), .val (IsB false)])
      (out := [(21, .val (IsB false)), (4, .box 52 2 (Zero2)), (5, .val (IsB false)), (1, .val (Lit (.int .u64 x))), (33, .val (Sz lo)), (34, .val (EnvV))]) (nb := []) H9 2 [] rfl (by kernel_rfl) rfl rfl ?_ ?_
    · refine .cons (.plain rfl (ok_cmp (b := false) (.tmp 0 rfl) (.lit) ((decide_eq_false ((by omega))).symm))) ?_
      refine .cons (.plain rfl (ok_assign (.tmp 0 rfl))) ?_
      exact .nil
    clear H9 a9 w9 B9
    intro a10 w10 B10 H10
    refine ops_done ?_
    refine then_normal ?_
    refine f_condF H10 (.tmp 0 rfl) ?_
    refine wp_skip ?_
    refine block_normal ?_
    refine then_normal ?_
    refine wp_seq ?_
    refine flow_region (dsts := [some 28, some 29, some 30, some 31, some 32]) (refs := [[.pre 3], [.res 0], [.res 1, .pre 4, .pre 5], [.res 2], [.res 2]]) (outs := [.res 3, .res 4, .pre 1, .pre 2, .pre 4, .pre 5]) (als := [false, false, false, false, false]) (posts := [.val (Lit (.int .u64 x)), .val (Lit (.int .u32 (x % 4294967296))), .val (Tup [IsFrI lo (IsI (intN 32 (x % 4294967296))), IsB (intOk 32 (x % 4294967296))]), .val (IsFrI lo (IsI (intN 32 (x % 4294967296)))), .val (IsB (intOk 32 (x % 4294967296)))])
      (out := [(31, .val (IsFrI lo (IsI (intN 32 (x % 4294967296))))), (32, .val (IsB (intOk 32 (x % 4294967296)))), (4, .box 52 2 (Zero2)), (5, .val (IsB false)), (33, .val (Sz lo)), (34, .val (EnvV))]) (nb := []) H10 5 [5, 6] rfl (by kernel_rfl) rfl rfl ?_ ?_
    · refine .cons (.plain rfl (ok_move (.tmp 0 rfl))) ?_
      refine .cons (.plain rfl (ok_conv Tryz.underlying49 Tryz.underlying44 (r := (x % 4294967296)) (.tmp 0 rfl) (IntKind.wrap_u32 x))) ?_
      refine .cons (.plain rfl (ok_callEF 1 2 (con_iint32F (x % 4294967296) (by omega)) rfl rfl (.cons (.tmp 0 rfl) (.nil)))) ?_
      refine .cons (.plain rfl (ok_extract 0 (.tmp 0 rfl) rfl)) ?_
      refine .cons (.plain rfl (ok_extract 1 (.tmp 0 rfl) rfl)) ?_
      exact .nil
    clear H10 a10 w10 B10
    intro a11 w11 B11 H11
    refine ops_one ?_
    refine store_op (l' := [(31, .val (IsFrI lo (IsI (intN 32 (x % 4294967296))))), (32, .val (IsB (intOk 32 (x % 4294967296)))), (4, .box 52 2 (IsFrI lo (IsI (intN 32 (x % 4294967296))))), (5, .val (IsB false)), (33, .val (Sz lo)), (34, .val (EnvV))]) 2 H11 rfl tyI rfl (.tmp 0 rfl) shape_Z shape_FrI rfl rfl ?_
    clear H11 w11
    intro w12 H12
    refine ops_one ?_
    refine tail_op (D := .val (IsB (intOk 32 (x % 4294967296)))) (l' := [(5, .val (IsB (intOk 32 (x % 4294967296)))), (31, .val (IsFrI lo (IsI (intN 32 (x % 4294967296))))), (32, .val (IsB (intOk 32 (x % 4294967296)))), (4, .box 52 2 (IsFrI lo (IsI (intN 32 (x % 4294967296))))), (33, .val (Sz lo)), (34, .val (EnvV))]) H12 rfl rfl rfl (.plain rfl (ok_assign (.tmp 1 rfl))) rfl rfl ?_
    clear H12 a11 w12 B11
    intro a13 w13 B13 H13
    refine ops_done ?_
    refine then_normal ?_
    refine wp_ret ?_
    exact f_retN H13 rfl rfl (.cell 3 tyI rfl (fun v w B h => by exact isFrI_eq e1 h) (.tmp 0 rfl (fun v w B h => by trivial) (.nil)))
  · have e1 : intN 64 x = lwN ww x := by unfold lwN; rw [if_neg (by omega), if_pos c0]
    refine flow_region (dsts := [some 6, some 7]) (refs := [[.pre 2], [.res 0]]) (outs := [.res 1, .pre 0, .pre 1, .pre 3, .pre 4, .pre 5]) (als := [false, false]) (posts := [.val (Lit (.int .u8 ww)), .val (Lit (.int .u8 (ww % 4)))])
      (out := [(7, .val (Lit (.int .u8 (ww % 4)))), (4, .box 52 2 (Zero2)), (5, .val (IsB false)), (1, .val (Lit (.int .u64 x))), (33, .val (Sz lo)), (34, .val (EnvV))]) (nb := []) H1 2 [] rfl (by kernel_rfl) rfl rfl ?_ ?_
    · refine .cons (.plain rfl (ok_move (.tmp 0 rfl))) ?_
      refine .cons (.plain rfl (ok_rem (r := (ww % 4)) (.tmp 0 rfl) (.lit) (by omega) (Int.tmod_eq_emod_of_nonneg (by omega)))) ?_
      exact .nil
    clear H1 a1 w1 B1
    intro a14 w14 B14 H14
    refine ops_done ?_
    refine then_normal ?_
    refine wp_block ?_
    refine wp_seq ?_
    refine flow_region (dsts := [some 9, some 8]) (refs := [[.pre 0], [.res 0]]) (outs := [.res 1, .pre 0, .pre 1, .pre 2, .pre 3, .pre 4, .pre 5]) (als := [false, false]) (posts := [.val (IsB false), .val (IsB false)])
      (out := [(8, .val (IsB false)), (7, .val (Lit (.int .u8 (ww % 4)))), (4, .box 52 2 (Zero2)), (5, .val (IsB false)), (1, .val (Lit (.int .u64 x))), (33, .val (Sz lo)), (34, .val (EnvV))]) (nb := []) H14 2 [] rfl (by kernel_rfl) rfl rfl ?_ ?_
    · refine .cons (.plain rfl (ok_cmp (b := false) (.tmp 0 rfl) (.lit) ((decide_eq_false ((by omega))).symm))) ?_
      refine .cons (.plain rfl (ok_assign (.tmp 0 rfl))) ?_
      exact .nil
    clear H14 a14 w14 B14
    intro a15 w15 B15 H15
    refine ops_done ?_
    refine then_normal ?_
    refine f_condF H15 (.tmp 0 rfl) ?_
    refine wp_seq ?_
    refine flow_region (dsts := [some 16, some 15]) (refs := [[.pre 1], [.res 0]]) (outs := [.res 1, .pre 1, .pre 2, .pre 3, .pre 4, .pre 5, .pre 6]) (als := [false, false]) (posts := [.val (IsB true), .val (IsB true)])
      (out := [(15, .val (IsB true)), (7, .val (Lit (.int .u8 (ww % 4)))), (4, .box 52 2 (Zero2)), (5, .val (IsB false)), (1, .val (Lit (.int .u64 x))), (33, .val (Sz lo)), (34, .val (EnvV))]) (nb := []) H15 2 [] rfl (by kernel_rfl) rfl rfl ?_ ?_
    · refine .cons (.plain rfl (ok_cmp (b := true) (.tmp 0 rfl) (.lit) ((decide_eq_true (c0)).symm))) ?_
      refine .cons (.plain rfl (ok_assign (.tmp 0 rfl))) ?_
      exact .nil
    clear H15 a15 w15 B15
    intro a16 w16 B16 H16
    refine ops_done ?_
    refine then_normal ?_
    refine f_condT H16 (.tmp 0 rfl) ?_
    refine wp_seq ?_
    refine flow_region (dsts := [some 17, some 18, some 19, some 20]) (refs := [[.pre 4], [.res 0, .pre 5, .pre 6], [.res 1], [.res 1]]) (outs := [.res 2, .res 3, .pre 1, .pre 2, .pre 3, .pre 4, .pre 5, .pre 6]) (als := [false, false, false, false]) (posts := [.val (Lit (.int .u64 x)), .val (Tup [IsFrI lo (IsI (intN 64 x)), IsB (intOk 64 x)]), .val (IsFrI lo (IsI (intN 64 x))), .val (IsB (intOk 64 x))])
      (out := [(19, .val (IsFrI lo (IsI (intN 64 x)))), (20, .val (IsB (intOk 64 x))), (7, .val (Lit (.int .u8 (ww % 4)))), (4, .box 52 2 (Zero2)), (5, .val (IsB false)), (1, .val (Lit (.int .u64 x))), (33, .val (Sz lo)), (34, .val (EnvV))]) (nb := []) H16 4 [4, 5] rfl (by kernel_rfl) rfl rfl ?_ ?_
    · refine .cons (.plain rfl (ok_move (.tmp 0 rfl))) ?_
      refine .cons (.plain rfl (ok_callEF 1 2 (con_iint64F x (by omega)) rfl rfl (.cons (.tmp 0 rfl) (.nil)))) ?_
      refine .cons (.plain rfl (ok_extract 0 (.tmp 0 rfl) rfl)) ?_
      refine .cons (.plain rfl (ok_extract 1 (.tmp 0 rfl) rfl)) ?_
      exact .nil
    clear H16 a16 w16 B16
    intro a17 w17 B17 H17
    refine ops_one ?_
    refine store_op (l' := [(19, .val (IsFrI lo (IsI (intN 64 x)))), (20, .val (IsB (intOk 64 x))), (7, .val (Lit (.int .u8 (ww % 4)))), (4, .box 52 2 (IsFrI lo (IsI (intN 64 x)))), (5, .val (IsB false)), (1, .val (Lit (.int .u64 x))), (33, .val (Sz lo)), (34, .val (EnvV))]) 3 H17 rfl tyI rfl (.tmp 0 rfl) shape_Z shape_FrI rfl rfl ?_
    clear H17 w17
    intro w18 H18
    refine ops_one ?_
    refine tail_op (D := .val (IsB (intOk 64 x))) (l' := [(5, .val (IsB (intOk 64 x))), (19, .val (IsFrI lo (IsI (intN 64 x)))), (20, .val (IsB (intOk 64 x))), (7, .val (Lit (.int .u8 (ww % 4)))), (4, .box 52 2 (IsFrI lo (IsI (intN 64 x)))), (1, .val (Lit (.int .u64 x))), (33, .val (Sz lo)), (34, .val (EnvV))]) H18 rfl rfl rfl (.plain rfl (ok_assign (.tmp 1 rfl))) rfl rfl ?_
    clear H18 a17 w18 B17
    intro a19 w19 B19 H19
    refine ops_done ?_
    refine then_normal ?_
    refine wp_ret ?_
    refine block_ret ?_
    refine then_ret ?_
    exact f_retN H19 rfl rfl (.cell 4 tyI rfl (fun v w B h => by exact isFrI_eq e1 h) (.tmp 0 rfl (fun v w B h => by trivial) (.nil)))
  · have e1 : intN 32 (x % 4294967296) = lwN ww x := by unfold lwN; rw [if_neg (by omega), if_neg (by omega)]
    refine flow_region (dsts := [some 6, some 7]) (refs := [[.pre 2], [.res 0]]) (outs := [.res 1, .pre 0, .pre 1, .pre 3, .pre 4, .pre 5]) (als := [false, false]) (posts := [.val (Lit (.int .u8 ww)), .val (Lit (.int .u8 (ww % 4)))])
      (out := [(7, .val (Lit (.int .u8 (ww % 4)))), (4, .box 52 2 (Zero2)), (5, .val (IsB false)), (1, .val (Lit (.int .u64 x))), (33, .val (Sz lo)), (34, .val (EnvV))]) (nb := []) H1 2 [] rfl (by kernel_rfl) rfl rfl ?_ ?_
    · refine .cons (.plain rfl (ok_move (.tmp 0 rfl))) ?_
      refine .cons (.plain rfl (ok_rem (r := (ww % 4)) (.tmp 0 rfl) (.lit) (by omega) (Int.tmod_eq_emod_of_nonneg (by omega)))) ?_
      exact .nil
    clear H1 a1 w1 B1
    intro a20 w20 B20 H20
    refine ops_done ?_
    refine then_normal ?_
    refine wp_block ?_
    refine wp_seq ?_
    refine flow_region (dsts := [some 9, some 8]) (refs := [[.pre 0], [.res 0]]) (outs := [.res 1, .pre 0, .pre 1, .pre 2, .pre 3, .pre 4, .pre 5]) (als := [false, false]) (posts := [.val (IsB false), .val (IsB false)])
      (out := [(8, .val (IsB false)), (7, .val (Lit (.int .u8 (ww % 4)))), (4, .box 52 2 (Zero2)), (5, .val (IsB false)), (1, .val (Lit (.int .u64 x))), (33, .val (Sz lo)), (34, .val (EnvV))]) (nb := []) H20 2 [] rfl (by kernel_rfl) rfl rfl ?_ ?_
    · refine .cons (.plain rfl (ok_cmp (b := false) (.tmp 0 rfl) (.lit) ((decide_eq_false ((by omega))).symm))) ?_
      refine .cons (.plain rfl (ok_assign (.tmp 0 rfl))) ?_
      exact .nil
    clear H20 a20 w20 B20
    intro a21 w21 B21 H21
    refine ops_done ?_
    refine then_normal ?_
    refine f_condF H21 (.tmp 0 rfl) ?_
    refine wp_seq ?_
    refine flow_region (dsts := [some 16, some 15]) (refs := [[.pre 1], [.res 0]]) (outs := [.res 1, .pre 1, .pre 2, .pre 3, .pre 4, .pre 5, .pre 6]) (als := [false, false]) (posts := [.val (IsB false), .val (IsB false)])
      (out := [(15, .val (IsB false)), (7, .val (Lit (.int .u8 (ww % 4)))), (4, .box 52 2 (Zero2)), (5, .val (IsB false)), (1, .val (Lit (.int .u64 x))), (33, .val (Sz lo)), (34, .val (EnvV))]) (nb := []) H21 2 [] rfl (by kernel_rfl) rfl rfl ?_ ?_
    · refine .cons (.plain rfl (ok_cmp (b := false) (.tmp 0 rfl) (.lit) ((decide_eq_false ((by omega))).symm))) ?_
      refine .cons (.plain rfl (ok_assign (.tmp 0 rfl))) ?_
      exact .nil
    clear H21 a21 w21 B21
    intro a22 w22 B22 H22
    refine ops_done ?_
    refine then_normal ?_
    refine f_condF H22 (.tmp 0 rfl) ?_
    refine wp_seq ?_
    refine flow_region (dsts := [some 22, some 21]) (refs := [[.pre 1], [.res 0]]) (outs := [.res 1, .pre 2, .pre 3, .pre 4, .pre 5, .pre 6]) (als := [false, false]) (posts := [.val (IsB true), .val (IsB true)])
      (out := [(21, .val (IsB true)), (4, .box 52 2 (Zero2)), (5, .val (IsB false)), (1, .val (Lit (.int .u64 x))), (33, .val (Sz lo)), (34, .val (EnvV))]) (nb := []) H22 2 [] rfl (by kernel_rfl) rfl rfl ?_ ?_
    · refine .cons (.plain rfl (ok_cmp (b := true) (.tmp 0 rfl) (.lit) ((decide_eq_true (c0)).symm))) ?_
      refine .cons (.plain rfl (ok_assign (.tmp 0 rfl))) ?_
      exact .nil
    clear H22 a22 w22 B22
    intro a23 w23 B23 H23
    refine ops_done ?_
    refine then_normal ?_
    refine f_condT H23 (.tmp 0 rfl) ?_
    refine wp_seq ?_
    refine flow_region (dsts := [some 23, some 24, some 25, some 26, some 27]) (refs := [[.pre 3], [.res 0], [.res 1, .pre 4, .pre 5], [.res 2], [.res 2]]) (outs := [.res 3, .res 4, .pre 1, .pre 2, .pre 3, .pre 4, .pre 5]) (als := [false, false, false, false, false]) (posts := [.val (Lit (.int .u64 x)), .val (Lit (.int .u32 (x % 4294967296))), .val (Tup [IsFrI lo (IsI (intN 32 (x % 4294967296))), IsB (intOk 32 (x % 4294967296))]), .val (IsFrI lo (IsI (intN 32 (x % 4294967296)))), .val (IsB (intOk 32 (x % 4294967296)))])
      (out := [(26, .val (IsFrI lo (IsI (intN 32 (x % 4294967296))))), (27, .val (IsB (intOk 32 (x % 4294967296)))), (4, .box 52 2 (Zero2)), (5, .val (IsB false)), (1, .val (Lit (.int .u64 x))), (33, .val (Sz lo)), (34, .val (EnvV))]) (nb := []) H23 5 [5, 6] rfl (by kernel_rfl) rfl rfl ?_ ?_
    · refine .cons (.plain rfl (ok_move (.tmp 0 rfl))) ?_
      refine .cons (.plain rfl (ok_conv Tryz.underlying49 Tryz.underlying111 (r := (x % 4294967296)) (.tmp 0 rfl) (IntKind.wrap_u32 x))) ?_
      refine .cons (.plain rfl (ok_callEF 1 2 (con_iintOwnF (x % 4294967296) (by omega)) rfl rfl (.cons (.tmp 0 rfl) (.nil)))) ?_
      refine .cons (.plain rfl (ok_extract 0 (.tmp 0 rfl) rfl)) ?_
      refine .cons (.plain rfl (ok_extract 1 (.tmp 0 rfl) rfl)) ?_
      exact .nil
    clear H23 a23 w23 B23
    intro a24 w24 B24 H24
    refine ops_one ?_
    refine store_op (l' := [(26, .val (IsFrI lo (IsI (intN 32 (x % 4294967296))))), (27, .val (IsB (intOk 32 (x % 4294967296)))), (4, .box 52 2 (IsFrI lo (IsI (intN 32 (x % 4294967296))))), (5, .val (IsB false)), (1, .val (Lit (.int .u64 x))), (33, .val (Sz lo)), (34, .val (EnvV))]) 2 H24 rfl tyI rfl (.tmp 0 rfl) shape_Z shape_FrI rfl rfl ?_
    clear H24 w24
    intro w25 H25
    refine ops_one ?_
    refine tail_op (D := .val (IsB (intOk 32 (x % 4294967296)))) (l' := [(5, .val (IsB (intOk 32 (x % 4294967296)))), (26, .val (IsFrI lo (IsI (intN 32 (x % 4294967296))))), (27, .val (IsB (intOk 32 (x % 4294967296)))), (4, .box 52 2 (IsFrI lo (IsI (intN 32 (x % 4294967296))))), (1, .val (Lit (.int .u64 x))), (33, .val (Sz lo)), (34, .val (EnvV))]) H25 rfl rfl rfl (.plain rfl (ok_assign (.tmp 1 rfl))) rfl rfl ?_
    clear H25 a24 w25 B24
    intro a26 w26 B26 H26
    refine ops_done ?_
    refine then_normal ?_
    refine wp_ret ?_
    refine block_ret ?_
    refine then_ret ?_
    exact f_retN H26 rfl rfl (.cell 3 tyI rfl (fun v w B h => by exact isFrI_eq e1 h) (.tmp 0 rfl (fun v w B h => by trivial) (.nil)))
end Go.Proofs.YtbcbmkeeoognpaaGreatDoor


/- Laws that keep a Book and read the laid variables. -/
set_option maxRecDepth 50000
namespace Go.Proofs.YtbcbmkeeoognpaaGreatDoor
open Go Go.RowKit

/-- The laid variables lie before a mark. -/
def EnvL (lo : Nat) : VP := ⟨fun _ w B => EnvP w B ∧ 2 < lo ∧ 3 < lo, fun _ _ _ _ _ h e => ⟨e.1.mv h, e.2⟩⟩
theorem cells_of {w w' : World} {g j : Nat} {v : Value} (h : w'.heap[g]? = w.heap[g]?) (hc : w.cell? ⟨g, j, none⟩ = some v) : w'.cell? ⟨g, j, none⟩ = some v := by
  rw [← hc]; exact World.cell?_of_block h
theorem EnvP.kept {w w' : World} {B : Bx} (h1 : w'.heap[2]? = w.heap[2]?) (h2 : w'.heap[3]? = w.heap[3]?) (e : EnvP w B) : EnvP w' B := by
  obtain ⟨⟨c0, c1, c2, c3, c4, c5, c6, c7, c8⟩, ht, hn⟩ := e
  exact ⟨⟨cells_of h1 c0, cells_of h1 c1, cells_of h1 c2, cells_of h1 c3, cells_of h1 c4, cells_of h1 c5, cells_of h1 c6, cells_of h1 c7, cells_of h1 c8⟩, fun j hj => cells_of h2 (ht j hj), hn⟩
theorem keptB_envL {Bs lo : Nat} (hl : lo ≤ Bs) : KeptB Bs (.val (EnvL lo)) := fun v w w' B b hbs hb k ⟨h1, h2, h3⟩ => by
  have l1 := World.block_lt_of_cell? w _ h1.sh.1
  have l2 := World.block_lt_of_cell? w _ (h1.tab 0 (by omega))
  refine ⟨h1.kept ?_ ?_, h2, h3⟩
  · exact (k.rest _ l1 (by show (2 : Nat) ≠ b; omega)).resolve_right (by rintro ⟨e, _⟩; exact absurd (show Bs ≤ 2 from e) (by omega))
  · exact (k.rest _ l2 (by show (3 : Nat) ≠ b; omega)).resolve_right (by rintro ⟨e, _⟩; exact absurd (show Bs ≤ 3 from e) (by omega))
theorem keptZ_envL {Bs lo : Nat} (hl : lo ≤ Bs) : KeptZ Bs (.val (EnvL lo)) := fun v w w' B hs hb ⟨h1, h2, h3⟩ => ⟨h1.kept (hb _ (by omega)) (hb _ (by omega)), h2, h3⟩
theorem keptV_envL {Bs lo : Nat} (hl : lo ≤ Bs) : KeptV2 Bs (.val (EnvL lo)) := fun v w w' B b hb hB _ o ⟨h1, h2, h3⟩ => ⟨h1.kept (o.rest _ (by omega)) (o.rest _ (by omega)), h2, h3⟩
section
variable {P : Program} {need : List (Tmp × FD)} {d : Option Tmp} {ty : TypeId} {pos : String} {af : Array Edge} {g : Option (Nat × Bool)} {x0 x1 x2 x3 x4 : Operand}
theorem ok_callEFL {f : FuncId} {args : List Operand} {ts : Array TypeId} {Ds : List VP} {R : Nat → VP} {lo q : Nat} {z y : Tmp} (kz ke : Nat) (C : ConEF P f Ds R) (hz : need[kz]? = some (z, .val (Sz lo))) (he : need[ke]? = some (y, .val (EnvL q))) (h : Opds need args Ds) : OpOk P ⟨d, .call { callee := .value (.func f), args := args.toArray, argTypes := ts }, ty, pos, af, g⟩ need (.val (R lo)) false := by
  intro Q K a w B hB hF hK
  have hr : (execOp a.eval ⟨d, .call { callee := .value (.func f), args := args.toArray, argTypes := ts }, ty, pos, af, g⟩).run P w = .ok (.enter f (args.map a.eval).toArray) w := by
    simp [execOp, resolve, Act.eval, Deferred.ofValue, invoke, Sem.run_bind, C.enters]
  unfold Oper.wp
  rw [hr]
  have hE : EnvP w B ∧ _ := hF.get ke he
  refine (C.calls lo (args.map a.eval) w B (hF.get kz hz) hB hE.1 (h.all hF)).mono ?_
  rintro e w' ⟨v, rfl, h1, h2⟩
  have hbl := Bl.of_below B h2
  exact hK v w' B h1 hbl h2 (fun k hk => Nat.lt_of_lt_of_le (hB k hk) h2.size) (by simp)
theorem ConE.ef {f : FuncId} {Ds : List VP} {R : VP} (h : ConE P f Ds R) : ConEF P f Ds (fun _ => R) := ⟨h.enters, fun lo vs w B _ hB hE hV => h.calls vs w B hB hE hV⟩
theorem ok_build5 {t : TypeId} {u0 u1 u2 u3 u4 : Value} (hr : ∀ w, (Instr.build t #[(0, u0), (1, u1), (2, u2), (3, u3), (4, u4)]).run P w = .ok (.agg #[u0, u1, u2, u3, u4]) w) (h0 : Opd need x0 (.val (Lit u0))) (h1 : Opd need x1 (.val (Lit u1))) (h2 : Opd need x2 (.val (Lit u2))) (h3 : Opd need x3 (.val (Lit u3))) (h4 : Opd need x4 (.val (Lit u4))) :
    OpOk P ⟨d, .build t #[(0, x0), (1, x1), (2, x2), (3, x3), (4, x4)], ty, pos, af, g⟩ need (.val (AL [u0, u1, u2, u3, u4])) false :=
  OpOk.value fun a w B hF => by
    have e0 : a.eval x0 = u0 := h0 a w B hF
    have e1 : a.eval x1 = u1 := h1 a w B hF
    have e2 : a.eval x2 = u2 := h2 a w B hF
    have e3 : a.eval x3 = u3 := h3 a w B hF
    have e4 : a.eval x4 = u4 := h4 a w B hF
    refine ⟨_, ?_, rfl⟩
    have := hr w
    simp [execOp, e0, e1, e2, e3, e4, this]
end
theorem St.fewer {N : Nat} {w0 : World} {B0 : Bx} {a : Act} {w : World} {B : Bx} {l : List (Tmp × FD)} {bxs : List Tmp} (H : St N w0 B0 a w B l bxs) (is : List Nat) {l' : List (Tmp × FD)} {bxs' : List Tmp} (hl : is.map (fun i => l[i]?) = l'.map some) (hb : (bxs'.all fun s => bxs.contains s) = true) : St N w0 B0 a w B l' bxs' := by
  have hs : ∀ s, s ∈ bxs' → s ∈ bxs := fun s h => List.contains_iff_mem.1 (List.all_eq_true.1 hb s h)
  refine ⟨H.df, H.sz, Fct.of_all fun x hx => ?_, fun s h => H.bx s (hs s h), fun s h t ht => H.ap s (hs s h) t (hs t ht), H.bel, H.own, H.own0⟩
  have h2 : some x ∈ is.map (fun i => l[i]?) := by rw [hl]; exact List.mem_map.2 ⟨x, hx, rfl⟩
  obtain ⟨i, _, hi⟩ := List.mem_map.1 h2
  exact H.fc.all x (List.mem_of_getElem? hi)
theorem f_enterEL {P : Program} {f : FuncId} {fn : Func} {c : Code} {Ds : List VP} {R : VP} {N : Nat} (hN : fn.ntmps = N) (he : ∀ (vs : Array Value) (w : World), (callFunc f vs).run P w = .ok (.enter f vs) w) (hf : P.funcs[f]? = some fn) (hb : fn.body = some c) (hn : Ds.length ≤ N)
    (h : ∀ (a : Act) (w : World) (B : Bx), St N w B a w B (Ds.zipIdx.map (fun x => (x.2, .val x.1)) ++ [(N, .val (Sz w.heap.size)), (N + 1, .val (EnvL w.heap.size))]) [] → c.wp P (bodyPost P fn fun e w' => ∃ v, e = .returned v ∧ R.p v w' B ∧ Below w.heap.size w w') a w) : ConE P f Ds R := by
  refine ⟨he, fun vs w B hB hE hV => calls_of_wp hf hb (h _ w B ⟨rfl, ?_, Fct.of_all fun x hx => ?_, by simp, by simp, Below.refl _ _, hB, fun _ h => h⟩)⟩
  · have hl : vs.length = Ds.length := by
      clear hn h hB hE
      induction vs generalizing Ds with
      | nil => cases Ds with
        | nil => rfl
        | cons D Ds => exact hV.elim
      | cons v vs ih => cases Ds with
        | nil => exact hV.elim
        | cons D Ds => simp [ih hV.2]
    simp [hN]; omega
  · rcases List.mem_append.1 hx with hx | hx
    · obtain ⟨y, hy, rfl⟩ := List.mem_map.1 hx
      have h1 := List.mem_zipIdx_iff_getElem?.1 hy
      obtain ⟨v, h2, h3⟩ := hV.get y.2 y.1 h1
      have hlt : y.2 < vs.length := (List.getElem?_eq_some_iff.1 h2).1
      have e : (vs.toArray ++ Array.replicate (fn.ntmps - vs.toArray.size) undef).getD y.2 undef = v := by
        rw [Array.getD_eq_getD_getElem?, Array.getElem?_append_left (by simpa using hlt)]
        simp [h2]
      show y.1.p _ w B
      rw [e]
      exact h3
    · simp only [List.mem_cons, List.not_mem_nil, or_false] at hx
      rcases hx with rfl | rfl
      · exact Nat.le_refl _
      · exact ⟨hE, World.block_lt_of_cell? w _ hE.sh.1, World.block_lt_of_cell? w _ (hE.tab 0 (by omega))⟩
theorem con_llives4 : ConE Tryz.prog 19 [] (IsB true) := by
  refine ⟨fun _ _ => by go_simp, fun vs w B hB hE hV => ?_⟩
  match vs, hV with
  | [], _ => exact (llives_calls w hE.sh hE.tab).mono fun e w' ⟨e1, hb⟩ => ⟨_, e1, rfl, hb⟩
theorem aggU64L (w : World) : (isAgg 49).run Tryz.prog w = .ok false w := by go_simp
theorem tyA5q : TyOk Tryz.prog 50 5 := ⟨⟨_, Tryz.underlying50, rfl⟩, by kernel_rfl⟩
theorem zeroA5q : (Tryz.prog.info? 50).map (·.zero) = some (some (.agg ([.int .u64 0, .int .u64 0, .int .u64 0, .int .u64 0, .int .u64 0] : List Value).toArray)) := by kernel_rfl
theorem runA5q (p q r s t : Int) (w : World) : (Instr.build 50 #[(0, .int .u64 p), (1, .int .u64 q), (2, .int .u64 r), (3, .int .u64 s), (4, .int .u64 t)]).run Tryz.prog w = .ok (.agg #[.int .u64 p, .int .u64 q, .int .u64 r, .int .u64 s, .int .u64 t]) w := by go_simp
theorem idxA5q_0 (b : Nat) (w : World) : (Instr.indexAt 50 (.pointer (some ⟨b, 0, none⟩)) (.int .i64 0)).run Tryz.prog w = .ok (.pointer (some ⟨b, 0, none⟩)) w := by go_simp
theorem idxA5q_1 (b : Nat) (w : World) : (Instr.indexAt 50 (.pointer (some ⟨b, 0, none⟩)) (.int .i64 1)).run Tryz.prog w = .ok (.pointer (some ⟨b, 1, none⟩)) w := by go_simp
theorem idxA5q_2 (b : Nat) (w : World) : (Instr.indexAt 50 (.pointer (some ⟨b, 0, none⟩)) (.int .i64 2)).run Tryz.prog w = .ok (.pointer (some ⟨b, 2, none⟩)) w := by go_simp
theorem idxA5q_3 (b : Nat) (w : World) : (Instr.indexAt 50 (.pointer (some ⟨b, 0, none⟩)) (.int .i64 3)).run Tryz.prog w = .ok (.pointer (some ⟨b, 3, none⟩)) w := by go_simp
theorem idxA5q_4 (b : Nat) (w : World) : (Instr.indexAt 50 (.pointer (some ⟨b, 0, none⟩)) (.int .i64 4)).run Tryz.prog w = .ok (.pointer (some ⟨b, 4, none⟩)) w := by go_simp
end Go.Proofs.YtbcbmkeeoognpaaGreatDoor

