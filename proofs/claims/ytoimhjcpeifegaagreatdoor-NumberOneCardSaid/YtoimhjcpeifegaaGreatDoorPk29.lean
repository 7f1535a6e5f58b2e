/- Contracts of functions, and plain facts, part 29. -/
import Derived.Test.YtoimhjcpeifegaaGreatDoorPk9
import Derived.Test.YtoimhjcpeifegaaGreatDoorPk24
import Derived.Test.YtoimhjcpeifegaaGreatDoorPk25
import Derived.Test.YtoimhjcpeifegaaGreatDoorPk26
import Derived.Test.YtoimhjcpeifegaaGreatDoorPk27
import Derived.Test.YtoimhjcpeifegaaGreatDoorPk28
set_option linter.unusedVariables false
set_option linter.unusedSimpArgs false
/- VCmpD. (Printed by flow15.py.) -/
namespace Go.Proofs.YtoimhjcpeifegaaGreatDoor
open Go Go.RowKit

set_option maxRecDepth 20000 in
set_option maxHeartbeats 8000000 in
theorem con_ncmpD (z1 z2 : NV) (hz1 : okNV z1) (hz2 : okNV z2) (v1 : Int) (q1 : whatV z1 = .nothing v1) : ConE Tryz.prog 34 [IsNum z1, IsNum z2] (Tup [Lit (.int .i64 (cmpO (whatV z1) (whatV z2)).1), IsB (cmpO (whatV z1) (whatV z2)).2]) := by
  refine f_enterE (N := 117) Tryz.ntmps34 (fun _ _ => by go_simp) Tryz.func34 rfl (by simp) ?_
  intro a0 w0 B0 H0
  replace H0 : St 117 w0 B0 a0 w0 B0 [(0, .val (IsNum z1)), (1, .val (IsNum z2)), (117, .val (EnvV))] [] := H0
  refine wp_seq ?_
  refine flow_region (dsts := [some 2, some 3, some 4, some 5]) (refs := [[.pre 0], [.pre 1], [], []]) (outs := [.res 0, .res 1, .res 2, .res 3, .pre 2]) (als := [true, true, false, false]) (posts := [.box 37 8 (IsNum z1), .box 37 8 (IsNum z2), .val (Lit (.int .i64 0)), .val (IsB false)])
    (out := [(2, .box 37 8 (IsNum z1)), (3, .box 37 8 (IsNum z2)), (4, .val (Lit (.int .i64 0))), (5, .val (IsB false)), (117, .val (EnvV))]) (nb := [2, 3]) H0 4 [] rfl (by kernel_rfl) rfl rfl ?_ ?_
  · refine .cons (.plain rfl (ok_box (.tmp 0 rfl) shape_Num.two)) ?_
    refine .cons (.plain rfl (ok_box (.tmp 0 rfl) shape_Num.two)) ?_
    refine .cons (.plain rfl (ok_assign (.lit))) ?_
    refine .cons (.plain rfl (ok_assign (.lit))) ?_
    exact .nil
  clear H0
  intro a1 w1 B1 H1
  simp only [List.cons_append, List.nil_append] at H1
  refine ops_done ?_
  refine then_normal ?_
  refine wp_seq ?_
  refine flow_drawT (dsts := [some 17, some 18, some 19, some 20, some 6, some 7]) (refs := [[.pre 0], [.res 0, .pre 4], [.pre 1], [.res 2, .pre 4], [.res 1], [.res 3]]) (outs := [.res 4, .res 5, .pre 2, .pre 3, .pre 4]) (als := [false, false, false, false, false, false]) (posts := [.val (IsNum z1), .val (IsOne (whatV z1)), .val (IsNum z2), .val (IsOne (whatV z2)), .val (IsOne (whatV z1)), .val (IsOne (whatV z2))])
    (out := [(6, .val (IsOne (whatV z1))), (7, .val (IsOne (whatV z2))), (4, .val (Lit (.int .i64 0))), (5, .val (IsB false)), (117, .val (EnvV))]) (nb := []) H1 (by kernel_rfl) 6 0 #[true, true, true, true, true, true] (by kernel_rfl) (by kernel_rfl) rfl rfl ?_ ?_
  · refine .cons (.plain rfl (ok_load tyV (.tmp 0 rfl))) ?_
    refine .cons (.plain rfl (ok_callE (con_what (z1) hz1) 1 rfl (.cons (.tmp 0 rfl) (.nil)))) ?_
    refine .cons (.plain rfl (ok_load tyV (.tmp 0 rfl))) ?_
    refine .cons (.plain rfl (ok_callE (con_what (z2) hz2) 1 rfl (.cons (.tmp 0 rfl) (.nil)))) ?_
    refine .cons (.plain rfl (ok_assign (.tmp 0 rfl))) ?_
    refine .cons (.plain rfl (ok_assign (.tmp 0 rfl))) ?_
    exact .nil
  clear H1 a1 w1 B1
  intro a2 w2 B2 H2
  refine any_done (by kernel_rfl) ?_
  refine then_normal ?_
  refine wp_seq ?_
  refine wp_seq ?_
  refine flow_region (dsts := [some 21, some 22, some 23, some 24, some 25, some 26]) (refs := [[.pre 0], [.res 0], [.res 1], [.res 2, .pre 1], [.res 2, .res 3], [.res 2, .res 4]]) (outs := [.res 5, .pre 0, .pre 1, .pre 2, .pre 3, .pre 4]) (als := [false, false, false, false, false, false]) (posts := [.val (IsOne (whatV z1)), .val (IsB false), .val (IsB false), .val (IsOne (whatV z2)), .val (IsB false), .val (IsB false)])
    (out := [(26, .val (IsB false)), (6, .val (IsOne (whatV z1))), (7, .val (IsOne (whatV z2))), (4, .val (Lit (.int .i64 0))), (5, .val (IsB false)), (117, .val (EnvV))]) (nb := []) H2 6 [] rfl (by kernel_rfl) rfl rfl ?_ ?_
  · refine .cons (.plain rfl (ok_move (.tmp 0 rfl))) ?_
    refine .cons (.plain rfl (ok_eqNil (.tmp 0 rfl) ((whatV_some _).symm))) ?_
    refine .cons (.plain rfl (ok_move (.tmp 0 rfl))) ?_
    refine .cons (.wanted 2 false rfl rfl rfl 0 rfl (ok_move (.tmp 1 rfl))) ?_
    refine .cons (.wanted 2 false rfl rfl rfl 0 rfl (ok_eqNil (.tmp 1 rfl) ((whatV_some _).symm))) ?_
    refine .cons (.plain rfl (ok_pickF (.tmp 0 rfl) (.tmp 1 rfl))) ?_
    exact .nil
  clear H2 a2 w2 B2
  intro a3 w3 B3 H3
  refine ops_done ?_
  refine then_normal ?_
  refine f_condF H3 (.tmp 0 rfl) ?_
  refine wp_skip ?_
  refine then_normal ?_
  refine wp_seq ?_
  refine flow_region (dsts := [some 27, some 8]) (refs := [[], []]) (outs := [.res 0, .res 1, .pre 1, .pre 2, .pre 3, .pre 4, .pre 5]) (als := [false, true]) (posts := [.val (A2 0 0), .box 120 2 (A2 0 0)])
    (out := [(27, .val (A2 0 0)), (8, .box 120 2 (A2 0 0)), (6, .val (IsOne (whatV z1))), (7, .val (IsOne (whatV z2))), (4, .val (Lit (.int .i64 0))), (5, .val (IsB false)), (117, .val (EnvV))]) (nb := [8]) H3 2 [2] rfl (by kernel_rfl) rfl rfl ?_ ?_
  · refine .cons (.plain rfl (ok_buildA2)) ?_
    refine .cons (.plain rfl (ok_allocA2)) ?_
    exact .nil
  clear H3 a3 w3 B3
  intro a4 w4 B4 H4
  simp only [List.cons_append, List.nil_append] at H4
  refine ops_one ?_
  refine store_op (l' := [(27, .val (A2 0 0)), (8, .box 120 2 (A2 0 0)), (6, .val (IsOne (whatV z1))), (7, .val (IsOne (whatV z2))), (4, .val (Lit (.int .i64 0))), (5, .val (IsB false)), (117, .val (EnvV))]) 1 H4 rfl tyA2 rfl (.tmp 0 rfl) shape_A2 shape_A2 rfl rfl ?_
  clear H4 w4
  intro w5 H5
  refine ops_done ?_
  refine then_normal ?_
  refine wp_seq ?_
  refine wp_seq ?_
  refine flow_region (dsts := [some 28, some 29, some 30, some 31, some 32]) (refs := [[.pre 2], [.pre 3], [.res 0, .res 1], [.res 2], []]) (outs := [.res 2, .res 3, .res 4, .pre 1, .pre 2, .pre 3, .pre 4, .pre 5, .pre 6]) (als := [false, false, false, false, false]) (posts := [.val (IsOne (whatV z1)), .val (IsOne (whatV z2)), .val (IsOnes (whatV z1) (whatV z2)), .val (Lit (.int .i64 2)), .val (Lit (.int .i64 0))])
    (out := [(30, .val (IsOnes (whatV z1) (whatV z2))), (31, .val (Lit (.int .i64 2))), (32, .val (Lit (.int .i64 0))), (8, .box 120 2 (A2 0 0)), (6, .val (IsOne (whatV z1))), (7, .val (IsOne (whatV z2))), (4, .val (Lit (.int .i64 0))), (5, .val (IsB false)), (117, .val (EnvV))]) (nb := []) H5 5 [] rfl (by kernel_rfl) rfl rfl ?_ ?_
  · refine .cons (.plain rfl (ok_move (.tmp 0 rfl))) ?_
    refine .cons (.plain rfl (ok_move (.tmp 0 rfl))) ?_
    refine .cons (.plain rfl (ok_ones (.tmp 0 rfl) (.tmp 1 rfl))) ?_
    refine .cons (.plain rfl (ok_lenOnes (.tmp 0 rfl))) ?_
    refine .cons (.plain rfl (ok_move (.lit))) ?_
    exact .nil
  clear H5 a4 w5 B4
  intro a6 w6 B6 H6
  refine ops_done ?_
  refine then_normal ?_
  refine wp_block ?_
  refine wp_loop_rounds 3 ?_
  rw [rounds_succ]
  refine wp_seq ?_
  refine flow_region (dsts := [some 33]) (refs := [[.pre 2, .pre 1]]) (outs := [.res 0, .pre 0, .pre 1, .pre 2, .pre 3, .pre 4, .pre 5, .pre 6, .pre 7, .pre 8]) (als := [false]) (posts := [.val (IsB true)])
    (out := [(33, .val (IsB true)), (30, .val (IsOnes (whatV z1) (whatV z2))), (31, .val (Lit (.int .i64 2))), (32, .val (Lit (.int .i64 0))), (8, .box 120 2 (A2 0 0)), (6, .val (IsOne (whatV z1))), (7, .val (IsOne (whatV z2))), (4, .val (Lit (.int .i64 0))), (5, .val (IsB false)), (117, .val (EnvV))]) (nb := []) H6 1 [] rfl (by kernel_rfl) rfl rfl ?_ ?_
  · refine .cons (.plain rfl (ok_cmp (b := true) (.tmp 0 rfl) (.tmp 1 rfl) (by decide))) ?_
    exact .nil
  clear H6 a6 w6 B6
  intro a7 w7 B7 H7
  refine ops_done ?_
  refine then_normal ?_
  refine wp_seq ?_
  refine f_condT H7 (.tmp 0 rfl) ?_
  refine wp_skip ?_
  refine then_normal ?_
  refine wp_seq ?_
  refine wp_block ?_
  refine wp_seq ?_
  refine flow_region (dsts := [some 34, some 35, some 36, some 9, some 10]) (refs := [[.pre 3], [.pre 1, .pre 3], [.res 1], [.res 0], [.res 2]]) (outs := [.res 3, .res 4, .pre 1, .pre 2, .pre 3, .pre 4, .pre 5, .pre 6, .pre 7, .pre 8, .pre 9]) (als := [false, false, false, false, false]) (posts := [.val (Lit (.int .i64 0)), .val (IsCellO (whatV z1)), .val (IsOne (whatV z1)), .val (Lit (.int .i64 0)), .val (IsOne (whatV z1))])
    (out := [(9, .val (Lit (.int .i64 0))), (10, .val (IsOne (whatV z1))), (30, .val (IsOnes (whatV z1) (whatV z2))), (31, .val (Lit (.int .i64 2))), (32, .val (Lit (.int .i64 0))), (8, .box 120 2 (A2 0 0)), (6, .val (IsOne (whatV z1))), (7, .val (IsOne (whatV z2))), (4, .val (Lit (.int .i64 0))), (5, .val (IsB false)), (117, .val (EnvV))]) (nb := []) H7 5 [] rfl (by kernel_rfl) rfl rfl ?_ ?_
  · refine .cons (.plain rfl (ok_move (.tmp 0 rfl))) ?_
    refine .cons (.plain rfl (ok_idxO0 (.tmp 0 rfl) (.tmp 1 rfl))) ?_
    refine .cons (.plain rfl (ok_loadCellO (.tmp 0 rfl))) ?_
    refine .cons (.plain rfl (ok_assign (.tmp 0 rfl))) ?_
    refine .cons (.plain rfl (ok_assign (.tmp 0 rfl))) ?_
    exact .nil
  clear H7 a7 w7 B7
  intro a8 w8 B8 H8
  refine ops_done ?_
  refine then_normal ?_
  refine wp_seq ?_
  have H9 := H8
  rw [q1] at H9
  clear H8
  replace H9 : St 117 w0 B0 a8 w8 B8 [(9, .val (Lit (.int .i64 0))), (10, .val (IsOne (.nothing v1))), (30, .val (IsOnes (.nothing v1) (whatV z2))), (31, .val (Lit (.int .i64 2))), (32, .val (Lit (.int .i64 0))), (8, .box 120 2 (A2 0 0)), (6, .val (IsOne (.nothing v1))), (7, .val (IsOne (whatV z2))), (4, .val (Lit (.int .i64 0))), (5, .val (IsB false)), (117, .val (EnvV))] [8, 2, 3] := H9
  refine flow_region (dsts := [some 37]) (refs := [[.pre 1]]) (outs := [.res 0, .pre 0, .pre 2, .pre 3, .pre 4, .pre 5, .pre 6, .pre 7, .pre 8, .pre 9, .pre 10]) (als := [false]) (posts := [.val (IsOne (.nothing v1))])
    (out := [(37, .val (IsOne (.nothing v1))), (9, .val (Lit (.int .i64 0))), (30, .val (IsOnes (.nothing v1) (whatV z2))), (31, .val (Lit (.int .i64 2))), (32, .val (Lit (.int .i64 0))), (8, .box 120 2 (A2 0 0)), (6, .val (IsOne (.nothing v1))), (7, .val (IsOne (whatV z2))), (4, .val (Lit (.int .i64 0))), (5, .val (IsB false)), (117, .val (EnvV))]) (nb := []) H9 1 [] rfl (by kernel_rfl) rfl rfl ?_ ?_
  · refine .cons (.plain rfl (ok_move (.tmp 0 rfl))) ?_
    exact .nil
  clear H9 a8 w8 B8
  intro a10 w10 B10 H10
  refine ops_done ?_
  refine then_normal ?_
  refine wp_block ?_
  refine wp_seq ?_
  refine flow_region (dsts := [some 38, some 39, some 40]) (refs := [[.pre 0], [.res 0], [.res 0]]) (outs := [.res 1, .res 2, .pre 0, .pre 1, .pre 2, .pre 3, .pre 4, .pre 5, .pre 6, .pre 7, .pre 8, .pre 9, .pre 10]) (als := [false, false, false]) (posts := [.val (Tup [U1 v1, IsB true]), .val (IsB true), .val (U1 v1)])
    (out := [(39, .val (IsB true)), (40, .val (U1 v1)), (37, .val (IsOne (.nothing v1))), (9, .val (Lit (.int .i64 0))), (30, .val (IsOnes (.nothing v1) (whatV z2))), (31, .val (Lit (.int .i64 2))), (32, .val (Lit (.int .i64 0))), (8, .box 120 2 (A2 0 0)), (6, .val (IsOne (.nothing v1))), (7, .val (IsOne (whatV z2))), (4, .val (Lit (.int .i64 0))), (5, .val (IsB false)), (117, .val (EnvV))]) (nb := []) H10 3 [] rfl (by kernel_rfl) rfl rfl ?_ ?_
  · refine .cons (.plain rfl (ok_ta1 (.tmp 0 rfl) rfl rfl rfl)) ?_
    refine .cons (.plain rfl (ok_extract 1 (.tmp 0 rfl) rfl)) ?_
    refine .cons (.plain rfl (ok_extract 0 (.tmp 0 rfl) rfl)) ?_
    exact .nil
  clear H10 a10 w10 B10
  intro a11 w11 B11 H11
  refine ops_done ?_
  refine then_normal ?_
  refine f_condT H11 (.tmp 0 rfl) ?_
  refine wp_seq ?_
  refine flow_region (dsts := [some 11]) (refs := [[]]) (outs := [.res 0, .pre 1, .pre 2, .pre 3, .pre 4, .pre 5, .pre 6, .pre 7, .pre 8, .pre 9, .pre 10, .pre 11, .pre 12]) (als := [true]) (posts := [.box 123 1 (U1 0)])
    (out := [(11, .box 123 1 (U1 0)), (40, .val (U1 v1)), (37, .val (IsOne (.nothing v1))), (9, .val (Lit (.int .i64 0))), (30, .val (IsOnes (.nothing v1) (whatV z2))), (31, .val (Lit (.int .i64 2))), (32, .val (Lit (.int .i64 0))), (8, .box 120 2 (A2 0 0)), (6, .val (IsOne (.nothing v1))), (7, .val (IsOne (whatV z2))), (4, .val (Lit (.int .i64 0))), (5, .val (IsB false)), (117, .val (EnvV))]) (nb := [11]) H11 1 [1] rfl (by kernel_rfl) rfl rfl ?_ ?_
  · refine .cons (.plain rfl (ok_allocNo)) ?_
    exact .nil
  clear H11 a11 w11 B11
  intro a12 w12 B12 H12
  simp only [List.cons_append, List.nil_append] at H12
  refine ops_one ?_
  refine store_op (l' := [(11, .box 123 1 (U1 v1)), (40, .val (U1 v1)), (37, .val (IsOne (.nothing v1))), (9, .val (Lit (.int .i64 0))), (30, .val (IsOnes (.nothing v1) (whatV z2))), (31, .val (Lit (.int .i64 2))), (32, .val (Lit (.int .i64 0))), (8, .box 120 2 (A2 0 0)), (6, .val (IsOne (.nothing v1))), (7, .val (IsOne (whatV z2))), (4, .val (Lit (.int .i64 0))), (5, .val (IsB false)), (117, .val (EnvV))]) 0 H12 rfl tyNo rfl (.tmp 1 rfl) shape_U1 shape_U1 rfl rfl ?_
  clear H12 w12
  intro w13 H13
  refine ops_done ?_
  refine then_normal ?_
  refine wp_seq ?_
  have H14 : St 117 w0 B0 a12 w13 B12 [(11, .box 123 1 (U1 v1)), (40, .val (U1 v1)), (37, .val (IsOne (.nothing v1))), (9, .val (Lit (.int .i64 0))), (30, .val (IsOnes (.nothing v1) (whatV z2))), (31, .val (Lit (.int .i64 2))), (32, .val (Lit (.int .i64 0))), (8, .box 120 2 (A2 0 0)), (6, .val (IsOne (.nothing v1))), (7, .val (IsOne (whatV z2))), (117, .val (EnvV))] [11, 8, 2, 3] := St.pick H13 [0, 1, 2, 3, 4, 5, 6, 7, 8, 9, 12] rfl
  clear H13
  refine flow_region (dsts := [some 4, some 5]) (refs := [[], []]) (outs := [.res 0, .res 1, .pre 2, .pre 3, .pre 4, .pre 5, .pre 6, .pre 7, .pre 8, .pre 9, .pre 10]) (als := [false, false]) (posts := [.val (Lit (.int .i64 0)), .val (IsB false)])
    (out := [(4, .val (Lit (.int .i64 0))), (5, .val (IsB false)), (37, .val (IsOne (.nothing v1))), (9, .val (Lit (.int .i64 0))), (30, .val (IsOnes (.nothing v1) (whatV z2))), (31, .val (Lit (.int .i64 2))), (32, .val (Lit (.int .i64 0))), (8, .box 120 2 (A2 0 0)), (6, .val (IsOne (.nothing v1))), (7, .val (IsOne (whatV z2))), (117, .val (EnvV))]) (nb := []) H14 2 [] rfl (by kernel_rfl) rfl rfl ?_ ?_
  · refine .cons (.plain rfl (ok_assign (.lit))) ?_
    refine .cons (.plain rfl (ok_assign (.lit))) ?_
    exact .nil
  clear H14 a12 w13 B12
  intro a15 w15 B15 H15
  refine ops_done ?_
  refine then_normal ?_
  refine wp_ret ?_
  refine block_ret ?_
  refine block_ret ?_
  refine then_ret ?_
  refine then_ret ?_
  refine block_ret ?_
  refine then_ret ?_
  exact f_retN H15 rfl rfl (.tmp 0 rfl (fun v w B h => int_e (by rw [q1, cmpO_no1]) h) (.tmp 1 rfl (fun v w B h => isB_e (by rw [q1, cmpO_no1]) h) (.nil)))
end Go.Proofs.YtoimhjcpeifegaaGreatDoor


/- The bound of one number; a list of one limb. -/
set_option maxRecDepth 50000
namespace Go.Proofs.YtoimhjcpeifegaaGreatDoor
open Go Go.RowKit

section
variable {need : List (Tmp × FD)} {d : Option Tmp} {ty : TypeId} {pos : String} {af : Array Edge} {g : Option (Nat × Bool)} {x : Operand}
theorem ok_dig1 {i : Int} (hi : 0 < i ∧ i < 4294967296) (h : Opd need x (.val (Lit (.int .u32 i)))) : OpOk Tryz.prog ⟨d, .buildSlice 32 1 #[(0, x)], ty, pos, af, g⟩ need (.val (IsC i)) false := by
  intro Q K a w B hB hF hK
  have e : a.eval x = .int .u32 i := h a w B hF
  have hbel : Below w.heap.size w (w.alloc (.cells #[.int .u32 i] 23)) := (Below.refl _ _).alloc (Nat.le_refl _) _
  have hr : (execOp a.eval ⟨d, .buildSlice 32 1 #[(0, x)], ty, pos, af, g⟩).run Tryz.prog w = .ok (.value (.slice (some ⟨w.heap.size, 0, none⟩) 1 1)) (w.alloc (.cells #[.int .u32 i] 23)) := by
    simp only [execOp, e, List.map_toArray, List.map_cons, List.map_nil]
    go_simp
  have hdg : dg 4294967296 i = [i] := by
    rw [dg_pos 4294967296 i (by omega) hi.1, show i / ((4294967296 : Nat) : Int) = 0 by omega, dg_zero, show i % ((4294967296 : Nat) : Int) = i by omega]
  unfold Oper.wp
  rw [hr]
  refine hK _ _ B ⟨_, 1, 1, rfl, ⟨by omega, ?_⟩, by rw [lim_eq]; omega, by omega⟩ (Bl.of_below B hbel) hbel (fun k hk => Nat.lt_of_lt_of_le (hB k hk) hbel.size) (by simp)
  rw [hdg]
  refine ⟨rfl, fun j hj => ⟨_, rfl, ?_⟩⟩
  obtain rfl : j = 0 := by omega
  rw [plain_add, cell_row (heap_alloc_new w _)]
  rfl
end
end Go.Proofs.YtoimhjcpeifegaaGreatDoor


/- The narrowest pattern of a pattern's number: plain. -/
set_option maxRecDepth 50000
namespace Go.Proofs.YtoimhjcpeifegaaGreatDoor
open Go Go.RowKit

theorem bits_flt (b : Int) : bitsO (oneF b) = (b, true) := by
  unfold oneF
  by_cases h1 : clsW 64 b = 4
  · rw [if_pos h1]; rfl
  · by_cases h2 : clsW 64 b = 5
    · rw [if_neg h1, if_pos h2]; rfl
    · rw [if_neg h1, if_neg h2]; rfl
theorem to_self (x : Int) (hx : 0 ≤ x ∧ x < 18446744073709551616) (hn : isNaN 64 x = false) : (toW 64 64 x).1 = x := by
  have hx2 : 0 ≤ x ∧ x < 2 ^ 64 := by rw [show (2 : Int) ^ 64 = 18446744073709551616 from by decide]; exact hx
  unfold toW
  rw [if_neg (by rw [hn]; exact Bool.false_ne_true)]
  by_cases h2 : sizeW 64 x = infW 64
  · rw [if_pos h2]
    rcases neg_size (W := 64) x with ⟨k1, k2, k3⟩ | ⟨k1, k2, k3⟩
    · rw [k1, if_pos rfl]; omega
    · rw [k1, if_neg (by decide)]; omega
  · rw [if_neg h2]
    have h3 : pOk 64 x = true := by
      unfold isNaN at hn
      have := of_decide_eq_false hn
      exact decide_eq_true (by omega)
    exact round_parts w64 x hx2 h3
theorem not_nan_int {x : Int} (h : intOk 64 x = true) : isNaN 64 x = false := by
  unfold intOk at h
  exact (not_nan x (Bool.and_eq_true_iff.1 h).1).1
theorem p_cases (x : Int) (hx : 0 ≤ x ∧ x < 18446744073709551616) :
    (isNaN 64 x = true ∧ ofV 64 x = .flt 9221120237041090560 ∧ bitsO (whatV (ofV 64 x)) = (9221120237041090560, true)) ∨ (isNaN 64 x = false ∧ bitsO (whatV (ofV 64 x)) = (x, true)) ∨ (isNaN 64 x = false ∧ x = 9223372036854775808 ∧ ofV 64 x = .int 0 ∧ bitsO (whatV (ofV 64 x)) = (0, true)) := by
  have hx2 : 0 ≤ x ∧ x < 2 ^ 64 := by rw [show (2 : Int) ^ 64 = 18446744073709551616 from by decide]; exact hx
  by_cases hi : intOk 64 x = true
  · obtain ⟨h1, h2⟩ := int_back w64 x hx2 hi
    have hn := not_nan_int hi
    have e : bitsO (whatV (ofV 64 x)) = ((fromW 64 (intN 64 x)).1, true) := by rw [of_yes hi]; exact bits_yes h1
    rcases h2 with h2 | ⟨h2, h3⟩
    · exact .inr (.inl ⟨hn, by rw [e, h2]⟩)
    · have h4 : x = 9223372036854775808 := h2
      refine .inr (.inr ⟨hn, h4, ?_, by rw [e, h3]⟩)
      rw [of_yes hi, h4]
      congr 1
  · have hi' : intOk 64 x = false := by simpa using hi
    rw [of_no hi']
    have e : bitsO (whatV (.flt (toW 64 64 x).1)) = ((toW 64 64 x).1, true) := bits_flt _
    by_cases hn : isNaN 64 x = true
    · have h2 : (toW 64 64 x).1 = nanW 64 := by unfold toW; rw [if_pos hn]
      rw [e, h2]
      exact .inl ⟨hn, rfl, rfl⟩
    · have hn' : isNaN 64 x = false := by simpa using hn
      rw [e, to_self x hx hn']
      exact .inr (.inl ⟨hn', rfl⟩)
section
variable {P : Program} {Q : Exit → Act → World → Prop} {N : Nat} {w0 : World} {B0 : Bx} {a : Act} {w : World} {B : Bx} {l : List (Tmp × FD)} {bxs : List Tmp}
end
section
variable {need : List (Tmp × FD)} {d : Option Tmp} {ty : TypeId} {pos : String} {af : Array Edge} {g : Option (Nat × Bool)} {x : Operand}
end
end Go.Proofs.YtoimhjcpeifegaaGreatDoor


/- VCmp. (Printed by flow15.py.) -/
namespace Go.Proofs.YtoimhjcpeifegaaGreatDoor
open Go Go.RowKit

theorem con_ncmp (z1 z2 : NV) (hz1 : okNV z1) (hz2 : okNV z2) : ConE Tryz.prog 34 [IsNum z1, IsNum z2] (Tup [Lit (.int .i64 (cmpO (whatV z1) (whatV z2)).1), IsB (cmpO (whatV z1) (whatV z2)).2]) := by
  rcases what_cases z1 hz1 with ⟨X1, q1⟩ | ⟨x1, q1, b1, p1⟩ | ⟨y1, q1, b1⟩ | ⟨v1, q1⟩
  · exact con_ncmpA z1 z2 hz1 hz2 X1 q1
  · exact con_ncmpB z1 z2 hz1 hz2 x1 q1 b1 p1
  · exact con_ncmpC z1 z2 hz1 hz2 y1 q1 b1
  · exact con_ncmpD z1 z2 hz1 hz2 v1 q1
end Go.Proofs.YtoimhjcpeifegaaGreatDoor


/- VLives. (Printed by flow15.py.) -/
namespace Go.Proofs.YtoimhjcpeifegaaGreatDoor
open Go Go.RowKit

set_option maxRecDepth 20000 in
set_option maxHeartbeats 2000000 in
theorem con_lives15 : ConE Tryz.prog 33 [] (IsB true) := by
  refine f_enterE (N := 48) Tryz.ntmps33 (fun _ _ => by go_simp) Tryz.func33 rfl (by simp) ?_
  intro a0 w0 B0 H0
  replace H0 : St 48 w0 B0 a0 w0 B0 [(48, .val (EnvV))] [] := H0
  refine wp_seq ?_
  refine flow_region (dsts := [some 0]) (refs := [[]]) (outs := [.res 0, .pre 0]) (als := [false]) (posts := [.val (IsB false)])
    (out := [(0, .val (IsB false)), (48, .val (EnvV))]) (nb := []) H0 1 [] rfl (by kernel_rfl) rfl rfl ?_ ?_
  · refine .cons (.plain rfl (ok_assign (.lit))) ?_
    exact .nil
  clear H0
  intro a1 w1 B1 H1
  refine ops_done ?_
  refine then_normal ?_
  refine wp_seq ?_
  refine flow_region (dsts := [some 7, some 1]) (refs := [[.pre 1], []]) (outs := [.res 0, .res 1, .pre 0, .pre 1]) (als := [false, true]) (posts := [.val (IsNum (.flt 4609434218613702656)), .box 37 8 (IsVal 0 0 (IsI 0) 0 0 (⟨#[]⟩) (K0))])
    (out := [(7, .val (IsNum (.flt 4609434218613702656))), (1, .box 37 8 (IsVal 0 0 (IsI 0) 0 0 (⟨#[]⟩) (K0))), (0, .val (IsB false)), (48, .val (EnvV))]) (nb := [1]) H1 2 [2] rfl (by kernel_rfl) rfl rfl ?_ ?_
  · refine .cons (.plain rfl (ok_callE ((con_of16 15872 (by omega)).weak (fun v w B h => num_eq lives_of h)) 0 rfl (.cons (.lit) (.nil)))) ?_
    refine .cons (.plain rfl (ok_allocV)) ?_
    exact .nil
  clear H1 a1 w1 B1
  intro a2 w2 B2 H2
  simp only [List.cons_append, List.nil_append] at H2
  refine ops_one ?_
  refine store_op (l' := [(7, .val (IsNum (.flt 4609434218613702656))), (1, .box 37 8 (IsNum (.flt 4609434218613702656))), (0, .val (IsB false)), (48, .val (EnvV))]) 1 H2 rfl tyV rfl (.tmp 0 rfl) (shape_Val shape_I oneK0) shape_Num rfl rfl ?_
  clear H2 w2
  intro w3 H3
  refine ops_done ?_
  refine then_normal ?_
  refine wp_seq ?_
  refine flow_region (dsts := [some 9, some 10, some 11, some 12, some 8, some 13, some 14, some 15, some 2, some 3, some 4]) (refs := [[], [.res 0], [.res 1], [.res 2, .pre 3], [.res 3], [.res 4], [.res 4], [.res 4], [.res 5], [.res 6], [.res 7]]) (outs := [.res 8, .res 9, .res 10, .pre 1, .pre 2, .pre 3]) (als := [false, false, false, false, false, false, false, false, false, false, false]) (posts := [.val (IsC 65505), .val (IsI 65505), .val (IsNum (.int 65505)), .val (Tup [Lit (.int .i64 32), Lit (.int .u64 1199563008), IsB true]), .val (Tup [Lit (.int .i64 32), Lit (.int .u64 1199563008), IsB true]), .val (Lit (.int .i64 32)), .val (Lit (.int .u64 1199563008)), .val (IsB true), .val (Lit (.int .i64 32)), .val (Lit (.int .u64 1199563008)), .val (IsB true)])
    (out := [(2, .val (Lit (.int .i64 32))), (3, .val (Lit (.int .u64 1199563008))), (4, .val (IsB true)), (1, .box 37 8 (IsNum (.flt 4609434218613702656))), (0, .val (IsB false)), (48, .val (EnvV))]) (nb := []) H3 11 [] rfl (by kernel_rfl) rfl rfl ?_ ?_
  · refine .cons (.plain rfl (ok_dig1 (by omega) (.lit))) ?_
    refine .cons (.plain rfl (ok_buildI1 (.tmp 0 rfl))) ?_
    refine .cons (.plain rfl (ok_buildVI (k := 3) (.lit) (.tmp 0 rfl) shape_I)) ?_
    refine .cons (.plain rfl (ok_callE ((con_narrow (.int 65505) trivial).weak (fun v w B h => by rw [lives_bits, lives_narrow] at h; exact h)) 1 rfl (.cons (.tmp 0 rfl) (.nil)))) ?_
    refine .cons (.plain rfl (ok_move (.tmp 0 rfl))) ?_
    refine .cons (.plain rfl (ok_extract 0 (.tmp 0 rfl) rfl)) ?_
    refine .cons (.plain rfl (ok_extract 1 (.tmp 0 rfl) rfl)) ?_
    refine .cons (.plain rfl (ok_extract 2 (.tmp 0 rfl) rfl)) ?_
    refine .cons (.plain rfl (ok_assign (.tmp 0 rfl))) ?_
    refine .cons (.plain rfl (ok_assign (.tmp 0 rfl))) ?_
    refine .cons (.plain rfl (ok_assign (.tmp 0 rfl))) ?_
    exact .nil
  clear H3 a2 w3 B2
  intro a4 w4 B4 H4
  refine ops_done ?_
  refine then_normal ?_
  refine wp_seq ?_
  refine flow_drawT (dsts := [some 17, some 18, some 19, some 16, some 20, some 21, some 5, some 6]) (refs := [[.pre 5], [.pre 3], [.res 0, .res 1, .pre 5], [.res 2], [.res 3], [.res 3], [.res 4], [.res 5]]) (outs := [.res 6, .res 7, .pre 0, .pre 1, .pre 2, .pre 3, .pre 4, .pre 5]) (als := [false, false, false, false, false, false, false, false]) (posts := [.val (IsNum (.int 1)), .val (IsNum (.flt 4609434218613702656)), .val (Tup [Lit (.int .i64 (-1)), IsB true]), .val (Tup [Lit (.int .i64 (-1)), IsB true]), .val (Lit (.int .i64 (-1))), .val (IsB true), .val (Lit (.int .i64 (-1))), .val (IsB true)])
    (out := [(5, .val (Lit (.int .i64 (-1)))), (6, .val (IsB true)), (2, .val (Lit (.int .i64 32))), (3, .val (Lit (.int .u64 1199563008))), (4, .val (IsB true)), (1, .box 37 8 (IsNum (.flt 4609434218613702656))), (0, .val (IsB false)), (48, .val (EnvV))]) (nb := []) H4 (by kernel_rfl) 8 0 #[true, true, true, true, true, true, true, true] (by kernel_rfl) (by kernel_rfl) rfl rfl ?_ ?_
  · refine .cons (.plain rfl (ok_callE ((con_of32 1065353216 (by omega)).weak (fun v w B h => num_eq lives_of1 h)) 0 rfl (.cons (.lit) (.nil)))) ?_
    refine .cons (.plain rfl (ok_load tyV (.tmp 0 rfl))) ?_
    refine .cons (.plain rfl (ok_callE ((con_ncmpL (.int 1) (.flt 4609434218613702656) trivial lives_ok 1 rfl 4609434218613702656 lives_what (by omega) (by decide)).weak (fun v w B h => by rw [lives_cmp] at h; exact h)) 2 rfl (.cons (.tmp 0 rfl) (.cons (.tmp 1 rfl) (.nil))))) ?_
    refine .cons (.plain rfl (ok_move (.tmp 0 rfl))) ?_
    refine .cons (.plain rfl (ok_extract 0 (.tmp 0 rfl) rfl)) ?_
    refine .cons (.plain rfl (ok_extract 1 (.tmp 0 rfl) rfl)) ?_
    refine .cons (.plain rfl (ok_assign (.tmp 0 rfl))) ?_
    refine .cons (.plain rfl (ok_assign (.tmp 0 rfl))) ?_
    exact .nil
  clear H4 a4 w4 B4
  intro a5 w5 B5 H5
  refine any_done (by kernel_rfl) ?_
  refine then_normal ?_
  refine wp_seq ?_
  refine flow_region (dsts := [some 22, some 23, some 24, some 25, some 26, some 27, some 28, some 29, some 30, some 31, some 32, some 33, some 34, some 35, some 36, some 37, some 38, some 39, some 40, some 41, some 42, some 43, some 44, some 45, some 46, some 47, some 0]) (refs := [[.pre 5], [.res 0], [.res 1], [.res 2], [.res 3, .pre 5], [.res 3, .res 4], [.res 3, .res 5], [.res 3, .res 6], [.res 7], [.res 8, .pre 4], [.res 8, .res 9], [.res 10], [.res 11, .pre 2], [.res 11, .res 12], [.res 11, .res 13], [.res 14], [.res 15, .pre 3], [.res 15, .res 16], [.res 15, .res 17], [.res 18], [.res 19, .pre 0], [.res 19, .res 20], [.res 19, .res 21], [.res 22], [.res 23, .pre 1], [.res 23, .res 24], [.res 25]]) (outs := [.res 26, .pre 7]) (als := [false, false, false, false, false, false, false, false, false, false, false, false, false, false, false, false, false, false, false, false, false, false, false, false, false, false, false]) (posts := [.ptr 37 8 (IsNum (.flt 4609434218613702656)) 0, .val (Lit (.int .i8 4)), .val (IsB true), .val (IsB true), .ptr 37 8 (IsNum (.flt 4609434218613702656)) 4, .val (Lit (.int .u64 4609434218613702656)), .val (IsB true), .val (IsB true), .val (IsB true), .val (IsB true), .val (IsB true), .val (IsB true), .val (Lit (.int .i64 32)), .val (IsB true), .val (IsB true), .val (IsB true), .val (Lit (.int .u64 1199563008)), .val (IsB true), .val (IsB true), .val (IsB true), .val (Lit (.int .i64 (-1))), .val (IsB true), .val (IsB true), .val (IsB true), .val (IsB true), .val (IsB true), .val (IsB true)])
    (out := [(0, .val (IsB true)), (48, .val (EnvV))]) (nb := []) H5 27 [] rfl (by kernel_rfl) rfl rfl ?_ ?_
  · refine .cons (.plain rfl (ok_addrV0 (.tmp 0 rfl))) ?_
    refine .cons (.plain rfl (ok_loadV0 (.tmp 0 rfl))) ?_
    refine .cons (.plain rfl (ok_cmp (b := true) (.tmp 0 rfl) (.lit) (by decide))) ?_
    refine .cons (.plain rfl (ok_move (.tmp 0 rfl))) ?_
    refine .cons (.wanted 3 true rfl rfl rfl 0 rfl (ok_addrV3 (.tmp 1 rfl))) ?_
    refine .cons (.wanted 3 true rfl rfl rfl 0 rfl (ok_loadV3 (.tmp 1 rfl))) ?_
    refine .cons (.wanted 3 true rfl rfl rfl 0 rfl (ok_cmp (b := true) (.tmp 1 rfl) (.lit) (by decide))) ?_
    refine .cons (.plain rfl (ok_pickT (.tmp 0 rfl) (.tmp 1 rfl))) ?_
    refine .cons (.plain rfl (ok_move (.tmp 0 rfl))) ?_
    refine .cons (.wanted 8 true rfl rfl rfl 0 rfl (ok_move (.tmp 1 rfl))) ?_
    refine .cons (.plain rfl (ok_pickT (.tmp 0 rfl) (.tmp 1 rfl))) ?_
    refine .cons (.plain rfl (ok_move (.tmp 0 rfl))) ?_
    refine .cons (.wanted 11 true rfl rfl rfl 0 rfl (ok_move (.tmp 1 rfl))) ?_
    refine .cons (.wanted 11 true rfl rfl rfl 0 rfl (ok_cmp (b := true) (.tmp 1 rfl) (.lit) (by decide))) ?_
    refine .cons (.plain rfl (ok_pickT (.tmp 0 rfl) (.tmp 1 rfl))) ?_
    refine .cons (.plain rfl (ok_move (.tmp 0 rfl))) ?_
    refine .cons (.wanted 15 true rfl rfl rfl 0 rfl (ok_move (.tmp 1 rfl))) ?_
    refine .cons (.wanted 15 true rfl rfl rfl 0 rfl (ok_cmp (b := true) (.tmp 1 rfl) (.lit) (by decide))) ?_
    refine .cons (.plain rfl (ok_pickT (.tmp 0 rfl) (.tmp 1 rfl))) ?_
    refine .cons (.plain rfl (ok_move (.tmp 0 rfl))) ?_
    refine .cons (.wanted 19 true rfl rfl rfl 0 rfl (ok_move (.tmp 1 rfl))) ?_
    refine .cons (.wanted 19 true rfl rfl rfl 0 rfl (ok_cmp (b := true) (.tmp 1 rfl) (.lit) (by decide))) ?_
    refine .cons (.plain rfl (ok_pickT (.tmp 0 rfl) (.tmp 1 rfl))) ?_
    refine .cons (.plain rfl (ok_move (.tmp 0 rfl))) ?_
    refine .cons (.wanted 23 true rfl rfl rfl 0 rfl (ok_move (.tmp 1 rfl))) ?_
    refine .cons (.plain rfl (ok_pickT (.tmp 0 rfl) (.tmp 1 rfl))) ?_
    refine .cons (.plain rfl (ok_assign (.tmp 0 rfl))) ?_
    exact .nil
  clear H5 a5 w5 B5
  intro a6 w6 B6 H6
  refine ops_done ?_
  refine then_normal ?_
  refine wp_ret ?_
  exact f_ret H6 rfl 0 rfl (fun _ _ _ h => h)

set_option maxRecDepth 20000 in
set_option maxHeartbeats 2000000 in
theorem con_nan15 (x : Int) (hx : 0 ≤ x ∧ x < 18446744073709551616) : ConE Tryz.prog 38 [Lit (.int .u64 x)] (IsB (isNaN 64 x)) := by
  refine f_enterE (N := 6) Tryz.ntmps38 (fun _ _ => by go_simp) Tryz.func38 rfl (by simp) ?_
  intro a0 w0 B0 H0
  replace H0 : St 6 w0 B0 a0 w0 B0 [(0, .val (Lit (.int .u64 x))), (6, .val (EnvV))] [] := H0
  refine wp_seq ?_
  refine flow_region (dsts := [some 2]) (refs := [[]]) (outs := [.res 0, .pre 0, .pre 1]) (als := [false]) (posts := [.val (IsB false)])
    (out := [(2, .val (IsB false)), (0, .val (Lit (.int .u64 x))), (6, .val (EnvV))]) (nb := []) H0 1 [] rfl (by kernel_rfl) rfl rfl ?_ ?_
  · refine .cons (.plain rfl (ok_assign (.lit))) ?_
    exact .nil
  clear H0
  intro a1 w1 B1 H1
  refine ops_done ?_
  refine then_normal ?_
  refine wp_seq ?_
  refine flow_region (dsts := [some 3, some 4, some 5, some 2]) (refs := [[.pre 1], [.res 0, .pre 2], [.res 1], [.res 2]]) (outs := [.res 3, .pre 2]) (als := [false, false, false, false]) (posts := [.val (Lit (.int .u64 x)), .val (Lit (.int .i8 (clsW 64 x))), .val (IsB (decide (clsW 64 x = 5))), .val (IsB (decide (clsW 64 x = 5)))])
    (out := [(2, .val (IsB (decide (clsW 64 x = 5)))), (6, .val (EnvV))]) (nb := []) H1 4 [] rfl (by kernel_rfl) rfl rfl ?_ ?_
  · refine .cons (.plain rfl (ok_move (.tmp 0 rfl))) ?_
    refine .cons (.plain rfl (ok_callE (con_class64 x hx) 1 rfl (.cons (.tmp 0 rfl) (.nil)))) ?_
    refine .cons (.plain rfl (ok_cmp (.tmp 0 rfl) (.lit) rfl)) ?_
    refine .cons (.plain rfl (ok_assign (.tmp 0 rfl))) ?_
    exact .nil
  clear H1 a1 w1 B1
  intro a2 w2 B2 H2
  refine ops_done ?_
  refine then_normal ?_
  refine wp_ret ?_
  exact f_ret H2 rfl 0 rfl (fun v w B h => by refine isB_e ?_ h; rw [← nan_cls]; by_cases c : clsW 64 x = 5 <;> simp [c])
end Go.Proofs.YtoimhjcpeifegaaGreatDoor


/- Whole numbers and patterns in order: plain. -/
set_option maxRecDepth 50000
namespace Go.Proofs.YtoimhjcpeifegaaGreatDoor
open Go Go.RowKit

theorem cmpI_pos (a b P : Int) (hP : 0 < P) : cmpI (a * P) (b * P) = cmpI a b := by
  rcases Int.lt_trichotomy a b with h | h | h
  · rw [cmpI_lt h, cmpI_lt (Int.mul_lt_mul_of_pos_right h hP)]
  · rw [h]; unfold cmpI; simp
  · rw [cmpI_gt h, cmpI_gt (Int.mul_lt_mul_of_pos_right h hP)]
/-- Two finite numbers by least steps. -/
theorem cmpFin_key (m e n f : Int) (he : -1074 ≤ e) (hf : -1074 ≤ f) : cmpFin m e n f = cmpI (m * 2 ^ (e + 1074).toNat) (n * 2 ^ (f + 1074).toNat) := by
  unfold cmpFin
  rcases Int.lt_or_le f e with h | h
  · rw [if_pos (show 0 < e - f by omega), if_neg (show ¬ 0 < f - e by omega)]
    have hP : (0 : Int) < 2 ^ (f + 1074).toNat := Int.pow_pos (by omega)
    rw [show (e + 1074).toNat = (e - f).toNat + (f + 1074).toNat by omega, Int.pow_add, ← Int.mul_assoc, cmpI_pos _ _ _ hP]
    simp
  · have hP : (0 : Int) < 2 ^ (e + 1074).toNat := Int.pow_pos (by omega)
    rw [if_neg (show ¬ 0 < e - f by omega)]
    by_cases h2 : 0 < f - e
    · rw [if_pos h2, show (f + 1074).toNat = (f - e).toNat + (e + 1074).toNat by omega, Int.pow_add, ← Int.mul_assoc, cmpI_pos _ _ _ hP]
      simp
    · obtain rfl : f = e := by omega
      rw [if_neg h2, cmpI_pos _ _ _ hP]
      simp
def keyF (b : Int) : Int := sI (pNeg 64 b) (pM 64 b) * 2 ^ (pE 64 b + 1074).toNat
/-- What the number of a pattern of 64 bits may be. -/
theorem of_cases (b : Int) (hb : 0 ≤ b ∧ b < 18446744073709551616) :
    (isNaN 64 b = true ∧ ofV 64 b = .flt 9221120237041090560 ∧ whatV (.flt 9221120237041090560) = .nothing 9221120237041090560) ∨
    (isNaN 64 b = false ∧ clsW 64 b = 4 ∧ ofV 64 b = .flt b ∧ whatV (.flt b) = .endless b) ∨
    (isNaN 64 b = false ∧ ∃ N, ofV 64 b = .int N) ∨
    (isNaN 64 b = false ∧ clsW 64 b ≠ 4 ∧ ofV 64 b = .flt b ∧ whatV (.flt b) = .broken b ∧ pOk 64 b = true ∧ pE 64 b < 0) := by
  by_cases hn : isNaN 64 b = true
  · refine .inl ⟨hn, ?_, ?_⟩
    · rcases p_cases b hb with ⟨h1, h2, h3⟩ | ⟨h1, h3⟩ | ⟨h1, h2, h3, h4⟩
      · exact h2
      · rw [hn] at h1; cases h1
      · rw [hn] at h1; cases h1
    · show oneF _ = _
      unfold oneF
      rw [if_neg (by decide), if_pos (by decide)]
  · have hn' : isNaN 64 b = false := by simpa using hn
    by_cases hi : intOk 64 b = true
    · exact .inr (.inr (.inl ⟨hn', _, of_yes hi⟩))
    · have hi' : intOk 64 b = false := by simpa using hi
      have ho : ofV 64 b = .flt b := by rw [of_no hi', to_self b hb hn']
      by_cases h2 : sizeW 64 b = infW 64
      · have hc := (cls_of (W := 64) b).2.1 h2
        refine .inr (.inl ⟨hn', hc, ho, ?_⟩)
        show oneF b = _
        unfold oneF
        rw [if_pos hc]
      · have h3 : pOk 64 b = true := by
          unfold isNaN at hn'
          have := of_decide_eq_false hn'
          exact decide_eq_true (by omega)
        obtain ⟨c1, c2⟩ := (cls_of (W := 64) b).2.2 h3
        refine .inr (.inr (.inr ⟨hn', c1, ho, ?_, h3, ?_⟩))
        · show oneF b = _
          unfold oneF
          rw [if_neg c1, if_neg c2]
        · unfold intOk at hi'
          rw [h3, Bool.true_and] at hi'
          have := of_decide_eq_false hi'
          omega
end Go.Proofs.YtoimhjcpeifegaaGreatDoor

