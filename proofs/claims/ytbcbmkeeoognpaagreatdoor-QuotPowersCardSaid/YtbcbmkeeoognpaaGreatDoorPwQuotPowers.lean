/- The law QuotPowers: its walk. -/
import Derived.Test.YtbcbmkeeoognpaaGreatDoorPk2
import Derived.Test.YtbcbmkeeoognpaaGreatDoorPk6
import Derived.Test.YtbcbmkeeoognpaaGreatDoorPk30
import Derived.Test.YtbcbmkeeoognpaaGreatDoorPk31
set_option linter.unusedVariables false
set_option linter.unusedSimpArgs false
/- The law QuotPowers: its walk by what the slots hold. (Printed by flowbook.py.) -/
namespace Go.Proofs.YtbcbmkeeoognpaaGreatDoor
open Go Go.RowKit

set_option maxRecDepth 20000 in
set_option maxHeartbeats 8000000 in
theorem con_QuotPowers (b : Int) (hb : 0 ≤ b ∧ b < 4294967296) (n : Int) (hn : -9223372036854775808 ≤ n ∧ n < 9223372036854775808) (c : Int) (hc : 0 ≤ c ∧ c < 4294967296) (m : Int) (hm : -9223372036854775808 ≤ m ∧ m < 9223372036854775808) : ConT Tryz.prog 7 [Lit (.int .u32 b), Lit (.int .i64 n), Lit (.int .u32 c), Lit (.int .i64 m)] (fun _ => IsB true) := by
  refine f_enterT (N := 64) Tryz.ntmps7 (fun _ _ => by go_simp) Tryz.func7 rfl (by simp) ?_
  intro a0 w0 B0 H0
  replace H0 : St 64 w0 B0 a0 w0 B0 [(0, .val (Lit (.int .u32 b))), (1, .val (Lit (.int .i64 n))), (2, .val (Lit (.int .u32 c))), (3, .val (Lit (.int .i64 m))), (64, .val (Sz w0.heap.size)), (65, .val (TabV w0.heap.size))] [] := H0
  refine wp_seq ?_
  refine flow_region (dsts := [some 8]) (refs := [[]]) (outs := [.res 0, .pre 0, .pre 1, .pre 2, .pre 3, .pre 4, .pre 5]) (als := [false]) (posts := [.val (IsB false)])
    (out := [(8, .val (IsB false)), (0, .val (Lit (.int .u32 b))), (1, .val (Lit (.int .i64 n))), (2, .val (Lit (.int .u32 c))), (3, .val (Lit (.int .i64 m))), (64, .val (Sz w0.heap.size)), (65, .val (TabV w0.heap.size))]) (nb := []) H0 1 [] rfl (by kernel_rfl) rfl rfl ?_ ?_
  · refine .cons (.plain rfl (ok_assign (.lit))) ?_
    exact .nil
  clear H0
  intro a1 w1 B1 H1
  refine ops_done ?_
  refine then_normal ?_
  refine wp_seq ?_
  refine flow_region (dsts := [some 9]) (refs := [[]]) (outs := [.res 0, .pre 0, .pre 1, .pre 2, .pre 3, .pre 4, .pre 5, .pre 6]) (als := [true]) (posts := [.box 42 15 (IsBook w0.heap.size (fun _ => True) 0 0 ([]) 0)])
    (out := [(9, .box 42 15 (IsBook w0.heap.size (fun _ => True) 0 0 ([]) 0)), (8, .val (IsB false)), (0, .val (Lit (.int .u32 b))), (1, .val (Lit (.int .i64 n))), (2, .val (Lit (.int .u32 c))), (3, .val (Lit (.int .i64 m))), (64, .val (Sz w0.heap.size)), (65, .val (TabV w0.heap.size))]) (nb := [9]) H1 1 [] rfl (by kernel_rfl) rfl rfl ?_ ?_
  · refine .cons (.plain rfl (ok_allocBook)) ?_
    exact .nil
  clear H1 a1 w1 B1
  intro a2 w2 B2 H2
  simp only [List.cons_append, List.nil_append] at H2
  refine ops_done ?_
  refine then_normal ?_
  refine wp_seq ?_
  refine flow_region (dsts := [some 17, some 18, some 19, some 20, some 10]) (refs := [[.pre 2], [.pre 4], [.pre 2], [.res 0, .res 1, .res 2], []]) (outs := [.res 3, .res 4, .pre 0, .pre 1, .pre 3, .pre 5, .pre 6, .pre 7]) (als := [false, false, false, false, true]) (posts := [.val (Lit (.int .u32 b)), .val (Lit (.int .u32 c)), .val (Lit (.int .u32 b)), .val (AL [.int .u32 b, .int .u32 c, .int .u32 b]), .box 61 3 (AL [.int .u32 0, .int .u32 0, .int .u32 0])])
    (out := [(20, .val (AL [.int .u32 b, .int .u32 c, .int .u32 b])), (10, .box 61 3 (AL [.int .u32 0, .int .u32 0, .int .u32 0])), (9, .box 42 15 (IsBook w0.heap.size (fun _ => True) 0 0 ([]) 0)), (8, .val (IsB false)), (1, .val (Lit (.int .i64 n))), (3, .val (Lit (.int .i64 m))), (64, .val (Sz w0.heap.size)), (65, .val (TabV w0.heap.size))]) (nb := [10]) H2 5 [5] rfl (by kernel_rfl) rfl rfl ?_ ?_
  · refine .cons (.plain rfl (ok_move (.tmp 0 rfl))) ?_
    refine .cons (.plain rfl (ok_move (.tmp 0 rfl))) ?_
    refine .cons (.plain rfl (ok_move (.tmp 0 rfl))) ?_
    refine .cons (.plain rfl (ok_build3 (runA3w _ _ _ ) (.tmp 0 rfl) (.tmp 1 rfl) (.tmp 2 rfl))) ?_
    refine .cons (.plain rfl (ok_allocL zeroA3w rfl)) ?_
    exact .nil
  clear H2 a2 w2 B2
  intro a3 w3 B3 H3
  simp only [List.cons_append, List.nil_append] at H3
  refine ops_one ?_
  refine store_any (ks := [(20, .val (AL [.int .u32 b, .int .u32 c, .int .u32 b])), (9, .box 42 15 (IsBook w0.heap.size (fun _ => True) 0 0 ([]) 0)), (8, .val (IsB false)), (1, .val (Lit (.int .i64 n))), (3, .val (Lit (.int .i64 m))), (64, .val (Sz w0.heap.size)), (65, .val (TabV w0.heap.size))]) 1 [0, 2, 3, 4, 5, 6, 7] H3 rfl tyA3w rfl (.tmp 0 rfl) rfl (by simp [Value.oneCell']) rfl (by kernel_rfl) (.cons (keptV_lit) (.cons (keptV_book) (.cons (keptV_lit) (.cons (keptV_lit) (.cons (keptV_lit) (.cons (keptV_sz) (.cons (keptV_tab (Nat.le_refl _)) (.nil)))))))) ?_
  clear H3 w3
  intro w4 H4
  refine ops_done ?_
  refine then_normal ?_
  refine wp_seq ?_
  refine flow_region (dsts := [some 21, some 22, some 23, some 24, some 11]) (refs := [[.pre 4], [.pre 5], [.pre 4], [.res 0, .res 1, .res 2], []]) (outs := [.res 3, .res 4, .pre 0, .pre 2, .pre 3, .pre 6, .pre 7]) (als := [false, false, false, false, true]) (posts := [.val (Lit (.int .i64 n)), .val (Lit (.int .i64 m)), .val (Lit (.int .i64 n)), .val (AL [.int .i64 n, .int .i64 m, .int .i64 n]), .box 62 3 (AL [.int .i64 0, .int .i64 0, .int .i64 0])])
    (out := [(24, .val (AL [.int .i64 n, .int .i64 m, .int .i64 n])), (11, .box 62 3 (AL [.int .i64 0, .int .i64 0, .int .i64 0])), (10, .box 61 3 (AL [.int .u32 b, .int .u32 c, .int .u32 b])), (9, .box 42 15 (IsBook w0.heap.size (fun _ => True) 0 0 ([]) 0)), (8, .val (IsB false)), (64, .val (Sz w0.heap.size)), (65, .val (TabV w0.heap.size))]) (nb := [11]) H4 5 [5] rfl (by kernel_rfl) rfl rfl ?_ ?_
  · refine .cons (.plain rfl (ok_move (.tmp 0 rfl))) ?_
    refine .cons (.plain rfl (ok_move (.tmp 0 rfl))) ?_
    refine .cons (.plain rfl (ok_move (.tmp 0 rfl))) ?_
    refine .cons (.plain rfl (ok_build3 (runA3i _ _ _ ) (.tmp 0 rfl) (.tmp 1 rfl) (.tmp 2 rfl))) ?_
    refine .cons (.plain rfl (ok_allocL zeroA3i rfl)) ?_
    exact .nil
  clear H4 a3 w4 B3
  intro a5 w5 B5 H5
  simp only [List.cons_append, List.nil_append] at H5
  refine ops_one ?_
  refine store_any (ks := [(24, .val (AL [.int .i64 n, .int .i64 m, .int .i64 n])), (10, .box 61 3 (AL [.int .u32 b, .int .u32 c, .int .u32 b])), (9, .box 42 15 (IsBook w0.heap.size (fun _ => True) 0 0 ([]) 0)), (8, .val (IsB false)), (64, .val (Sz w0.heap.size)), (65, .val (TabV w0.heap.size))]) 1 [0, 2, 3, 4, 5, 6] H5 rfl tyA3i rfl (.tmp 0 rfl) rfl (by simp [Value.oneCell']) rfl (by kernel_rfl) (.cons (keptV_lit) (.cons (keptV_boxLit) (.cons (keptV_book) (.cons (keptV_lit) (.cons (keptV_sz) (.cons (keptV_tab (Nat.le_refl _)) (.nil))))))) ?_
  clear H5 w5
  intro w6 H6
  refine ops_done ?_
  refine then_normal ?_
  refine wp_seq ?_
  refine wp_seq ?_
  have hz7 : w0.heap.size ≤ w6.heap.size := H6.fc.get 5 rfl
  obtain ⟨m8, hm8, hw8, hL8, H8⟩ := St.mark H6 908
  clear H6
  clear hL8
  replace hz7 : w0.heap.size ≤ m8 := Nat.le_trans hz7 hw8
  clear hw8
  have H9 := St.setwB H8 4 (D' := IsBook w0.heap.size (fun _ => True) m8 m8 ([]) 0) rfl (fun v h => book_empty v h) (l' := [(908, .val (Sz m8)), (11, .box 62 3 (AL [.int .i64 n, .int .i64 m, .int .i64 n])), (24, .val (AL [.int .i64 n, .int .i64 m, .int .i64 n])), (10, .box 61 3 (AL [.int .u32 b, .int .u32 c, .int .u32 b])), (9, .box 42 15 (IsBook w0.heap.size (fun _ => True) m8 m8 ([]) 0)), (8, .val (IsB false)), (64, .val (Sz w0.heap.size)), (65, .val (TabV w0.heap.size))]) rfl
  clear H8
  refine flow_region (dsts := [some 12]) (refs := [[]]) (outs := [.res 0, .pre 0, .pre 1, .pre 3, .pre 4, .pre 5, .pre 6, .pre 7]) (als := [false]) (posts := [.val (Lit (.int .i64 0))])
    (out := [(12, .val (Lit (.int .i64 0))), (908, .val (Sz m8)), (11, .box 62 3 (AL [.int .i64 n, .int .i64 m, .int .i64 n])), (10, .box 61 3 (AL [.int .u32 b, .int .u32 c, .int .u32 b])), (9, .box 42 15 (IsBook w0.heap.size (fun _ => True) m8 m8 ([]) 0)), (8, .val (IsB false)), (64, .val (Sz w0.heap.size)), (65, .val (TabV w0.heap.size))]) (nb := []) H9 1 [] rfl (by kernel_rfl) rfl rfl ?_ ?_
  · refine .cons (.plain rfl (ok_assign (.lit))) ?_
    exact .nil
  clear H9 a5 w6 B5
  intro a10 w10 B10 H10
  refine ops_done ?_
  refine then_normal ?_
  refine wp_block ?_
  refine wp_loop_rounds 4 ?_
  rw [rounds_succ]
  refine wp_seq ?_
  refine wp_seq ?_
  refine flow_region (dsts := [some 25, some 26]) (refs := [[.pre 0], [.res 0]]) (outs := [.res 0, .res 1, .pre 0, .pre 1, .pre 2, .pre 3, .pre 4, .pre 5, .pre 6, .pre 7]) (als := [false, false]) (posts := [.val (Lit (.int .i64 0)), .val (IsB true)])
    (out := [(25, .val (Lit (.int .i64 0))), (26, .val (IsB true)), (12, .val (Lit (.int .i64 0))), (908, .val (Sz m8)), (11, .box 62 3 (AL [.int .i64 n, .int .i64 m, .int .i64 n])), (10, .box 61 3 (AL [.int .u32 b, .int .u32 c, .int .u32 b])), (9, .box 42 15 (IsBook w0.heap.size (fun _ => True) m8 m8 ([]) 0)), (8, .val (IsB false)), (64, .val (Sz w0.heap.size)), (65, .val (TabV w0.heap.size))]) (nb := []) H10 2 [] rfl (by kernel_rfl) rfl rfl ?_ ?_
  · refine .cons (.plain rfl (ok_move (.tmp 0 rfl))) ?_
    refine .cons (.plain rfl (ok_cmp (b := true) (.tmp 0 rfl) (.lit) (by decide))) ?_
    exact .nil
  clear H10 a10 w10 B10
  intro a11 w11 B11 H11
  refine ops_done ?_
  refine then_normal ?_
  refine f_condT H11 (.tmp 1 rfl) ?_
  refine wp_skip ?_
  refine then_normal ?_
  refine wp_seq ?_
  refine wp_block ?_
  refine wp_seq ?_
  refine flow_drawT (dsts := [some 30, some 31, some 32, some 33, some 34, some 35, some 36, some 29, some 37, some 38, some 13, some 14]) (refs := [[.pre 2], [.pre 5, .res 0], [.res 1], [.pre 2], [.pre 4, .res 3], [.res 4], [.res 2, .res 5], [.res 6], [.res 7], [.res 7], [.res 8], [.res 9]]) (outs := [.res 0, .res 2, .res 3, .res 5, .res 6, .res 7, .res 8, .res 9, .res 10, .res 11, .pre 0, .pre 1, .pre 2, .pre 3, .pre 4, .pre 5, .pre 6, .pre 7, .pre 8, .pre 9]) (als := [false, false, false, false, false, false, false, false, false, false, false, false]) (posts := [.val (Lit (.int .i64 0)), .ptr 61 3 (AL [.int .u32 b, .int .u32 c, .int .u32 b]) 0, .val (Lit (.int .u32 b)), .val (Lit (.int .i64 0)), .ptr 62 3 (AL [.int .i64 n, .int .i64 m, .int .i64 n]) 0, .val (Lit (.int .i64 n)), .val (Tup [IsC (powNum b n), IsB (powOk b n)]), .val (Tup [IsC (powNum b n), IsB (powOk b n)]), .val (IsC (powNum b n)), .val (IsB (powOk b n)), .val (IsC (powNum b n)), .val (IsB (powOk b n))])
    (out := [(30, .val (Lit (.int .i64 0))), (32, .val (Lit (.int .u32 b))), (33, .val (Lit (.int .i64 0))), (35, .val (Lit (.int .i64 n))), (36, .val (Tup [IsC (powNum b n), IsB (powOk b n)])), (29, .val (Tup [IsC (powNum b n), IsB (powOk b n)])), (37, .val (IsC (powNum b n))), (38, .val (IsB (powOk b n))), (13, .val (IsC (powNum b n))), (14, .val (IsB (powOk b n))), (25, .val (Lit (.int .i64 0))), (26, .val (IsB true)), (12, .val (Lit (.int .i64 0))), (908, .val (Sz m8)), (11, .box 62 3 (AL [.int .i64 n, .int .i64 m, .int .i64 n])), (10, .box 61 3 (AL [.int .u32 b, .int .u32 c, .int .u32 b])), (9, .box 42 15 (IsBook w0.heap.size (fun _ => True) m8 m8 ([]) 0)), (8, .val (IsB false)), (64, .val (Sz w0.heap.size)), (65, .val (TabV w0.heap.size))]) (nb := []) H11 (by kernel_rfl) 12 0 #[true, true, true, true, true, true, true, true, true, true, true, true] (by kernel_rfl) (by kernel_rfl) rfl rfl ?_ ?_
  · refine .cons (.plain rfl (ok_move (.tmp 0 rfl))) ?_
    refine .cons (.plain rfl (ok_idxAL 0 (fun b w => idxA3w_0 b w) (.tmp 0 rfl) (.tmp 1 rfl))) ?_
    refine .cons (.plain rfl (ok_loadAL aggU32 rfl (by omega) (.tmp 0 rfl))) ?_
    refine .cons (.plain rfl (ok_move (.tmp 0 rfl))) ?_
    refine .cons (.plain rfl (ok_idxAL 0 (fun b w => idxA3i_0 b w) (.tmp 0 rfl) (.tmp 1 rfl))) ?_
    refine .cons (.plain rfl (ok_loadAL aggI64 rfl (by omega) (.tmp 0 rfl))) ?_
    refine .cons (.plain rfl (ok_call (con_r2pow b n hb) (.cons (.tmp 0 rfl) (.cons (.tmp 1 rfl) (.nil))))) ?_
    refine .cons (.plain rfl (ok_move (.tmp 0 rfl))) ?_
    refine .cons (.plain rfl (ok_extract 0 (.tmp 0 rfl) rfl)) ?_
    refine .cons (.plain rfl (ok_extract 1 (.tmp 0 rfl) rfl)) ?_
    refine .cons (.plain rfl (ok_assign (.tmp 0 rfl))) ?_
    refine .cons (.plain rfl (ok_assign (.tmp 0 rfl))) ?_
    exact .nil
  clear H11 a11 w11 B11
  intro a12 w12 B12 H12
  refine any_done (by kernel_rfl) ?_
  refine then_normal ?_
  refine wp_seq ?_
  refine flow_drawT (dsts := [some 40, some 41, some 42, some 43, some 44, some 45, some 46, some 39, some 47, some 48, some 15, some 16]) (refs := [[.pre 12], [.pre 15, .res 0], [.res 1], [.pre 12], [.pre 14, .res 3], [.res 4], [.res 2, .res 5, .pre 13, .pre 19], [.res 6], [.res 7], [.res 7], [.res 8], [.res 9]]) (outs := [.res 0, .res 2, .res 3, .res 5, .res 6, .res 7, .res 8, .res 9, .res 10, .res 11, .pre 0, .pre 1, .pre 2, .pre 3, .pre 4, .pre 5, .pre 6, .pre 7, .pre 8, .pre 9, .pre 10, .pre 11, .pre 12, .pre 13, .pre 14, .pre 15, .pre 16, .pre 17, .pre 18, .pre 19]) (als := [false, false, false, false, false, false, false, false, false, false, false, false]) (posts := [.val (Lit (.int .i64 0)), .ptr 61 3 (AL [.int .u32 b, .int .u32 c, .int .u32 b]) 0, .val (Lit (.int .u32 b)), .val (Lit (.int .i64 0)), .ptr 62 3 (AL [.int .i64 n, .int .i64 m, .int .i64 n]) 0, .val (Lit (.int .i64 n)), .val (IsFrB m8 (IsC (powNum b n)) (powOk b n)), .val (IsFrB m8 (IsC (powNum b n)) (powOk b n)), .val (IsFr m8 (IsC (powNum b n))), .val (IsB (powOk b n)), .val (IsFr m8 (IsC (powNum b n))), .val (IsB (powOk b n))])
    (out := [(40, .val (Lit (.int .i64 0))), (42, .val (Lit (.int .u32 b))), (43, .val (Lit (.int .i64 0))), (45, .val (Lit (.int .i64 n))), (46, .val (IsFrB m8 (IsC (powNum b n)) (powOk b n))), (39, .val (IsFrB m8 (IsC (powNum b n)) (powOk b n))), (47, .val (IsFr m8 (IsC (powNum b n)))), (48, .val (IsB (powOk b n))), (15, .val (IsFr m8 (IsC (powNum b n)))), (16, .val (IsB (powOk b n))), (30, .val (Lit (.int .i64 0))), (32, .val (Lit (.int .u32 b))), (33, .val (Lit (.int .i64 0))), (35, .val (Lit (.int .i64 n))), (36, .val (Tup [IsC (powNum b n), IsB (powOk b n)])), (29, .val (Tup [IsC (powNum b n), IsB (powOk b n)])), (37, .val (IsC (powNum b n))), (38, .val (IsB (powOk b n))), (13, .val (IsC (powNum b n))), (14, .val (IsB (powOk b n))), (25, .val (Lit (.int .i64 0))), (26, .val (IsB true)), (12, .val (Lit (.int .i64 0))), (908, .val (Sz m8)), (11, .box 62 3 (AL [.int .i64 n, .int .i64 m, .int .i64 n])), (10, .box 61 3 (AL [.int .u32 b, .int .u32 c, .int .u32 b])), (9, .box 42 15 (IsBook w0.heap.size (fun _ => True) m8 m8 ([]) 0)), (8, .val (IsB false)), (64, .val (Sz w0.heap.size)), (65, .val (TabV w0.heap.size))]) (nb := []) H12 (by kernel_rfl) 12 0 #[true, true, true, true, true, true, true, true, true, true, true, true] (by kernel_rfl) (by kernel_rfl) rfl rfl ?_ ?_
  · refine .cons (.plain rfl (ok_move (.tmp 0 rfl))) ?_
    refine .cons (.plain rfl (ok_idxAL 0 (fun b w => idxA3w_0 b w) (.tmp 0 rfl) (.tmp 1 rfl))) ?_
    refine .cons (.plain rfl (ok_loadAL aggU32 rfl (by omega) (.tmp 0 rfl))) ?_
    refine .cons (.plain rfl (ok_move (.tmp 0 rfl))) ?_
    refine .cons (.plain rfl (ok_idxAL 0 (fun b w => idxA3i_0 b w) (.tmp 0 rfl) (.tmp 1 rfl))) ?_
    refine .cons (.plain rfl (ok_loadAL aggI64 rfl (by omega) (.tmp 0 rfl))) ?_
    refine .cons (.plain rfl (ok_callT 2 3 (con_qpowF b n hb hn) rfl rfl (.cons (.tmp 0 rfl) (.cons (.tmp 1 rfl) (.nil))))) ?_
    refine .cons (.plain rfl (ok_move (.tmp 0 rfl))) ?_
    refine .cons (.plain rfl (ok_extFB0 (.tmp 0 rfl))) ?_
    refine .cons (.plain rfl (ok_extFB1 (.tmp 0 rfl))) ?_
    refine .cons (.plain rfl (ok_assign (.tmp 0 rfl))) ?_
    refine .cons (.plain rfl (ok_assign (.tmp 0 rfl))) ?_
    exact .nil
  clear H12 a12 w12 B12
  intro a13 w13 B13 H13
  refine any_done (by kernel_rfl) ?_
  refine then_normal ?_
  refine wp_seq ?_
  refine wp_seq ?_
  obtain ⟨g14, hg14, H14⟩ := St.nameF H13 8 rfl (l' := fun g14 => [(40, .val (Lit (.int .i64 0))), (42, .val (Lit (.int .u32 b))), (43, .val (Lit (.int .i64 0))), (45, .val (Lit (.int .i64 n))), (46, .val (IsFrB m8 (IsC (powNum b n)) (powOk b n))), (39, .val (IsFrB m8 (IsC (powNum b n)) (powOk b n))), (47, .val (IsFr m8 (IsC (powNum b n)))), (48, .val (IsB (powOk b n))), (15, .val (IsHd g14 (IsC (powNum b n)))), (16, .val (IsB (powOk b n))), (30, .val (Lit (.int .i64 0))), (32, .val (Lit (.int .u32 b))), (33, .val (Lit (.int .i64 0))), (35, .val (Lit (.int .i64 n))), (36, .val (Tup [IsC (powNum b n), IsB (powOk b n)])), (29, .val (Tup [IsC (powNum b n), IsB (powOk b n)])), (37, .val (IsC (powNum b n))), (38, .val (IsB (powOk b n))), (13, .val (IsC (powNum b n))), (14, .val (IsB (powOk b n))), (25, .val (Lit (.int .i64 0))), (26, .val (IsB true)), (12, .val (Lit (.int .i64 0))), (908, .val (Sz m8)), (11, .box 62 3 (AL [.int .i64 n, .int .i64 m, .int .i64 n])), (10, .box 61 3 (AL [.int .u32 b, .int .u32 c, .int .u32 b])), (9, .box 42 15 (IsBook w0.heap.size (fun _ => True) m8 m8 ([]) 0)), (8, .val (IsB false)), (64, .val (Sz w0.heap.size)), (65, .val (TabV w0.heap.size))]) (fun _ => rfl)
  clear H13
  replace H14 : St 64 w0 B0 a13 w13 B13 [(40, .val (Lit (.int .i64 0))), (42, .val (Lit (.int .u32 b))), (43, .val (Lit (.int .i64 0))), (45, .val (Lit (.int .i64 n))), (46, .val (IsFrB m8 (IsC (powNum b n)) (powOk b n))), (39, .val (IsFrB m8 (IsC (powNum b n)) (powOk b n))), (47, .val (IsFr m8 (IsC (powNum b n)))), (48, .val (IsB (powOk b n))), (15, .val (IsHd g14 (IsC (powNum b n)))), (16, .val (IsB (powOk b n))), (30, .val (Lit (.int .i64 0))), (32, .val (Lit (.int .u32 b))), (33, .val (Lit (.int .i64 0))), (35, .val (Lit (.int .i64 n))), (36, .val (Tup [IsC (powNum b n), IsB (powOk b n)])), (29, .val (Tup [IsC (powNum b n), IsB (powOk b n)])), (37, .val (IsC (powNum b n))), (38, .val (IsB (powOk b n))), (13, .val (IsC (powNum b n))), (14, .val (IsB (powOk b n))), (25, .val (Lit (.int .i64 0))), (26, .val (IsB true)), (12, .val (Lit (.int .i64 0))), (908, .val (Sz m8)), (11, .box 62 3 (AL [.int .i64 n, .int .i64 m, .int .i64 n])), (10, .box 61 3 (AL [.int .u32 b, .int .u32 c, .int .u32 b])), (9, .box 42 15 (IsBook w0.heap.size (fun _ => True) m8 m8 ([]) 0)), (8, .val (IsB false)), (64, .val (Sz w0.heap.size)), (65, .val (TabV w0.heap.size))] [11, 10, 9] := H14
  have hz15 : m8 ≤ w13.heap.size := H14.fc.get 23 rfl
  obtain ⟨m16, hm16, hw16, hL16, H16⟩ := St.mark H14 916
  clear H14
  clear hL16
  replace hz15 : m8 ≤ m16 := Nat.le_trans hz15 hw16
  replace hg14 : ∀ b, g14 = some b → m8 ≤ b ∧ b < m16 := fun b hb => ⟨(hg14 b hb).1, Nat.lt_of_lt_of_le (hg14 b hb).2 hw16⟩
  clear hw16
  refine flow_region (dsts := [some 49, some 50, some 51, some 52, some 53, some 54, some 55, some 56, some 57]) (refs := [[.pre 20], [.pre 10], [.res 0, .res 1], [.res 2], [.res 3, .pre 9], [.res 3, .pre 19], [.res 3, .res 4, .res 5], [.res 3, .res 6], [.res 3, .res 7]]) (outs := [.res 0, .res 1, .res 2, .res 3, .res 4, .res 5, .res 6, .res 7, .res 8, .pre 0, .pre 1, .pre 2, .pre 3, .pre 4, .pre 5, .pre 6, .pre 7, .pre 8, .pre 9, .pre 10, .pre 11, .pre 12, .pre 13, .pre 14, .pre 15, .pre 16, .pre 17, .pre 18, .pre 19, .pre 20, .pre 21, .pre 22, .pre 23, .pre 24, .pre 25, .pre 26, .pre 27, .pre 28, .pre 29, .pre 30]) (als := [false, false, false, false, false, false, false, false, false]) (posts := [.val (IsB (powOk b n)), .val (IsB (powOk b n)), .val (IsB false), .val (IsB false), .val (IsHd g14 (IsC (powNum b n))), .val (IsC (powNum b n)), .val (IsB true), .val (IsB false), .val (IsB false)])
    (out := [(49, .val (IsB (powOk b n))), (50, .val (IsB (powOk b n))), (51, .val (IsB false)), (52, .val (IsB false)), (53, .val (IsHd g14 (IsC (powNum b n)))), (54, .val (IsC (powNum b n))), (55, .val (IsB true)), (56, .val (IsB false)), (57, .val (IsB false)), (916, .val (Sz m16)), (40, .val (Lit (.int .i64 0))), (42, .val (Lit (.int .u32 b))), (43, .val (Lit (.int .i64 0))), (45, .val (Lit (.int .i64 n))), (46, .val (IsFrB m8 (IsC (powNum b n)) (powOk b n))), (39, .val (IsFrB m8 (IsC (powNum b n)) (powOk b n))), (47, .val (IsFr m8 (IsC (powNum b n)))), (48, .val (IsB (powOk b n))), (15, .val (IsHd g14 (IsC (powNum b n)))), (16, .val (IsB (powOk b n))), (30, .val (Lit (.int .i64 0))), (32, .val (Lit (.int .u32 b))), (33, .val (Lit (.int .i64 0))), (35, .val (Lit (.int .i64 n))), (36, .val (Tup [IsC (powNum b n), IsB (powOk b n)])), (29, .val (Tup [IsC (powNum b n), IsB (powOk b n)])), (37, .val (IsC (powNum b n))), (38, .val (IsB (powOk b n))), (13, .val (IsC (powNum b n))), (14, .val (IsB (powOk b n))), (25, .val (Lit (.int .i64 0))), (26, .val (IsB true)), (12, .val (Lit (.int .i64 0))), (908, .val (Sz m8)), (11, .box 62 3 (AL [.int .i64 n, .int .i64 m, .int .i64 n])), (10, .box 61 3 (AL [.int .u32 b, .int .u32 c, .int .u32 b])), (9, .box 42 15 (IsBook w0.heap.size (fun _ => True) m8 m8 ([]) 0)), (8, .val (IsB false)), (64, .val (Sz w0.heap.size)), (65, .val (TabV w0.heap.size))]) (nb := []) H16 9 [] rfl (by kernel_rfl) rfl rfl ?_ ?_
  · refine .cons (.plain rfl (ok_move (.tmp 0 rfl))) ?_
    refine .cons (.plain rfl (ok_move (.tmp 0 rfl))) ?_
    refine .cons (.plain rfl (OpOk.eqB (b := (powOk b n) != (powOk b n)) (ok_neB Tryz.underlying4 (.tmp 0 rfl) (.tmp 1 rfl)) (bne_self_eq_false _))) ?_
    refine .cons (.plain rfl (ok_move (.tmp 0 rfl))) ?_
    refine .cons (.wanted 3 false rfl rfl rfl 0 rfl (ok_move (.tmp 1 rfl))) ?_
    refine .cons (.wanted 3 false rfl rfl rfl 0 rfl (ok_move (.tmp 1 rfl))) ?_
    refine .cons (.wanted 3 false rfl rfl rfl 0 rfl (ok_call (con_sameC (powNum b n)) (.cons (.weak (.tmp 1 rfl) weakHd) (.cons (.tmp 2 rfl) (.nil))))) ?_
    refine .cons (.wanted 3 false rfl rfl rfl 0 rfl (ok_not (b := true) (.tmp 1 rfl))) ?_
    refine .cons (.plain rfl (ok_pickF (.tmp 0 rfl) (.tmp 1 rfl))) ?_
    exact .nil
  clear H16 a13 w13 B13
  intro a17 w17 B17 H17
  refine ops_done ?_
  refine then_normal ?_
  refine f_condF H17 (.tmp 8 rfl) ?_
  refine wp_skip ?_
  refine then_normal ?_
  refine flow_region (dsts := [some 58]) (refs := [[.pre 18]]) (outs := [.res 0, .pre 0, .pre 1, .pre 2, .pre 3, .pre 4, .pre 5, .pre 6, .pre 7, .pre 8, .pre 9, .pre 10, .pre 11, .pre 12, .pre 13, .pre 14, .pre 15, .pre 16, .pre 17, .pre 18, .pre 19, .pre 20, .pre 21, .pre 22, .pre 23, .pre 24, .pre 25, .pre 26, .pre 27, .pre 28, .pre 29, .pre 30, .pre 31, .pre 32, .pre 33, .pre 34, .pre 35, .pre 36, .pre 37, .pre 38, .pre 39]) (als := [false]) (posts := [.val (IsHd g14 (IsC (powNum b n)))])
    (out := [(58, .val (IsHd g14 (IsC (powNum b n)))), (49, .val (IsB (powOk b n))), (50, .val (IsB (powOk b n))), (51, .val (IsB false)), (52, .val (IsB false)), (53, .val (IsHd g14 (IsC (powNum b n)))), (54, .val (IsC (powNum b n))), (55, .val (IsB true)), (56, .val (IsB false)), (57, .val (IsB false)), (916, .val (Sz m16)), (40, .val (Lit (.int .i64 0))), (42, .val (Lit (.int .u32 b))), (43, .val (Lit (.int .i64 0))), (45, .val (Lit (.int .i64 n))), (46, .val (IsFrB m8 (IsC (powNum b n)) (powOk b n))), (39, .val (IsFrB m8 (IsC (powNum b n)) (powOk b n))), (47, .val (IsFr m8 (IsC (powNum b n)))), (48, .val (IsB (powOk b n))), (15, .val (IsHd g14 (IsC (powNum b n)))), (16, .val (IsB (powOk b n))), (30, .val (Lit (.int .i64 0))), (32, .val (Lit (.int .u32 b))), (33, .val (Lit (.int .i64 0))), (35, .val (Lit (.int .i64 n))), (36, .val (Tup [IsC (powNum b n), IsB (powOk b n)])), (29, .val (Tup [IsC (powNum b n), IsB (powOk b n)])), (37, .val (IsC (powNum b n))), (38, .val (IsB (powOk b n))), (13, .val (IsC (powNum b n))), (14, .val (IsB (powOk b n))), (25, .val (Lit (.int .i64 0))), (26, .val (IsB true)), (12, .val (Lit (.int .i64 0))), (908, .val (Sz m8)), (11, .box 62 3 (AL [.int .i64 n, .int .i64 m, .int .i64 n])), (10, .box 61 3 (AL [.int .u32 b, .int .u32 c, .int .u32 b])), (9, .box 42 15 (IsBook w0.heap.size (fun _ => True) m8 m8 ([]) 0)), (8, .val (IsB false)), (64, .val (Sz w0.heap.size)), (65, .val (TabV w0.heap.size))]) (nb := []) H17 1 [1] rfl (by kernel_rfl) rfl rfl ?_ ?_
  · refine .cons (.plain rfl (ok_move (.tmp 0 rfl))) ?_
    exact .nil
  clear H17 a17 w17 B17
  intro a18 w18 B18 H18
  refine ops_one ?_
  have hk19 : ∀ b, g14 = some b → w0.heap.size ≤ b ∧ ¬ (m8 ≤ b ∧ b < m8) ∧ some b ∉ ([] : List (Option Nat)) := fun b hb => ⟨by have := hg14 b hb; omega, fun hx => by have := hg14 b hb; omega, by simp⟩
  refine keep_op (cnt := 0) (ks := [(58, .val (IsHd g14 (IsC (powNum b n)))), (49, .val (IsB (powOk b n))), (50, .val (IsB (powOk b n))), (51, .val (IsB false)), (52, .val (IsB false)), (53, .val (IsHd g14 (IsC (powNum b n)))), (55, .val (IsB true)), (56, .val (IsB false)), (57, .val (IsB false)), (916, .val (Sz m16)), (40, .val (Lit (.int .i64 0))), (42, .val (Lit (.int .u32 b))), (43, .val (Lit (.int .i64 0))), (45, .val (Lit (.int .i64 n))), (48, .val (IsB (powOk b n))), (15, .val (IsHd g14 (IsC (powNum b n)))), (16, .val (IsB (powOk b n))), (30, .val (Lit (.int .i64 0))), (32, .val (Lit (.int .u32 b))), (33, .val (Lit (.int .i64 0))), (35, .val (Lit (.int .i64 n))), (38, .val (IsB (powOk b n))), (14, .val (IsB (powOk b n))), (25, .val (Lit (.int .i64 0))), (26, .val (IsB true)), (12, .val (Lit (.int .i64 0))), (908, .val (Sz m8)), (11, .box 62 3 (AL [.int .i64 n, .int .i64 m, .int .i64 n])), (10, .box 61 3 (AL [.int .u32 b, .int .u32 c, .int .u32 b])), (8, .val (IsB false)), (64, .val (Sz w0.heap.size)), (65, .val (TabV w0.heap.size))]) (l' := [(9, .box 42 15 (IsBook w0.heap.size (fun _ => True) m8 m8 ([g14]) 1)), (58, .val (IsHd g14 (IsC (powNum b n)))), (49, .val (IsB (powOk b n))), (50, .val (IsB (powOk b n))), (51, .val (IsB false)), (52, .val (IsB false)), (53, .val (IsHd g14 (IsC (powNum b n)))), (55, .val (IsB true)), (56, .val (IsB false)), (57, .val (IsB false)), (916, .val (Sz m16)), (40, .val (Lit (.int .i64 0))), (42, .val (Lit (.int .u32 b))), (43, .val (Lit (.int .i64 0))), (45, .val (Lit (.int .i64 n))), (48, .val (IsB (powOk b n))), (15, .val (IsHd g14 (IsC (powNum b n)))), (16, .val (IsB (powOk b n))), (30, .val (Lit (.int .i64 0))), (32, .val (Lit (.int .u32 b))), (33, .val (Lit (.int .i64 0))), (35, .val (Lit (.int .i64 n))), (38, .val (IsB (powOk b n))), (14, .val (IsB (powOk b n))), (25, .val (Lit (.int .i64 0))), (26, .val (IsB true)), (12, .val (Lit (.int .i64 0))), (908, .val (Sz m8)), (11, .box 62 3 (AL [.int .i64 n, .int .i64 m, .int .i64 n])), (10, .box 61 3 (AL [.int .u32 b, .int .u32 c, .int .u32 b])), (8, .val (IsB false)), (64, .val (Sz w0.heap.size)), (65, .val (TabV w0.heap.size))]) 37 [0, 1, 2, 3, 4, 5, 7, 8, 9, 10, 11, 12, 13, 14, 18, 19, 20, 21, 22, 23, 24, 28, 30, 31, 32, 33, 34, 35, 36, 38, 39, 40] H18 rfl (fun _ _ => by go_simp) keep_nat rfl (rfl) (.tmp 0 rfl) (by omega) (fun _ _ => trivial) hk19 rfl (by kernel_rfl) (.cons (keptB_hd loc_C) (.cons (keptB_lit) (.cons (keptB_lit) (.cons (keptB_lit) (.cons (keptB_lit) (.cons (keptB_hd loc_C) (.cons (keptB_lit) (.cons (keptB_lit) (.cons (keptB_lit) (.cons (keptB_sz) (.cons (keptB_lit) (.cons (keptB_lit) (.cons (keptB_lit) (.cons (keptB_lit) (.cons (keptB_lit) (.cons (keptB_hd loc_C) (.cons (keptB_lit) (.cons (keptB_lit) (.cons (keptB_lit) (.cons (keptB_lit) (.cons (keptB_lit) (.cons (keptB_lit) (.cons (keptB_lit) (.cons (keptB_lit) (.cons (keptB_lit) (.cons (keptB_lit) (.cons (keptB_sz) (.cons (keptB_box (by decide) keptB_lit) (.cons (keptB_box (by decide) keptB_lit) (.cons (keptB_lit) (.cons (keptB_sz) (.cons (keptB_tab (Nat.le_refl _)) (.nil))))))))))))))))))))))))))))))))) (by decide) rfl ?_
  clear H18 hk19 a18 w18 B18
  intro a19 w19 B19 H19
  refine ops_done ?_
  refine block_normal ?_
  refine then_normal ?_
  refine flow_region (dsts := [some 27, some 28]) (refs := [[.pre 26], [.res 0]]) (outs := [.res 0, .res 1, .pre 0, .pre 1, .pre 2, .pre 3, .pre 4, .pre 5, .pre 6, .pre 7, .pre 8, .pre 9, .pre 10, .pre 11, .pre 12, .pre 13, .pre 14, .pre 15, .pre 16, .pre 17, .pre 18, .pre 19, .pre 20, .pre 21, .pre 22, .pre 23, .pre 24, .pre 25, .pre 26, .pre 27, .pre 28, .pre 29, .pre 30, .pre 31, .pre 32]) (als := [false, false]) (posts := [.val (Lit (.int .i64 0)), .val (Lit (.int .i64 1))])
    (out := [(27, .val (Lit (.int .i64 0))), (28, .val (Lit (.int .i64 1))), (9, .box 42 15 (IsBook w0.heap.size (fun _ => True) m8 m8 ([g14]) 1)), (58, .val (IsHd g14 (IsC (powNum b n)))), (49, .val (IsB (powOk b n))), (50, .val (IsB (powOk b n))), (51, .val (IsB false)), (52, .val (IsB false)), (53, .val (IsHd g14 (IsC (powNum b n)))), (55, .val (IsB true)), (56, .val (IsB false)), (57, .val (IsB false)), (916, .val (Sz m16)), (40, .val (Lit (.int .i64 0))), (42, .val (Lit (.int .u32 b))), (43, .val (Lit (.int .i64 0))), (45, .val (Lit (.int .i64 n))), (48, .val (IsB (powOk b n))), (15, .val (IsHd g14 (IsC (powNum b n)))), (16, .val (IsB (powOk b n))), (30, .val (Lit (.int .i64 0))), (32, .val (Lit (.int .u32 b))), (33, .val (Lit (.int .i64 0))), (35, .val (Lit (.int .i64 n))), (38, .val (IsB (powOk b n))), (14, .val (IsB (powOk b n))), (25, .val (Lit (.int .i64 0))), (26, .val (IsB true)), (12, .val (Lit (.int .i64 0))), (908, .val (Sz m8)), (11, .box 62 3 (AL [.int .i64 n, .int .i64 m, .int .i64 n])), (10, .box 61 3 (AL [.int .u32 b, .int .u32 c, .int .u32 b])), (8, .val (IsB false)), (64, .val (Sz w0.heap.size)), (65, .val (TabV w0.heap.size))]) (nb := []) H19 2 [2] rfl (by kernel_rfl) rfl rfl ?_ ?_
  · refine .cons (.plain rfl (ok_move (.tmp 0 rfl))) ?_
    refine .cons (.plain rfl (ok_add (r := 1) (.tmp 0 rfl) (.lit) (by decide))) ?_
    exact .nil
  clear H19 a19 w19 B19
  intro a20 w20 B20 H20
  refine ops_one ?_
  refine tail_op (D := .val (Lit (.int .i64 1))) (l' := [(12, .val (Lit (.int .i64 1))), (27, .val (Lit (.int .i64 0))), (28, .val (Lit (.int .i64 1))), (9, .box 42 15 (IsBook w0.heap.size (fun _ => True) m8 m8 ([g14]) 1)), (58, .val (IsHd g14 (IsC (powNum b n)))), (49, .val (IsB (powOk b n))), (50, .val (IsB (powOk b n))), (51, .val (IsB false)), (52, .val (IsB false)), (53, .val (IsHd g14 (IsC (powNum b n)))), (55, .val (IsB true)), (56, .val (IsB false)), (57, .val (IsB false)), (916, .val (Sz m16)), (40, .val (Lit (.int .i64 0))), (42, .val (Lit (.int .u32 b))), (43, .val (Lit (.int .i64 0))), (45, .val (Lit (.int .i64 n))), (48, .val (IsB (powOk b n))), (15, .val (IsHd g14 (IsC (powNum b n)))), (16, .val (IsB (powOk b n))), (30, .val (Lit (.int .i64 0))), (32, .val (Lit (.int .u32 b))), (33, .val (Lit (.int .i64 0))), (35, .val (Lit (.int .i64 n))), (38, .val (IsB (powOk b n))), (14, .val (IsB (powOk b n))), (25, .val (Lit (.int .i64 0))), (26, .val (IsB true)), (908, .val (Sz m8)), (11, .box 62 3 (AL [.int .i64 n, .int .i64 m, .int .i64 n])), (10, .box 61 3 (AL [.int .u32 b, .int .u32 c, .int .u32 b])), (8, .val (IsB false)), (64, .val (Sz w0.heap.size)), (65, .val (TabV w0.heap.size))]) H20 rfl rfl rfl (.plain rfl (ok_assign (.tmp 1 rfl))) rfl rfl ?_
  clear H20 a20 w20 B20
  intro a21 w21 B21 H21
  refine ops_done ?_
  refine then_normal ?_
  rw [rounds_succ]
  refine wp_seq ?_
  refine wp_seq ?_
  refine flow_region (dsts := [some 25, some 26]) (refs := [[.pre 0], [.res 0]]) (outs := [.res 0, .res 1, .pre 0, .pre 1, .pre 2, .pre 3, .pre 4, .pre 5, .pre 6, .pre 7, .pre 8, .pre 9, .pre 10, .pre 11, .pre 12, .pre 13, .pre 14, .pre 15, .pre 16, .pre 17, .pre 18, .pre 19, .pre 20, .pre 21, .pre 22, .pre 23, .pre 24, .pre 25, .pre 26, .pre 29, .pre 30, .pre 31, .pre 32, .pre 33, .pre 34]) (als := [false, false]) (posts := [.val (Lit (.int .i64 1)), .val (IsB true)])
    (out := [(25, .val (Lit (.int .i64 1))), (26, .val (IsB true)), (12, .val (Lit (.int .i64 1))), (27, .val (Lit (.int .i64 0))), (28, .val (Lit (.int .i64 1))), (9, .box 42 15 (IsBook w0.heap.size (fun _ => True) m8 m8 ([g14]) 1)), (58, .val (IsHd g14 (IsC (powNum b n)))), (49, .val (IsB (powOk b n))), (50, .val (IsB (powOk b n))), (51, .val (IsB false)), (52, .val (IsB false)), (53, .val (IsHd g14 (IsC (powNum b n)))), (55, .val (IsB true)), (56, .val (IsB false)), (57, .val (IsB false)), (916, .val (Sz m16)), (40, .val (Lit (.int .i64 0))), (42, .val (Lit (.int .u32 b))), (43, .val (Lit (.int .i64 0))), (45, .val (Lit (.int .i64 n))), (48, .val (IsB (powOk b n))), (15, .val (IsHd g14 (IsC (powNum b n)))), (16, .val (IsB (powOk b n))), (30, .val (Lit (.int .i64 0))), (32, .val (Lit (.int .u32 b))), (33, .val (Lit (.int .i64 0))), (35, .val (Lit (.int .i64 n))), (38, .val (IsB (powOk b n))), (14, .val (IsB (powOk b n))), (908, .val (Sz m8)), (11, .box 62 3 (AL [.int .i64 n, .int .i64 m, .int .i64 n])), (10, .box 61 3 (AL [.int .u32 b, .int .u32 c, .int .u32 b])), (8, .val (IsB false)), (64, .val (Sz w0.heap.size)), (65, .val (TabV w0.heap.size))]) (nb := []) H21 2 [] rfl (by kernel_rfl) rfl rfl ?_ ?_
  · refine .cons (.plain rfl (ok_move (.tmp 0 rfl))) ?_
    refine .cons (.plain rfl (ok_cmp (b := true) (.tmp 0 rfl) (.lit) (by decide))) ?_
    exact .nil
  clear H21 a21 w21 B21
  intro a22 w22 B22 H22
  refine ops_done ?_
  refine then_normal ?_
  refine f_condT H22 (.tmp 1 rfl) ?_
  refine wp_skip ?_
  refine then_normal ?_
  refine wp_seq ?_
  refine wp_block ?_
  refine wp_seq ?_
  refine flow_drawT (dsts := [some 30, some 31, some 32, some 33, some 34, some 35, some 36, some 29, some 37, some 38, some 13, some 14]) (refs := [[.pre 2], [.pre 31, .res 0], [.res 1], [.pre 2], [.pre 30, .res 3], [.res 4], [.res 2, .res 5], [.res 6], [.res 7], [.res 7], [.res 8], [.res 9]]) (outs := [.res 0, .res 2, .res 3, .res 5, .res 6, .res 7, .res 8, .res 9, .res 10, .res 11, .pre 0, .pre 1, .pre 2, .pre 3, .pre 4, .pre 5, .pre 6, .pre 7, .pre 8, .pre 9, .pre 10, .pre 11, .pre 12, .pre 13, .pre 14, .pre 15, .pre 16, .pre 17, .pre 18, .pre 19, .pre 20, .pre 21, .pre 22, .pre 29, .pre 30, .pre 31, .pre 32, .pre 33, .pre 34]) (als := [false, false, false, false, false, false, false, false, false, false, false, false]) (posts := [.val (Lit (.int .i64 1)), .ptr 61 3 (AL [.int .u32 b, .int .u32 c, .int .u32 b]) 1, .val (Lit (.int .u32 c)), .val (Lit (.int .i64 1)), .ptr 62 3 (AL [.int .i64 n, .int .i64 m, .int .i64 n]) 1, .val (Lit (.int .i64 m)), .val (Tup [IsC (powNum c m), IsB (powOk c m)]), .val (Tup [IsC (powNum c m), IsB (powOk c m)]), .val (IsC (powNum c m)), .val (IsB (powOk c m)), .val (IsC (powNum c m)), .val (IsB (powOk c m))])
    (out := [(30, .val (Lit (.int .i64 1))), (32, .val (Lit (.int .u32 c))), (33, .val (Lit (.int .i64 1))), (35, .val (Lit (.int .i64 m))), (36, .val (Tup [IsC (powNum c m), IsB (powOk c m)])), (29, .val (Tup [IsC (powNum c m), IsB (powOk c m)])), (37, .val (IsC (powNum c m))), (38, .val (IsB (powOk c m))), (13, .val (IsC (powNum c m))), (14, .val (IsB (powOk c m))), (25, .val (Lit (.int .i64 1))), (26, .val (IsB true)), (12, .val (Lit (.int .i64 1))), (27, .val (Lit (.int .i64 0))), (28, .val (Lit (.int .i64 1))), (9, .box 42 15 (IsBook w0.heap.size (fun _ => True) m8 m8 ([g14]) 1)), (58, .val (IsHd g14 (IsC (powNum b n)))), (49, .val (IsB (powOk b n))), (50, .val (IsB (powOk b n))), (51, .val (IsB false)), (52, .val (IsB false)), (53, .val (IsHd g14 (IsC (powNum b n)))), (55, .val (IsB true)), (56, .val (IsB false)), (57, .val (IsB false)), (916, .val (Sz m16)), (40, .val (Lit (.int .i64 0))), (42, .val (Lit (.int .u32 b))), (43, .val (Lit (.int .i64 0))), (45, .val (Lit (.int .i64 n))), (48, .val (IsB (powOk b n))), (15, .val (IsHd g14 (IsC (powNum b n)))), (16, .val (IsB (powOk b n))), (908, .val (Sz m8)), (11, .box 62 3 (AL [.int .i64 n, .int .i64 m, .int .i64 n])), (10, .box 61 3 (AL [.int .u32 b, .int .u32 c, .int .u32 b])), (8, .val (IsB false)), (64, .val (Sz w0.heap.size)), (65, .val (TabV w0.heap.size))]) (nb := []) H22 (by kernel_rfl) 12 0 #[true, true, true, true, true, true, true, true, true, true, true, true] (by kernel_rfl) (by kernel_rfl) rfl rfl ?_ ?_
  · refine .cons (.plain rfl (ok_move (.tmp 0 rfl))) ?_
    refine .cons (.plain rfl (ok_idxAL 1 (fun b w => idxA3w_1 b w) (.tmp 0 rfl) (.tmp 1 rfl))) ?_
    refine .cons (.plain rfl (ok_loadAL aggU32 rfl (by omega) (.tmp 0 rfl))) ?_
    refine .cons (.plain rfl (ok_move (.tmp 0 rfl))) ?_
    refine .cons (.plain rfl (ok_idxAL 1 (fun b w => idxA3i_1 b w) (.tmp 0 rfl) (.tmp 1 rfl))) ?_
    refine .cons (.plain rfl (ok_loadAL aggI64 rfl (by omega) (.tmp 0 rfl))) ?_
    refine .cons (.plain rfl (ok_call (con_r2pow c m hc) (.cons (.tmp 0 rfl) (.cons (.tmp 1 rfl) (.nil))))) ?_
    refine .cons (.plain rfl (ok_move (.tmp 0 rfl))) ?_
    refine .cons (.plain rfl (ok_extract 0 (.tmp 0 rfl) rfl)) ?_
    refine .cons (.plain rfl (ok_extract 1 (.tmp 0 rfl) rfl)) ?_
    refine .cons (.plain rfl (ok_assign (.tmp 0 rfl))) ?_
    refine .cons (.plain rfl (ok_assign (.tmp 0 rfl))) ?_
    exact .nil
  clear H22 a22 w22 B22
  intro a23 w23 B23 H23
  refine any_done (by kernel_rfl) ?_
  refine then_normal ?_
  refine wp_seq ?_
  have hz24 : m16 ≤ w23.heap.size := H23.fc.get 25 rfl
  obtain ⟨m25, hm25, hw25, hL25, H25⟩ := St.mark H23 925
  clear H23
  clear hL25
  replace hz24 : m16 ≤ m25 := Nat.le_trans hz24 hw25
  have H26 := St.rebook H25 16 rfl hw25 (by intro b hb; simp only [List.mem_cons, List.not_mem_nil, or_false] at hb; first | (have := hg14 b hb.symm; omega)) (l' := [(925, .val (Sz m25)), (30, .val (Lit (.int .i64 1))), (32, .val (Lit (.int .u32 c))), (33, .val (Lit (.int .i64 1))), (35, .val (Lit (.int .i64 m))), (36, .val (Tup [IsC (powNum c m), IsB (powOk c m)])), (29, .val (Tup [IsC (powNum c m), IsB (powOk c m)])), (37, .val (IsC (powNum c m))), (38, .val (IsB (powOk c m))), (13, .val (IsC (powNum c m))), (14, .val (IsB (powOk c m))), (25, .val (Lit (.int .i64 1))), (26, .val (IsB true)), (12, .val (Lit (.int .i64 1))), (27, .val (Lit (.int .i64 0))), (28, .val (Lit (.int .i64 1))), (9, .box 42 15 (IsBook w0.heap.size (fun _ => True) m8 m25 ([]) 1)), (58, .val (IsHd g14 (IsC (powNum b n)))), (49, .val (IsB (powOk b n))), (50, .val (IsB (powOk b n))), (51, .val (IsB false)), (52, .val (IsB false)), (53, .val (IsHd g14 (IsC (powNum b n)))), (55, .val (IsB true)), (56, .val (IsB false)), (57, .val (IsB false)), (916, .val (Sz m16)), (40, .val (Lit (.int .i64 0))), (42, .val (Lit (.int .u32 b))), (43, .val (Lit (.int .i64 0))), (45, .val (Lit (.int .i64 n))), (48, .val (IsB (powOk b n))), (15, .val (IsHd g14 (IsC (powNum b n)))), (16, .val (IsB (powOk b n))), (908, .val (Sz m8)), (11, .box 62 3 (AL [.int .i64 n, .int .i64 m, .int .i64 n])), (10, .box 61 3 (AL [.int .u32 b, .int .u32 c, .int .u32 b])), (8, .val (IsB false)), (64, .val (Sz w0.heap.size)), (65, .val (TabV w0.heap.size))]) rfl
  clear H25 hw25
  refine flow_drawT (dsts := [some 40, some 41, some 42, some 43, some 44, some 45, some 46, some 39, some 47, some 48, some 15, some 16]) (refs := [[.pre 13], [.pre 36, .res 0], [.res 1], [.pre 13], [.pre 35, .res 3], [.res 4], [.res 2, .res 5, .pre 0, .pre 39], [.res 6], [.res 7], [.res 7], [.res 8], [.res 9]]) (outs := [.res 0, .res 2, .res 3, .res 5, .res 6, .res 7, .res 8, .res 9, .res 10, .res 11, .pre 0, .pre 1, .pre 2, .pre 3, .pre 4, .pre 5, .pre 6, .pre 7, .pre 8, .pre 9, .pre 10, .pre 11, .pre 12, .pre 13, .pre 14, .pre 15, .pre 16, .pre 17, .pre 18, .pre 19, .pre 20, .pre 21, .pre 22, .pre 23, .pre 24, .pre 25, .pre 26, .pre 34, .pre 35, .pre 36, .pre 37, .pre 38, .pre 39]) (als := [false, false, false, false, false, false, false, false, false, false, false, false]) (posts := [.val (Lit (.int .i64 1)), .ptr 61 3 (AL [.int .u32 b, .int .u32 c, .int .u32 b]) 1, .val (Lit (.int .u32 c)), .val (Lit (.int .i64 1)), .ptr 62 3 (AL [.int .i64 n, .int .i64 m, .int .i64 n]) 1, .val (Lit (.int .i64 m)), .val (IsFrB m25 (IsC (powNum c m)) (powOk c m)), .val (IsFrB m25 (IsC (powNum c m)) (powOk c m)), .val (IsFr m25 (IsC (powNum c m))), .val (IsB (powOk c m)), .val (IsFr m25 (IsC (powNum c m))), .val (IsB (powOk c m))])
    (out := [(40, .val (Lit (.int .i64 1))), (42, .val (Lit (.int .u32 c))), (43, .val (Lit (.int .i64 1))), (45, .val (Lit (.int .i64 m))), (46, .val (IsFrB m25 (IsC (powNum c m)) (powOk c m))), (39, .val (IsFrB m25 (IsC (powNum c m)) (powOk c m))), (47, .val (IsFr m25 (IsC (powNum c m)))), (48, .val (IsB (powOk c m))), (15, .val (IsFr m25 (IsC (powNum c m)))), (16, .val (IsB (powOk c m))), (925, .val (Sz m25)), (30, .val (Lit (.int .i64 1))), (32, .val (Lit (.int .u32 c))), (33, .val (Lit (.int .i64 1))), (35, .val (Lit (.int .i64 m))), (36, .val (Tup [IsC (powNum c m), IsB (powOk c m)])), (29, .val (Tup [IsC (powNum c m), IsB (powOk c m)])), (37, .val (IsC (powNum c m))), (38, .val (IsB (powOk c m))), (13, .val (IsC (powNum c m))), (14, .val (IsB (powOk c m))), (25, .val (Lit (.int .i64 1))), (26, .val (IsB true)), (12, .val (Lit (.int .i64 1))), (27, .val (Lit (.int .i64 0))), (28, .val (Lit (.int .i64 1))), (9, .box 42 15 (IsBook w0.heap.size (fun _ => True) m8 m25 ([]) 1)), (58, .val (IsHd g14 (IsC (powNum b n)))), (49, .val (IsB (powOk b n))), (50, .val (IsB (powOk b n))), (51, .val (IsB false)), (52, .val (IsB false)), (53, .val (IsHd g14 (IsC (powNum b n)))), (55, .val (IsB true)), (56, .val (IsB false)), (57, .val (IsB false)), (916, .val (Sz m16)), (908, .val (Sz m8)), (11, .box 62 3 (AL [.int .i64 n, .int .i64 m, .int .i64 n])), (10, .box 61 3 (AL [.int .u32 b, .int .u32 c, .int .u32 b])), (8, .val (IsB false)), (64, .val (Sz w0.heap.size)), (65, .val (TabV w0.heap.size))]) (nb := []) H26 (by kernel_rfl) 12 0 #[true, true, true, true, true, true, true, true, true, true, true, true] (by kernel_rfl) (by kernel_rfl) rfl rfl ?_ ?_
  · refine .cons (.plain rfl (ok_move (.tmp 0 rfl))) ?_
    refine .cons (.plain rfl (ok_idxAL 1 (fun b w => idxA3w_1 b w) (.tmp 0 rfl) (.tmp 1 rfl))) ?_
    refine .cons (.plain rfl (ok_loadAL aggU32 rfl (by omega) (.tmp 0 rfl))) ?_
    refine .cons (.plain rfl (ok_move (.tmp 0 rfl))) ?_
    refine .cons (.plain rfl (ok_idxAL 1 (fun b w => idxA3i_1 b w) (.tmp 0 rfl) (.tmp 1 rfl))) ?_
    refine .cons (.plain rfl (ok_loadAL aggI64 rfl (by omega) (.tmp 0 rfl))) ?_
    refine .cons (.plain rfl (ok_callT 2 3 (con_qpowF c m hc hm) rfl rfl (.cons (.tmp 0 rfl) (.cons (.tmp 1 rfl) (.nil))))) ?_
    refine .cons (.plain rfl (ok_move (.tmp 0 rfl))) ?_
    refine .cons (.plain rfl (ok_extFB0 (.tmp 0 rfl))) ?_
    refine .cons (.plain rfl (ok_extFB1 (.tmp 0 rfl))) ?_
    refine .cons (.plain rfl (ok_assign (.tmp 0 rfl))) ?_
    refine .cons (.plain rfl (ok_assign (.tmp 0 rfl))) ?_
    exact .nil
  clear H26 a23 w23 B23
  intro a27 w27 B27 H27
  refine any_done (by kernel_rfl) ?_
  refine then_normal ?_
  refine wp_seq ?_
  refine wp_seq ?_
  obtain ⟨g28, hg28, H28⟩ := St.nameF H27 8 rfl (l' := fun g28 => [(40, .val (Lit (.int .i64 1))), (42, .val (Lit (.int .u32 c))), (43, .val (Lit (.int .i64 1))), (45, .val (Lit (.int .i64 m))), (46, .val (IsFrB m25 (IsC (powNum c m)) (powOk c m))), (39, .val (IsFrB m25 (IsC (powNum c m)) (powOk c m))), (47, .val (IsFr m25 (IsC (powNum c m)))), (48, .val (IsB (powOk c m))), (15, .val (IsHd g28 (IsC (powNum c m)))), (16, .val (IsB (powOk c m))), (925, .val (Sz m25)), (30, .val (Lit (.int .i64 1))), (32, .val (Lit (.int .u32 c))), (33, .val (Lit (.int .i64 1))), (35, .val (Lit (.int .i64 m))), (36, .val (Tup [IsC (powNum c m), IsB (powOk c m)])), (29, .val (Tup [IsC (powNum c m), IsB (powOk c m)])), (37, .val (IsC (powNum c m))), (38, .val (IsB (powOk c m))), (13, .val (IsC (powNum c m))), (14, .val (IsB (powOk c m))), (25, .val (Lit (.int .i64 1))), (26, .val (IsB true)), (12, .val (Lit (.int .i64 1))), (27, .val (Lit (.int .i64 0))), (28, .val (Lit (.int .i64 1))), (9, .box 42 15 (IsBook w0.heap.size (fun _ => True) m8 m25 ([]) 1)), (58, .val (IsHd g14 (IsC (powNum b n)))), (49, .val (IsB (powOk b n))), (50, .val (IsB (powOk b n))), (51, .val (IsB false)), (52, .val (IsB false)), (53, .val (IsHd g14 (IsC (powNum b n)))), (55, .val (IsB true)), (56, .val (IsB false)), (57, .val (IsB false)), (916, .val (Sz m16)), (908, .val (Sz m8)), (11, .box 62 3 (AL [.int .i64 n, .int .i64 m, .int .i64 n])), (10, .box 61 3 (AL [.int .u32 b, .int .u32 c, .int .u32 b])), (8, .val (IsB false)), (64, .val (Sz w0.heap.size)), (65, .val (TabV w0.heap.size))]) (fun _ => rfl)
  clear H27
  replace H28 : St 64 w0 B0 a27 w27 B27 [(40, .val (Lit (.int .i64 1))), (42, .val (Lit (.int .u32 c))), (43, .val (Lit (.int .i64 1))), (45, .val (Lit (.int .i64 m))), (46, .val (IsFrB m25 (IsC (powNum c m)) (powOk c m))), (39, .val (IsFrB m25 (IsC (powNum c m)) (powOk c m))), (47, .val (IsFr m25 (IsC (powNum c m)))), (48, .val (IsB (powOk c m))), (15, .val (IsHd g28 (IsC (powNum c m)))), (16, .val (IsB (powOk c m))), (925, .val (Sz m25)), (30, .val (Lit (.int .i64 1))), (32, .val (Lit (.int .u32 c))), (33, .val (Lit (.int .i64 1))), (35, .val (Lit (.int .i64 m))), (36, .val (Tup [IsC (powNum c m), IsB (powOk c m)])), (29, .val (Tup [IsC (powNum c m), IsB (powOk c m)])), (37, .val (IsC (powNum c m))), (38, .val (IsB (powOk c m))), (13, .val (IsC (powNum c m))), (14, .val (IsB (powOk c m))), (25, .val (Lit (.int .i64 1))), (26, .val (IsB true)), (12, .val (Lit (.int .i64 1))), (27, .val (Lit (.int .i64 0))), (28, .val (Lit (.int .i64 1))), (9, .box 42 15 (IsBook w0.heap.size (fun _ => True) m8 m25 ([]) 1)), (58, .val (IsHd g14 (IsC (powNum b n)))), (49, .val (IsB (powOk b n))), (50, .val (IsB (powOk b n))), (51, .val (IsB false)), (52, .val (IsB false)), (53, .val (IsHd g14 (IsC (powNum b n)))), (55, .val (IsB true)), (56, .val (IsB false)), (57, .val (IsB false)), (916, .val (Sz m16)), (908, .val (Sz m8)), (11, .box 62 3 (AL [.int .i64 n, .int .i64 m, .int .i64 n])), (10, .box 61 3 (AL [.int .u32 b, .int .u32 c, .int .u32 b])), (8, .val (IsB false)), (64, .val (Sz w0.heap.size)), (65, .val (TabV w0.heap.size))] [11, 10, 9] := H28
  have hz29 : m25 ≤ w27.heap.size := H28.fc.get 10 rfl
  obtain ⟨m30, hm30, hw30, hL30, H30⟩ := St.mark H28 930
  clear H28
  clear hL30
  replace hz29 : m25 ≤ m30 := Nat.le_trans hz29 hw30
  replace hg28 : ∀ b, g28 = some b → m25 ≤ b ∧ b < m30 := fun b hb => ⟨(hg28 b hb).1, Nat.lt_of_lt_of_le (hg28 b hb).2 hw30⟩
  clear hw30
  refine flow_region (dsts := [some 49, some 50, some 51, some 52, some 53, some 54, some 55, some 56, some 57]) (refs := [[.pre 21], [.pre 10], [.res 0, .res 1], [.res 2], [.res 3, .pre 9], [.res 3, .pre 20], [.res 3, .res 4, .res 5], [.res 3, .res 6], [.res 3, .res 7]]) (outs := [.res 0, .res 1, .res 2, .res 3, .res 4, .res 5, .res 6, .res 7, .res 8, .pre 0, .pre 1, .pre 2, .pre 3, .pre 4, .pre 5, .pre 6, .pre 7, .pre 8, .pre 9, .pre 10, .pre 11, .pre 12, .pre 13, .pre 14, .pre 15, .pre 16, .pre 17, .pre 18, .pre 19, .pre 20, .pre 21, .pre 22, .pre 23, .pre 24, .pre 25, .pre 26, .pre 27, .pre 28, .pre 37, .pre 38, .pre 39, .pre 40, .pre 41, .pre 42, .pre 43]) (als := [false, false, false, false, false, false, false, false, false]) (posts := [.val (IsB (powOk c m)), .val (IsB (powOk c m)), .val (IsB false), .val (IsB false), .val (IsHd g28 (IsC (powNum c m))), .val (IsC (powNum c m)), .val (IsB true), .val (IsB false), .val (IsB false)])
    (out := [(49, .val (IsB (powOk c m))), (50, .val (IsB (powOk c m))), (51, .val (IsB false)), (52, .val (IsB false)), (53, .val (IsHd g28 (IsC (powNum c m)))), (54, .val (IsC (powNum c m))), (55, .val (IsB true)), (56, .val (IsB false)), (57, .val (IsB false)), (930, .val (Sz m30)), (40, .val (Lit (.int .i64 1))), (42, .val (Lit (.int .u32 c))), (43, .val (Lit (.int .i64 1))), (45, .val (Lit (.int .i64 m))), (46, .val (IsFrB m25 (IsC (powNum c m)) (powOk c m))), (39, .val (IsFrB m25 (IsC (powNum c m)) (powOk c m))), (47, .val (IsFr m25 (IsC (powNum c m)))), (48, .val (IsB (powOk c m))), (15, .val (IsHd g28 (IsC (powNum c m)))), (16, .val (IsB (powOk c m))), (925, .val (Sz m25)), (30, .val (Lit (.int .i64 1))), (32, .val (Lit (.int .u32 c))), (33, .val (Lit (.int .i64 1))), (35, .val (Lit (.int .i64 m))), (36, .val (Tup [IsC (powNum c m), IsB (powOk c m)])), (29, .val (Tup [IsC (powNum c m), IsB (powOk c m)])), (37, .val (IsC (powNum c m))), (38, .val (IsB (powOk c m))), (13, .val (IsC (powNum c m))), (14, .val (IsB (powOk c m))), (25, .val (Lit (.int .i64 1))), (26, .val (IsB true)), (12, .val (Lit (.int .i64 1))), (27, .val (Lit (.int .i64 0))), (28, .val (Lit (.int .i64 1))), (9, .box 42 15 (IsBook w0.heap.size (fun _ => True) m8 m25 ([]) 1)), (58, .val (IsHd g14 (IsC (powNum b n)))), (916, .val (Sz m16)), (908, .val (Sz m8)), (11, .box 62 3 (AL [.int .i64 n, .int .i64 m, .int .i64 n])), (10, .box 61 3 (AL [.int .u32 b, .int .u32 c, .int .u32 b])), (8, .val (IsB false)), (64, .val (Sz w0.heap.size)), (65, .val (TabV w0.heap.size))]) (nb := []) H30 9 [] rfl (by kernel_rfl) rfl rfl ?_ ?_
  · refine .cons (.plain rfl (ok_move (.tmp 0 rfl))) ?_
    refine .cons (.plain rfl (ok_move (.tmp 0 rfl))) ?_
    refine .cons (.plain rfl (OpOk.eqB (b := (powOk c m) != (powOk c m)) (ok_neB Tryz.underlying4 (.tmp 0 rfl) (.tmp 1 rfl)) (bne_self_eq_false _))) ?_
    refine .cons (.plain rfl (ok_move (.tmp 0 rfl))) ?_
    refine .cons (.wanted 3 false rfl rfl rfl 0 rfl (ok_move (.tmp 1 rfl))) ?_
    refine .cons (.wanted 3 false rfl rfl rfl 0 rfl (ok_move (.tmp 1 rfl))) ?_
    refine .cons (.wanted 3 false rfl rfl rfl 0 rfl (ok_call (con_sameC (powNum c m)) (.cons (.weak (.tmp 1 rfl) weakHd) (.cons (.tmp 2 rfl) (.nil))))) ?_
    refine .cons (.wanted 3 false rfl rfl rfl 0 rfl (ok_not (b := true) (.tmp 1 rfl))) ?_
    refine .cons (.plain rfl (ok_pickF (.tmp 0 rfl) (.tmp 1 rfl))) ?_
    exact .nil
  clear H30 a27 w27 B27
  intro a31 w31 B31 H31
  refine ops_done ?_
  refine then_normal ?_
  refine f_condF H31 (.tmp 8 rfl) ?_
  refine wp_skip ?_
  refine then_normal ?_
  refine flow_region (dsts := [some 58]) (refs := [[.pre 18]]) (outs := [.res 0, .pre 0, .pre 1, .pre 2, .pre 3, .pre 4, .pre 5, .pre 6, .pre 7, .pre 8, .pre 9, .pre 10, .pre 11, .pre 12, .pre 13, .pre 14, .pre 15, .pre 16, .pre 17, .pre 18, .pre 19, .pre 20, .pre 21, .pre 22, .pre 23, .pre 24, .pre 25, .pre 26, .pre 27, .pre 28, .pre 29, .pre 30, .pre 31, .pre 32, .pre 33, .pre 34, .pre 35, .pre 36, .pre 38, .pre 39, .pre 40, .pre 41, .pre 42, .pre 43, .pre 44]) (als := [false]) (posts := [.val (IsHd g28 (IsC (powNum c m)))])
    (out := [(58, .val (IsHd g28 (IsC (powNum c m)))), (49, .val (IsB (powOk c m))), (50, .val (IsB (powOk c m))), (51, .val (IsB false)), (52, .val (IsB false)), (53, .val (IsHd g28 (IsC (powNum c m)))), (54, .val (IsC (powNum c m))), (55, .val (IsB true)), (56, .val (IsB false)), (57, .val (IsB false)), (930, .val (Sz m30)), (40, .val (Lit (.int .i64 1))), (42, .val (Lit (.int .u32 c))), (43, .val (Lit (.int .i64 1))), (45, .val (Lit (.int .i64 m))), (46, .val (IsFrB m25 (IsC (powNum c m)) (powOk c m))), (39, .val (IsFrB m25 (IsC (powNum c m)) (powOk c m))), (47, .val (IsFr m25 (IsC (powNum c m)))), (48, .val (IsB (powOk c m))), (15, .val (IsHd g28 (IsC (powNum c m)))), (16, .val (IsB (powOk c m))), (925, .val (Sz m25)), (30, .val (Lit (.int .i64 1))), (32, .val (Lit (.int .u32 c))), (33, .val (Lit (.int .i64 1))), (35, .val (Lit (.int .i64 m))), (36, .val (Tup [IsC (powNum c m), IsB (powOk c m)])), (29, .val (Tup [IsC (powNum c m), IsB (powOk c m)])), (37, .val (IsC (powNum c m))), (38, .val (IsB (powOk c m))), (13, .val (IsC (powNum c m))), (14, .val (IsB (powOk c m))), (25, .val (Lit (.int .i64 1))), (26, .val (IsB true)), (12, .val (Lit (.int .i64 1))), (27, .val (Lit (.int .i64 0))), (28, .val (Lit (.int .i64 1))), (9, .box 42 15 (IsBook w0.heap.size (fun _ => True) m8 m25 ([]) 1)), (916, .val (Sz m16)), (908, .val (Sz m8)), (11, .box 62 3 (AL [.int .i64 n, .int .i64 m, .int .i64 n])), (10, .box 61 3 (AL [.int .u32 b, .int .u32 c, .int .u32 b])), (8, .val (IsB false)), (64, .val (Sz w0.heap.size)), (65, .val (TabV w0.heap.size))]) (nb := []) H31 1 [1] rfl (by kernel_rfl) rfl rfl ?_ ?_
  · refine .cons (.plain rfl (ok_move (.tmp 0 rfl))) ?_
    exact .nil
  clear H31 a31 w31 B31
  intro a32 w32 B32 H32
  refine ops_one ?_
  have hk33 : ∀ b, g28 = some b → w0.heap.size ≤ b ∧ ¬ (m8 ≤ b ∧ b < m25) ∧ some b ∉ ([] : List (Option Nat)) := fun b hb => ⟨by have := hg28 b hb; omega, fun hx => by have := hg28 b hb; omega, by simp⟩
  refine keep_op (cnt := 1) (ks := [(58, .val (IsHd g28 (IsC (powNum c m)))), (49, .val (IsB (powOk c m))), (50, .val (IsB (powOk c m))), (51, .val (IsB false)), (52, .val (IsB false)), (53, .val (IsHd g28 (IsC (powNum c m)))), (55, .val (IsB true)), (56, .val (IsB false)), (57, .val (IsB false)), (930, .val (Sz m30)), (40, .val (Lit (.int .i64 1))), (42, .val (Lit (.int .u32 c))), (43, .val (Lit (.int .i64 1))), (45, .val (Lit (.int .i64 m))), (48, .val (IsB (powOk c m))), (15, .val (IsHd g28 (IsC (powNum c m)))), (16, .val (IsB (powOk c m))), (925, .val (Sz m25)), (30, .val (Lit (.int .i64 1))), (32, .val (Lit (.int .u32 c))), (33, .val (Lit (.int .i64 1))), (35, .val (Lit (.int .i64 m))), (38, .val (IsB (powOk c m))), (14, .val (IsB (powOk c m))), (25, .val (Lit (.int .i64 1))), (26, .val (IsB true)), (12, .val (Lit (.int .i64 1))), (27, .val (Lit (.int .i64 0))), (28, .val (Lit (.int .i64 1))), (916, .val (Sz m16)), (908, .val (Sz m8)), (11, .box 62 3 (AL [.int .i64 n, .int .i64 m, .int .i64 n])), (10, .box 61 3 (AL [.int .u32 b, .int .u32 c, .int .u32 b])), (8, .val (IsB false)), (64, .val (Sz w0.heap.size)), (65, .val (TabV w0.heap.size))]) (l' := [(9, .box 42 15 (IsBook w0.heap.size (fun _ => True) m8 m25 ([g28]) 2)), (58, .val (IsHd g28 (IsC (powNum c m)))), (49, .val (IsB (powOk c m))), (50, .val (IsB (powOk c m))), (51, .val (IsB false)), (52, .val (IsB false)), (53, .val (IsHd g28 (IsC (powNum c m)))), (55, .val (IsB true)), (56, .val (IsB false)), (57, .val (IsB false)), (930, .val (Sz m30)), (40, .val (Lit (.int .i64 1))), (42, .val (Lit (.int .u32 c))), (43, .val (Lit (.int .i64 1))), (45, .val (Lit (.int .i64 m))), (48, .val (IsB (powOk c m))), (15, .val (IsHd g28 (IsC (powNum c m)))), (16, .val (IsB (powOk c m))), (925, .val (Sz m25)), (30, .val (Lit (.int .i64 1))), (32, .val (Lit (.int .u32 c))), (33, .val (Lit (.int .i64 1))), (35, .val (Lit (.int .i64 m))), (38, .val (IsB (powOk c m))), (14, .val (IsB (powOk c m))), (25, .val (Lit (.int .i64 1))), (26, .val (IsB true)), (12, .val (Lit (.int .i64 1))), (27, .val (Lit (.int .i64 0))), (28, .val (Lit (.int .i64 1))), (916, .val (Sz m16)), (908, .val (Sz m8)), (11, .box 62 3 (AL [.int .i64 n, .int .i64 m, .int .i64 n])), (10, .box 61 3 (AL [.int .u32 b, .int .u32 c, .int .u32 b])), (8, .val (IsB false)), (64, .val (Sz w0.heap.size)), (65, .val (TabV w0.heap.size))]) 37 [0, 1, 2, 3, 4, 5, 7, 8, 9, 10, 11, 12, 13, 14, 18, 19, 20, 21, 22, 23, 24, 25, 29, 31, 32, 33, 34, 35, 36, 38, 39, 40, 41, 42, 43, 44] H32 rfl (fun _ _ => by go_simp) keep_nat rfl (rfl) (.tmp 0 rfl) (by omega) (fun _ _ => trivial) hk33 rfl (by kernel_rfl) (.cons (keptB_hd loc_C) (.cons (keptB_lit) (.cons (keptB_lit) (.cons (keptB_lit) (.cons (keptB_lit) (.cons (keptB_hd loc_C) (.cons (keptB_lit) (.cons (keptB_lit) (.cons (keptB_lit) (.cons (keptB_sz) (.cons (keptB_lit) (.cons (keptB_lit) (.cons (keptB_lit) (.cons (keptB_lit) (.cons (keptB_lit) (.cons (keptB_hd loc_C) (.cons (keptB_lit) (.cons (keptB_sz) (.cons (keptB_lit) (.cons (keptB_lit) (.cons (keptB_lit) (.cons (keptB_lit) (.cons (keptB_lit) (.cons (keptB_lit) (.cons (keptB_lit) (.cons (keptB_lit) (.cons (keptB_lit) (.cons (keptB_lit) (.cons (keptB_lit) (.cons (keptB_sz) (.cons (keptB_sz) (.cons (keptB_box (by decide) keptB_lit) (.cons (keptB_box (by decide) keptB_lit) (.cons (keptB_lit) (.cons (keptB_sz) (.cons (keptB_tab (Nat.le_refl _)) (.nil))))))))))))))))))))))))))))))))))))) (by decide) rfl ?_
  clear H32 hk33 a32 w32 B32
  intro a33 w33 B33 H33
  refine ops_done ?_
  refine block_normal ?_
  refine then_normal ?_
  refine flow_region (dsts := [some 27, some 28]) (refs := [[.pre 27], [.res 0]]) (outs := [.res 0, .res 1, .pre 0, .pre 1, .pre 2, .pre 3, .pre 4, .pre 5, .pre 6, .pre 7, .pre 8, .pre 9, .pre 10, .pre 11, .pre 12, .pre 13, .pre 14, .pre 15, .pre 16, .pre 17, .pre 18, .pre 19, .pre 20, .pre 21, .pre 22, .pre 23, .pre 24, .pre 25, .pre 26, .pre 27, .pre 30, .pre 31, .pre 32, .pre 33, .pre 34, .pre 35, .pre 36]) (als := [false, false]) (posts := [.val (Lit (.int .i64 1)), .val (Lit (.int .i64 2))])
    (out := [(27, .val (Lit (.int .i64 1))), (28, .val (Lit (.int .i64 2))), (9, .box 42 15 (IsBook w0.heap.size (fun _ => True) m8 m25 ([g28]) 2)), (58, .val (IsHd g28 (IsC (powNum c m)))), (49, .val (IsB (powOk c m))), (50, .val (IsB (powOk c m))), (51, .val (IsB false)), (52, .val (IsB false)), (53, .val (IsHd g28 (IsC (powNum c m)))), (55, .val (IsB true)), (56, .val (IsB false)), (57, .val (IsB false)), (930, .val (Sz m30)), (40, .val (Lit (.int .i64 1))), (42, .val (Lit (.int .u32 c))), (43, .val (Lit (.int .i64 1))), (45, .val (Lit (.int .i64 m))), (48, .val (IsB (powOk c m))), (15, .val (IsHd g28 (IsC (powNum c m)))), (16, .val (IsB (powOk c m))), (925, .val (Sz m25)), (30, .val (Lit (.int .i64 1))), (32, .val (Lit (.int .u32 c))), (33, .val (Lit (.int .i64 1))), (35, .val (Lit (.int .i64 m))), (38, .val (IsB (powOk c m))), (14, .val (IsB (powOk c m))), (25, .val (Lit (.int .i64 1))), (26, .val (IsB true)), (12, .val (Lit (.int .i64 1))), (916, .val (Sz m16)), (908, .val (Sz m8)), (11, .box 62 3 (AL [.int .i64 n, .int .i64 m, .int .i64 n])), (10, .box 61 3 (AL [.int .u32 b, .int .u32 c, .int .u32 b])), (8, .val (IsB false)), (64, .val (Sz w0.heap.size)), (65, .val (TabV w0.heap.size))]) (nb := []) H33 2 [2] rfl (by kernel_rfl) rfl rfl ?_ ?_
  · refine .cons (.plain rfl (ok_move (.tmp 0 rfl))) ?_
    refine .cons (.plain rfl (ok_add (r := 2) (.tmp 0 rfl) (.lit) (by decide))) ?_
    exact .nil
  clear H33 a33 w33 B33
  intro a34 w34 B34 H34
  refine ops_one ?_
  refine tail_op (D := .val (Lit (.int .i64 2))) (l' := [(12, .val (Lit (.int .i64 2))), (27, .val (Lit (.int .i64 1))), (28, .val (Lit (.int .i64 2))), (9, .box 42 15 (IsBook w0.heap.size (fun _ => True) m8 m25 ([g28]) 2)), (58, .val (IsHd g28 (IsC (powNum c m)))), (49, .val (IsB (powOk c m))), (50, .val (IsB (powOk c m))), (51, .val (IsB false)), (52, .val (IsB false)), (53, .val (IsHd g28 (IsC (powNum c m)))), (55, .val (IsB true)), (56, .val (IsB false)), (57, .val (IsB false)), (930, .val (Sz m30)), (40, .val (Lit (.int .i64 1))), (42, .val (Lit (.int .u32 c))), (43, .val (Lit (.int .i64 1))), (45, .val (Lit (.int .i64 m))), (48, .val (IsB (powOk c m))), (15, .val (IsHd g28 (IsC (powNum c m)))), (16, .val (IsB (powOk c m))), (925, .val (Sz m25)), (30, .val (Lit (.int .i64 1))), (32, .val (Lit (.int .u32 c))), (33, .val (Lit (.int .i64 1))), (35, .val (Lit (.int .i64 m))), (38, .val (IsB (powOk c m))), (14, .val (IsB (powOk c m))), (25, .val (Lit (.int .i64 1))), (26, .val (IsB true)), (916, .val (Sz m16)), (908, .val (Sz m8)), (11, .box 62 3 (AL [.int .i64 n, .int .i64 m, .int .i64 n])), (10, .box 61 3 (AL [.int .u32 b, .int .u32 c, .int .u32 b])), (8, .val (IsB false)), (64, .val (Sz w0.heap.size)), (65, .val (TabV w0.heap.size))]) H34 rfl rfl rfl (.plain rfl (ok_assign (.tmp 1 rfl))) rfl rfl ?_
  clear H34 a34 w34 B34
  intro a35 w35 B35 H35
  refine ops_done ?_
  refine then_normal ?_
  rw [rounds_succ]
  refine wp_seq ?_
  refine wp_seq ?_
  refine flow_region (dsts := [some 25, some 26]) (refs := [[.pre 0], [.res 0]]) (outs := [.res 0, .res 1, .pre 0, .pre 1, .pre 2, .pre 3, .pre 4, .pre 5, .pre 6, .pre 7, .pre 8, .pre 9, .pre 10, .pre 11, .pre 12, .pre 13, .pre 14, .pre 15, .pre 16, .pre 17, .pre 18, .pre 19, .pre 20, .pre 21, .pre 22, .pre 23, .pre 24, .pre 25, .pre 26, .pre 27, .pre 30, .pre 31, .pre 32, .pre 33, .pre 34, .pre 35, .pre 36]) (als := [false, false]) (posts := [.val (Lit (.int .i64 2)), .val (IsB true)])
    (out := [(25, .val (Lit (.int .i64 2))), (26, .val (IsB true)), (12, .val (Lit (.int .i64 2))), (27, .val (Lit (.int .i64 1))), (28, .val (Lit (.int .i64 2))), (9, .box 42 15 (IsBook w0.heap.size (fun _ => True) m8 m25 ([g28]) 2)), (58, .val (IsHd g28 (IsC (powNum c m)))), (49, .val (IsB (powOk c m))), (50, .val (IsB (powOk c m))), (51, .val (IsB false)), (52, .val (IsB false)), (53, .val (IsHd g28 (IsC (powNum c m)))), (55, .val (IsB true)), (56, .val (IsB false)), (57, .val (IsB false)), (930, .val (Sz m30)), (40, .val (Lit (.int .i64 1))), (42, .val (Lit (.int .u32 c))), (43, .val (Lit (.int .i64 1))), (45, .val (Lit (.int .i64 m))), (48, .val (IsB (powOk c m))), (15, .val (IsHd g28 (IsC (powNum c m)))), (16, .val (IsB (powOk c m))), (925, .val (Sz m25)), (30, .val (Lit (.int .i64 1))), (32, .val (Lit (.int .u32 c))), (33, .val (Lit (.int .i64 1))), (35, .val (Lit (.int .i64 m))), (38, .val (IsB (powOk c m))), (14, .val (IsB (powOk c m))), (916, .val (Sz m16)), (908, .val (Sz m8)), (11, .box 62 3 (AL [.int .i64 n, .int .i64 m, .int .i64 n])), (10, .box 61 3 (AL [.int .u32 b, .int .u32 c, .int .u32 b])), (8, .val (IsB false)), (64, .val (Sz w0.heap.size)), (65, .val (TabV w0.heap.size))]) (nb := []) H35 2 [] rfl (by kernel_rfl) rfl rfl ?_ ?_
  · refine .cons (.plain rfl (ok_move (.tmp 0 rfl))) ?_
    refine .cons (.plain rfl (ok_cmp (b := true) (.tmp 0 rfl) (.lit) (by decide))) ?_
    exact .nil
  clear H35 a35 w35 B35
  intro a36 w36 B36 H36
  refine ops_done ?_
  refine then_normal ?_
  refine f_condT H36 (.tmp 1 rfl) ?_
  refine wp_skip ?_
  refine then_normal ?_
  refine wp_seq ?_
  refine wp_block ?_
  refine wp_seq ?_
  refine flow_drawT (dsts := [some 30, some 31, some 32, some 33, some 34, some 35, some 36, some 29, some 37, some 38, some 13, some 14]) (refs := [[.pre 2], [.pre 33, .res 0], [.res 1], [.pre 2], [.pre 32, .res 3], [.res 4], [.res 2, .res 5], [.res 6], [.res 7], [.res 7], [.res 8], [.res 9]]) (outs := [.res 0, .res 2, .res 3, .res 5, .res 6, .res 7, .res 8, .res 9, .res 10, .res 11, .pre 0, .pre 1, .pre 2, .pre 3, .pre 4, .pre 5, .pre 6, .pre 7, .pre 8, .pre 9, .pre 10, .pre 11, .pre 12, .pre 13, .pre 14, .pre 15, .pre 16, .pre 17, .pre 18, .pre 19, .pre 20, .pre 21, .pre 22, .pre 23, .pre 30, .pre 31, .pre 32, .pre 33, .pre 34, .pre 35, .pre 36]) (als := [false, false, false, false, false, false, false, false, false, false, false, false]) (posts := [.val (Lit (.int .i64 2)), .ptr 61 3 (AL [.int .u32 b, .int .u32 c, .int .u32 b]) 2, .val (Lit (.int .u32 b)), .val (Lit (.int .i64 2)), .ptr 62 3 (AL [.int .i64 n, .int .i64 m, .int .i64 n]) 2, .val (Lit (.int .i64 n)), .val (Tup [IsC (powNum b n), IsB (powOk b n)]), .val (Tup [IsC (powNum b n), IsB (powOk b n)]), .val (IsC (powNum b n)), .val (IsB (powOk b n)), .val (IsC (powNum b n)), .val (IsB (powOk b n))])
    (out := [(30, .val (Lit (.int .i64 2))), (32, .val (Lit (.int .u32 b))), (33, .val (Lit (.int .i64 2))), (35, .val (Lit (.int .i64 n))), (36, .val (Tup [IsC (powNum b n), IsB (powOk b n)])), (29, .val (Tup [IsC (powNum b n), IsB (powOk b n)])), (37, .val (IsC (powNum b n))), (38, .val (IsB (powOk b n))), (13, .val (IsC (powNum b n))), (14, .val (IsB (powOk b n))), (25, .val (Lit (.int .i64 2))), (26, .val (IsB true)), (12, .val (Lit (.int .i64 2))), (27, .val (Lit (.int .i64 1))), (28, .val (Lit (.int .i64 2))), (9, .box 42 15 (IsBook w0.heap.size (fun _ => True) m8 m25 ([g28]) 2)), (58, .val (IsHd g28 (IsC (powNum c m)))), (49, .val (IsB (powOk c m))), (50, .val (IsB (powOk c m))), (51, .val (IsB false)), (52, .val (IsB false)), (53, .val (IsHd g28 (IsC (powNum c m)))), (55, .val (IsB true)), (56, .val (IsB false)), (57, .val (IsB false)), (930, .val (Sz m30)), (40, .val (Lit (.int .i64 1))), (42, .val (Lit (.int .u32 c))), (43, .val (Lit (.int .i64 1))), (45, .val (Lit (.int .i64 m))), (48, .val (IsB (powOk c m))), (15, .val (IsHd g28 (IsC (powNum c m)))), (16, .val (IsB (powOk c m))), (925, .val (Sz m25)), (916, .val (Sz m16)), (908, .val (Sz m8)), (11, .box 62 3 (AL [.int .i64 n, .int .i64 m, .int .i64 n])), (10, .box 61 3 (AL [.int .u32 b, .int .u32 c, .int .u32 b])), (8, .val (IsB false)), (64, .val (Sz w0.heap.size)), (65, .val (TabV w0.heap.size))]) (nb := []) H36 (by kernel_rfl) 12 0 #[true, true, true, true, true, true, true, true, true, true, true, true] (by kernel_rfl) (by kernel_rfl) rfl rfl ?_ ?_
  · refine .cons (.plain rfl (ok_move (.tmp 0 rfl))) ?_
    refine .cons (.plain rfl (ok_idxAL 2 (fun b w => idxA3w_2 b w) (.tmp 0 rfl) (.tmp 1 rfl))) ?_
    refine .cons (.plain rfl (ok_loadAL aggU32 rfl (by omega) (.tmp 0 rfl))) ?_
    refine .cons (.plain rfl (ok_move (.tmp 0 rfl))) ?_
    refine .cons (.plain rfl (ok_idxAL 2 (fun b w => idxA3i_2 b w) (.tmp 0 rfl) (.tmp 1 rfl))) ?_
    refine .cons (.plain rfl (ok_loadAL aggI64 rfl (by omega) (.tmp 0 rfl))) ?_
    refine .cons (.plain rfl (ok_call (con_r2pow b n hb) (.cons (.tmp 0 rfl) (.cons (.tmp 1 rfl) (.nil))))) ?_
    refine .cons (.plain rfl (ok_move (.tmp 0 rfl))) ?_
    refine .cons (.plain rfl (ok_extract 0 (.tmp 0 rfl) rfl)) ?_
    refine .cons (.plain rfl (ok_extract 1 (.tmp 0 rfl) rfl)) ?_
    refine .cons (.plain rfl (ok_assign (.tmp 0 rfl))) ?_
    refine .cons (.plain rfl (ok_assign (.tmp 0 rfl))) ?_
    exact .nil
  clear H36 a36 w36 B36
  intro a37 w37 B37 H37
  refine any_done (by kernel_rfl) ?_
  refine then_normal ?_
  refine wp_seq ?_
  have hz38 : m30 ≤ w37.heap.size := H37.fc.get 25 rfl
  obtain ⟨m39, hm39, hw39, hL39, H39⟩ := St.mark H37 939
  clear H37
  clear hL39
  replace hz38 : m30 ≤ m39 := Nat.le_trans hz38 hw39
  have H40 := St.rebook H39 16 rfl hw39 (by intro b hb; simp only [List.mem_cons, List.not_mem_nil, or_false] at hb; first | (have := hg28 b hb.symm; omega)) (l' := [(939, .val (Sz m39)), (30, .val (Lit (.int .i64 2))), (32, .val (Lit (.int .u32 b))), (33, .val (Lit (.int .i64 2))), (35, .val (Lit (.int .i64 n))), (36, .val (Tup [IsC (powNum b n), IsB (powOk b n)])), (29, .val (Tup [IsC (powNum b n), IsB (powOk b n)])), (37, .val (IsC (powNum b n))), (38, .val (IsB (powOk b n))), (13, .val (IsC (powNum b n))), (14, .val (IsB (powOk b n))), (25, .val (Lit (.int .i64 2))), (26, .val (IsB true)), (12, .val (Lit (.int .i64 2))), (27, .val (Lit (.int .i64 1))), (28, .val (Lit (.int .i64 2))), (9, .box 42 15 (IsBook w0.heap.size (fun _ => True) m8 m39 ([]) 2)), (58, .val (IsHd g28 (IsC (powNum c m)))), (49, .val (IsB (powOk c m))), (50, .val (IsB (powOk c m))), (51, .val (IsB false)), (52, .val (IsB false)), (53, .val (IsHd g28 (IsC (powNum c m)))), (55, .val (IsB true)), (56, .val (IsB false)), (57, .val (IsB false)), (930, .val (Sz m30)), (40, .val (Lit (.int .i64 1))), (42, .val (Lit (.int .u32 c))), (43, .val (Lit (.int .i64 1))), (45, .val (Lit (.int .i64 m))), (48, .val (IsB (powOk c m))), (15, .val (IsHd g28 (IsC (powNum c m)))), (16, .val (IsB (powOk c m))), (925, .val (Sz m25)), (916, .val (Sz m16)), (908, .val (Sz m8)), (11, .box 62 3 (AL [.int .i64 n, .int .i64 m, .int .i64 n])), (10, .box 61 3 (AL [.int .u32 b, .int .u32 c, .int .u32 b])), (8, .val (IsB false)), (64, .val (Sz w0.heap.size)), (65, .val (TabV w0.heap.size))]) rfl
  clear H39 hw39
  refine flow_drawT (dsts := [some 40, some 41, some 42, some 43, some 44, some 45, some 46, some 39, some 47, some 48, some 15, some 16]) (refs := [[.pre 13], [.pre 38, .res 0], [.res 1], [.pre 13], [.pre 37, .res 3], [.res 4], [.res 2, .res 5, .pre 0, .pre 41], [.res 6], [.res 7], [.res 7], [.res 8], [.res 9]]) (outs := [.res 0, .res 2, .res 3, .res 5, .res 6, .res 7, .res 8, .res 9, .res 10, .res 11, .pre 0, .pre 1, .pre 2, .pre 3, .pre 4, .pre 5, .pre 6, .pre 7, .pre 8, .pre 9, .pre 10, .pre 11, .pre 12, .pre 13, .pre 14, .pre 15, .pre 16, .pre 17, .pre 18, .pre 19, .pre 20, .pre 21, .pre 22, .pre 23, .pre 24, .pre 25, .pre 26, .pre 34, .pre 35, .pre 36, .pre 37, .pre 38, .pre 39, .pre 40, .pre 41]) (als := [false, false, false, false, false, false, false, false, false, false, false, false]) (posts := [.val (Lit (.int .i64 2)), .ptr 61 3 (AL [.int .u32 b, .int .u32 c, .int .u32 b]) 2, .val (Lit (.int .u32 b)), .val (Lit (.int .i64 2)), .ptr 62 3 (AL [.int .i64 n, .int .i64 m, .int .i64 n]) 2, .val (Lit (.int .i64 n)), .val (IsFrB m39 (IsC (powNum b n)) (powOk b n)), .val (IsFrB m39 (IsC (powNum b n)) (powOk b n)), .val (IsFr m39 (IsC (powNum b n))), .val (IsB (powOk b n)), .val (IsFr m39 (IsC (powNum b n))), .val (IsB (powOk b n))])
    (out := [(40, .val (Lit (.int .i64 2))), (42, .val (Lit (.int .u32 b))), (43, .val (Lit (.int .i64 2))), (45, .val (Lit (.int .i64 n))), (46, .val (IsFrB m39 (IsC (powNum b n)) (powOk b n))), (39, .val (IsFrB m39 (IsC (powNum b n)) (powOk b n))), (47, .val (IsFr m39 (IsC (powNum b n)))), (48, .val (IsB (powOk b n))), (15, .val (IsFr m39 (IsC (powNum b n)))), (16, .val (IsB (powOk b n))), (939, .val (Sz m39)), (30, .val (Lit (.int .i64 2))), (32, .val (Lit (.int .u32 b))), (33, .val (Lit (.int .i64 2))), (35, .val (Lit (.int .i64 n))), (36, .val (Tup [IsC (powNum b n), IsB (powOk b n)])), (29, .val (Tup [IsC (powNum b n), IsB (powOk b n)])), (37, .val (IsC (powNum b n))), (38, .val (IsB (powOk b n))), (13, .val (IsC (powNum b n))), (14, .val (IsB (powOk b n))), (25, .val (Lit (.int .i64 2))), (26, .val (IsB true)), (12, .val (Lit (.int .i64 2))), (27, .val (Lit (.int .i64 1))), (28, .val (Lit (.int .i64 2))), (9, .box 42 15 (IsBook w0.heap.size (fun _ => True) m8 m39 ([]) 2)), (58, .val (IsHd g28 (IsC (powNum c m)))), (49, .val (IsB (powOk c m))), (50, .val (IsB (powOk c m))), (51, .val (IsB false)), (52, .val (IsB false)), (53, .val (IsHd g28 (IsC (powNum c m)))), (55, .val (IsB true)), (56, .val (IsB false)), (57, .val (IsB false)), (930, .val (Sz m30)), (925, .val (Sz m25)), (916, .val (Sz m16)), (908, .val (Sz m8)), (11, .box 62 3 (AL [.int .i64 n, .int .i64 m, .int .i64 n])), (10, .box 61 3 (AL [.int .u32 b, .int .u32 c, .int .u32 b])), (8, .val (IsB false)), (64, .val (Sz w0.heap.size)), (65, .val (TabV w0.heap.size))]) (nb := []) H40 (by kernel_rfl) 12 0 #[true, true, true, true, true, true, true, true, true, true, true, true] (by kernel_rfl) (by kernel_rfl) rfl rfl ?_ ?_
  · refine .cons (.plain rfl (ok_move (.tmp 0 rfl))) ?_
    refine .cons (.plain rfl (ok_idxAL 2 (fun b w => idxA3w_2 b w) (.tmp 0 rfl) (.tmp 1 rfl))) ?_
    refine .cons (.plain rfl (ok_loadAL aggU32 rfl (by omega) (.tmp 0 rfl))) ?_
    refine .cons (.plain rfl (ok_move (.tmp 0 rfl))) ?_
    refine .cons (.plain rfl (ok_idxAL 2 (fun b w => idxA3i_2 b w) (.tmp 0 rfl) (.tmp 1 rfl))) ?_
    refine .cons (.plain rfl (ok_loadAL aggI64 rfl (by omega) (.tmp 0 rfl))) ?_
    refine .cons (.plain rfl (ok_callT 2 3 (con_qpowF b n hb hn) rfl rfl (.cons (.tmp 0 rfl) (.cons (.tmp 1 rfl) (.nil))))) ?_
    refine .cons (.plain rfl (ok_move (.tmp 0 rfl))) ?_
    refine .cons (.plain rfl (ok_extFB0 (.tmp 0 rfl))) ?_
    refine .cons (.plain rfl (ok_extFB1 (.tmp 0 rfl))) ?_
    refine .cons (.plain rfl (ok_assign (.tmp 0 rfl))) ?_
    refine .cons (.plain rfl (ok_assign (.tmp 0 rfl))) ?_
    exact .nil
  clear H40 a37 w37 B37
  intro a41 w41 B41 H41
  refine any_done (by kernel_rfl) ?_
  refine then_normal ?_
  refine wp_seq ?_
  refine wp_seq ?_
  obtain ⟨g42, hg42, H42⟩ := St.nameF H41 8 rfl (l' := fun g42 => [(40, .val (Lit (.int .i64 2))), (42, .val (Lit (.int .u32 b))), (43, .val (Lit (.int .i64 2))), (45, .val (Lit (.int .i64 n))), (46, .val (IsFrB m39 (IsC (powNum b n)) (powOk b n))), (39, .val (IsFrB m39 (IsC (powNum b n)) (powOk b n))), (47, .val (IsFr m39 (IsC (powNum b n)))), (48, .val (IsB (powOk b n))), (15, .val (IsHd g42 (IsC (powNum b n)))), (16, .val (IsB (powOk b n))), (939, .val (Sz m39)), (30, .val (Lit (.int .i64 2))), (32, .val (Lit (.int .u32 b))), (33, .val (Lit (.int .i64 2))), (35, .val (Lit (.int .i64 n))), (36, .val (Tup [IsC (powNum b n), IsB (powOk b n)])), (29, .val (Tup [IsC (powNum b n), IsB (powOk b n)])), (37, .val (IsC (powNum b n))), (38, .val (IsB (powOk b n))), (13, .val (IsC (powNum b n))), (14, .val (IsB (powOk b n))), (25, .val (Lit (.int .i64 2))), (26, .val (IsB true)), (12, .val (Lit (.int .i64 2))), (27, .val (Lit (.int .i64 1))), (28, .val (Lit (.int .i64 2))), (9, .box 42 15 (IsBook w0.heap.size (fun _ => True) m8 m39 ([]) 2)), (58, .val (IsHd g28 (IsC (powNum c m)))), (49, .val (IsB (powOk c m))), (50, .val (IsB (powOk c m))), (51, .val (IsB false)), (52, .val (IsB false)), (53, .val (IsHd g28 (IsC (powNum c m)))), (55, .val (IsB true)), (56, .val (IsB false)), (57, .val (IsB false)), (930, .val (Sz m30)), (925, .val (Sz m25)), (916, .val (Sz m16)), (908, .val (Sz m8)), (11, .box 62 3 (AL [.int .i64 n, .int .i64 m, .int .i64 n])), (10, .box 61 3 (AL [.int .u32 b, .int .u32 c, .int .u32 b])), (8, .val (IsB false)), (64, .val (Sz w0.heap.size)), (65, .val (TabV w0.heap.size))]) (fun _ => rfl)
  clear H41
  replace H42 : St 64 w0 B0 a41 w41 B41 [(40, .val (Lit (.int .i64 2))), (42, .val (Lit (.int .u32 b))), (43, .val (Lit (.int .i64 2))), (45, .val (Lit (.int .i64 n))), (46, .val (IsFrB m39 (IsC (powNum b n)) (powOk b n))), (39, .val (IsFrB m39 (IsC (powNum b n)) (powOk b n))), (47, .val (IsFr m39 (IsC (powNum b n)))), (48, .val (IsB (powOk b n))), (15, .val (IsHd g42 (IsC (powNum b n)))), (16, .val (IsB (powOk b n))), (939, .val (Sz m39)), (30, .val (Lit (.int .i64 2))), (32, .val (Lit (.int .u32 b))), (33, .val (Lit (.int .i64 2))), (35, .val (Lit (.int .i64 n))), (36, .val (Tup [IsC (powNum b n), IsB (powOk b n)])), (29, .val (Tup [IsC (powNum b n), IsB (powOk b n)])), (37, .val (IsC (powNum b n))), (38, .val (IsB (powOk b n))), (13, .val (IsC (powNum b n))), (14, .val (IsB (powOk b n))), (25, .val (Lit (.int .i64 2))), (26, .val (IsB true)), (12, .val (Lit (.int .i64 2))), (27, .val (Lit (.int .i64 1))), (28, .val (Lit (.int .i64 2))), (9, .box 42 15 (IsBook w0.heap.size (fun _ => True) m8 m39 ([]) 2)), (58, .val (IsHd g28 (IsC (powNum c m)))), (49, .val (IsB (powOk c m))), (50, .val (IsB (powOk c m))), (51, .val (IsB false)), (52, .val (IsB false)), (53, .val (IsHd g28 (IsC (powNum c m)))), (55, .val (IsB true)), (56, .val (IsB false)), (57, .val (IsB false)), (930, .val (Sz m30)), (925, .val (Sz m25)), (916, .val (Sz m16)), (908, .val (Sz m8)), (11, .box 62 3 (AL [.int .i64 n, .int .i64 m, .int .i64 n])), (10, .box 61 3 (AL [.int .u32 b, .int .u32 c, .int .u32 b])), (8, .val (IsB false)), (64, .val (Sz w0.heap.size)), (65, .val (TabV w0.heap.size))] [11, 10, 9] := H42
  have hz43 : m39 ≤ w41.heap.size := H42.fc.get 10 rfl
  obtain ⟨m44, hm44, hw44, hL44, H44⟩ := St.mark H42 944
  clear H42
  clear hL44
  replace hz43 : m39 ≤ m44 := Nat.le_trans hz43 hw44
  replace hg42 : ∀ b, g42 = some b → m39 ≤ b ∧ b < m44 := fun b hb => ⟨(hg42 b hb).1, Nat.lt_of_lt_of_le (hg42 b hb).2 hw44⟩
  clear hw44
  refine flow_region (dsts := [some 49, some 50, some 51, some 52, some 53, some 54, some 55, some 56, some 57]) (refs := [[.pre 21], [.pre 10], [.res 0, .res 1], [.res 2], [.res 3, .pre 9], [.res 3, .pre 20], [.res 3, .res 4, .res 5], [.res 3, .res 6], [.res 3, .res 7]]) (outs := [.res 0, .res 1, .res 2, .res 3, .res 4, .res 5, .res 6, .res 7, .res 8, .pre 0, .pre 1, .pre 2, .pre 3, .pre 4, .pre 5, .pre 6, .pre 7, .pre 8, .pre 9, .pre 10, .pre 11, .pre 12, .pre 13, .pre 14, .pre 15, .pre 16, .pre 17, .pre 18, .pre 19, .pre 20, .pre 21, .pre 22, .pre 23, .pre 24, .pre 25, .pre 26, .pre 27, .pre 28, .pre 37, .pre 38, .pre 39, .pre 40, .pre 41, .pre 42, .pre 43, .pre 44, .pre 45]) (als := [false, false, false, false, false, false, false, false, false]) (posts := [.val (IsB (powOk b n)), .val (IsB (powOk b n)), .val (IsB false), .val (IsB false), .val (IsHd g42 (IsC (powNum b n))), .val (IsC (powNum b n)), .val (IsB true), .val (IsB false), .val (IsB false)])
    (out := [(49, .val (IsB (powOk b n))), (50, .val (IsB (powOk b n))), (51, .val (IsB false)), (52, .val (IsB false)), (53, .val (IsHd g42 (IsC (powNum b n)))), (54, .val (IsC (powNum b n))), (55, .val (IsB true)), (56, .val (IsB false)), (57, .val (IsB false)), (944, .val (Sz m44)), (40, .val (Lit (.int .i64 2))), (42, .val (Lit (.int .u32 b))), (43, .val (Lit (.int .i64 2))), (45, .val (Lit (.int .i64 n))), (46, .val (IsFrB m39 (IsC (powNum b n)) (powOk b n))), (39, .val (IsFrB m39 (IsC (powNum b n)) (powOk b n))), (47, .val (IsFr m39 (IsC (powNum b n)))), (48, .val (IsB (powOk b n))), (15, .val (IsHd g42 (IsC (powNum b n)))), (16, .val (IsB (powOk b n))), (939, .val (Sz m39)), (30, .val (Lit (.int .i64 2))), (32, .val (Lit (.int .u32 b))), (33, .val (Lit (.int .i64 2))), (35, .val (Lit (.int .i64 n))), (36, .val (Tup [IsC (powNum b n), IsB (powOk b n)])), (29, .val (Tup [IsC (powNum b n), IsB (powOk b n)])), (37, .val (IsC (powNum b n))), (38, .val (IsB (powOk b n))), (13, .val (IsC (powNum b n))), (14, .val (IsB (powOk b n))), (25, .val (Lit (.int .i64 2))), (26, .val (IsB true)), (12, .val (Lit (.int .i64 2))), (27, .val (Lit (.int .i64 1))), (28, .val (Lit (.int .i64 2))), (9, .box 42 15 (IsBook w0.heap.size (fun _ => True) m8 m39 ([]) 2)), (58, .val (IsHd g28 (IsC (powNum c m)))), (930, .val (Sz m30)), (925, .val (Sz m25)), (916, .val (Sz m16)), (908, .val (Sz m8)), (11, .box 62 3 (AL [.int .i64 n, .int .i64 m, .int .i64 n])), (10, .box 61 3 (AL [.int .u32 b, .int .u32 c, .int .u32 b])), (8, .val (IsB false)), (64, .val (Sz w0.heap.size)), (65, .val (TabV w0.heap.size))]) (nb := []) H44 9 [] rfl (by kernel_rfl) rfl rfl ?_ ?_
  · refine .cons (.plain rfl (ok_move (.tmp 0 rfl))) ?_
    refine .cons (.plain rfl (ok_move (.tmp 0 rfl))) ?_
    refine .cons (.plain rfl (OpOk.eqB (b := (powOk b n) != (powOk b n)) (ok_neB Tryz.underlying4 (.tmp 0 rfl) (.tmp 1 rfl)) (bne_self_eq_false _))) ?_
    refine .cons (.plain rfl (ok_move (.tmp 0 rfl))) ?_
    refine .cons (.wanted 3 false rfl rfl rfl 0 rfl (ok_move (.tmp 1 rfl))) ?_
    refine .cons (.wanted 3 false rfl rfl rfl 0 rfl (ok_move (.tmp 1 rfl))) ?_
    refine .cons (.wanted 3 false rfl rfl rfl 0 rfl (ok_call (con_sameC (powNum b n)) (.cons (.weak (.tmp 1 rfl) weakHd) (.cons (.tmp 2 rfl) (.nil))))) ?_
    refine .cons (.wanted 3 false rfl rfl rfl 0 rfl (ok_not (b := true) (.tmp 1 rfl))) ?_
    refine .cons (.plain rfl (ok_pickF (.tmp 0 rfl) (.tmp 1 rfl))) ?_
    exact .nil
  clear H44 a41 w41 B41
  intro a45 w45 B45 H45
  refine ops_done ?_
  refine then_normal ?_
  refine f_condF H45 (.tmp 8 rfl) ?_
  refine wp_skip ?_
  refine then_normal ?_
  refine flow_region (dsts := [some 58]) (refs := [[.pre 18]]) (outs := [.res 0, .pre 0, .pre 1, .pre 2, .pre 3, .pre 4, .pre 5, .pre 6, .pre 7, .pre 8, .pre 9, .pre 10, .pre 11, .pre 12, .pre 13, .pre 14, .pre 15, .pre 16, .pre 17, .pre 18, .pre 19, .pre 20, .pre 21, .pre 22, .pre 23, .pre 24, .pre 25, .pre 26, .pre 27, .pre 28, .pre 29, .pre 30, .pre 31, .pre 32, .pre 33, .pre 34, .pre 35, .pre 36, .pre 38, .pre 39, .pre 40, .pre 41, .pre 42, .pre 43, .pre 44, .pre 45, .pre 46]) (als := [false]) (posts := [.val (IsHd g42 (IsC (powNum b n)))])
    (out := [(58, .val (IsHd g42 (IsC (powNum b n)))), (49, .val (IsB (powOk b n))), (50, .val (IsB (powOk b n))), (51, .val (IsB false)), (52, .val (IsB false)), (53, .val (IsHd g42 (IsC (powNum b n)))), (54, .val (IsC (powNum b n))), (55, .val (IsB true)), (56, .val (IsB false)), (57, .val (IsB false)), (944, .val (Sz m44)), (40, .val (Lit (.int .i64 2))), (42, .val (Lit (.int .u32 b))), (43, .val (Lit (.int .i64 2))), (45, .val (Lit (.int .i64 n))), (46, .val (IsFrB m39 (IsC (powNum b n)) (powOk b n))), (39, .val (IsFrB m39 (IsC (powNum b n)) (powOk b n))), (47, .val (IsFr m39 (IsC (powNum b n)))), (48, .val (IsB (powOk b n))), (15, .val (IsHd g42 (IsC (powNum b n)))), (16, .val (IsB (powOk b n))), (939, .val (Sz m39)), (30, .val (Lit (.int .i64 2))), (32, .val (Lit (.int .u32 b))), (33, .val (Lit (.int .i64 2))), (35, .val (Lit (.int .i64 n))), (36, .val (Tup [IsC (powNum b n), IsB (powOk b n)])), (29, .val (Tup [IsC (powNum b n), IsB (powOk b n)])), (37, .val (IsC (powNum b n))), (38, .val (IsB (powOk b n))), (13, .val (IsC (powNum b n))), (14, .val (IsB (powOk b n))), (25, .val (Lit (.int .i64 2))), (26, .val (IsB true)), (12, .val (Lit (.int .i64 2))), (27, .val (Lit (.int .i64 1))), (28, .val (Lit (.int .i64 2))), (9, .box 42 15 (IsBook w0.heap.size (fun _ => True) m8 m39 ([]) 2)), (930, .val (Sz m30)), (925, .val (Sz m25)), (916, .val (Sz m16)), (908, .val (Sz m8)), (11, .box 62 3 (AL [.int .i64 n, .int .i64 m, .int .i64 n])), (10, .box 61 3 (AL [.int .u32 b, .int .u32 c, .int .u32 b])), (8, .val (IsB false)), (64, .val (Sz w0.heap.size)), (65, .val (TabV w0.heap.size))]) (nb := []) H45 1 [1] rfl (by kernel_rfl) rfl rfl ?_ ?_
  · refine .cons (.plain rfl (ok_move (.tmp 0 rfl))) ?_
    exact .nil
  clear H45 a45 w45 B45
  intro a46 w46 B46 H46
  refine ops_one ?_
  have hk47 : ∀ b, g42 = some b → w0.heap.size ≤ b ∧ ¬ (m8 ≤ b ∧ b < m39) ∧ some b ∉ ([] : List (Option Nat)) := fun b hb => ⟨by have := hg42 b hb; omega, fun hx => by have := hg42 b hb; omega, by simp⟩
  refine keep_op (cnt := 2) (ks := [(58, .val (IsHd g42 (IsC (powNum b n)))), (49, .val (IsB (powOk b n))), (50, .val (IsB (powOk b n))), (51, .val (IsB false)), (52, .val (IsB false)), (53, .val (IsHd g42 (IsC (powNum b n)))), (55, .val (IsB true)), (56, .val (IsB false)), (57, .val (IsB false)), (944, .val (Sz m44)), (40, .val (Lit (.int .i64 2))), (42, .val (Lit (.int .u32 b))), (43, .val (Lit (.int .i64 2))), (45, .val (Lit (.int .i64 n))), (48, .val (IsB (powOk b n))), (15, .val (IsHd g42 (IsC (powNum b n)))), (16, .val (IsB (powOk b n))), (939, .val (Sz m39)), (30, .val (Lit (.int .i64 2))), (32, .val (Lit (.int .u32 b))), (33, .val (Lit (.int .i64 2))), (35, .val (Lit (.int .i64 n))), (38, .val (IsB (powOk b n))), (14, .val (IsB (powOk b n))), (25, .val (Lit (.int .i64 2))), (26, .val (IsB true)), (12, .val (Lit (.int .i64 2))), (27, .val (Lit (.int .i64 1))), (28, .val (Lit (.int .i64 2))), (930, .val (Sz m30)), (925, .val (Sz m25)), (916, .val (Sz m16)), (908, .val (Sz m8)), (11, .box 62 3 (AL [.int .i64 n, .int .i64 m, .int .i64 n])), (10, .box 61 3 (AL [.int .u32 b, .int .u32 c, .int .u32 b])), (8, .val (IsB false)), (64, .val (Sz w0.heap.size)), (65, .val (TabV w0.heap.size))]) (l' := [(9, .box 42 15 (IsBook w0.heap.size (fun _ => True) m8 m39 ([g42]) 3)), (58, .val (IsHd g42 (IsC (powNum b n)))), (49, .val (IsB (powOk b n))), (50, .val (IsB (powOk b n))), (51, .val (IsB false)), (52, .val (IsB false)), (53, .val (IsHd g42 (IsC (powNum b n)))), (55, .val (IsB true)), (56, .val (IsB false)), (57, .val (IsB false)), (944, .val (Sz m44)), (40, .val (Lit (.int .i64 2))), (42, .val (Lit (.int .u32 b))), (43, .val (Lit (.int .i64 2))), (45, .val (Lit (.int .i64 n))), (48, .val (IsB (powOk b n))), (15, .val (IsHd g42 (IsC (powNum b n)))), (16, .val (IsB (powOk b n))), (939, .val (Sz m39)), (30, .val (Lit (.int .i64 2))), (32, .val (Lit (.int .u32 b))), (33, .val (Lit (.int .i64 2))), (35, .val (Lit (.int .i64 n))), (38, .val (IsB (powOk b n))), (14, .val (IsB (powOk b n))), (25, .val (Lit (.int .i64 2))), (26, .val (IsB true)), (12, .val (Lit (.int .i64 2))), (27, .val (Lit (.int .i64 1))), (28, .val (Lit (.int .i64 2))), (930, .val (Sz m30)), (925, .val (Sz m25)), (916, .val (Sz m16)), (908, .val (Sz m8)), (11, .box 62 3 (AL [.int .i64 n, .int .i64 m, .int .i64 n])), (10, .box 61 3 (AL [.int .u32 b, .int .u32 c, .int .u32 b])), (8, .val (IsB false)), (64, .val (Sz w0.heap.size)), (65, .val (TabV w0.heap.size))]) 37 [0, 1, 2, 3, 4, 5, 7, 8, 9, 10, 11, 12, 13, 14, 18, 19, 20, 21, 22, 23, 24, 25, 29, 31, 32, 33, 34, 35, 36, 38, 39, 40, 41, 42, 43, 44, 45, 46] H46 rfl (fun _ _ => by go_simp) keep_nat rfl (rfl) (.tmp 0 rfl) (by omega) (fun _ _ => trivial) hk47 rfl (by kernel_rfl) (.cons (keptB_hd loc_C) (.cons (keptB_lit) (.cons (keptB_lit) (.cons (keptB_lit) (.cons (keptB_lit) (.cons (keptB_hd loc_C) (.cons (keptB_lit) (.cons (keptB_lit) (.cons (keptB_lit) (.cons (keptB_sz) (.cons (keptB_lit) (.cons (keptB_lit) (.cons (keptB_lit) (.cons (keptB_lit) (.cons (keptB_lit) (.cons (keptB_hd loc_C) (.cons (keptB_lit) (.cons (keptB_sz) (.cons (keptB_lit) (.cons (keptB_lit) (.cons (keptB_lit) (.cons (keptB_lit) (.cons (keptB_lit) (.cons (keptB_lit) (.cons (keptB_lit) (.cons (keptB_lit) (.cons (keptB_lit) (.cons (keptB_lit) (.cons (keptB_lit) (.cons (keptB_sz) (.cons (keptB_sz) (.cons (keptB_sz) (.cons (keptB_sz) (.cons (keptB_box (by decide) keptB_lit) (.cons (keptB_box (by decide) keptB_lit) (.cons (keptB_lit) (.cons (keptB_sz) (.cons (keptB_tab (Nat.le_refl _)) (.nil))))))))))))))))))))))))))))))))))))))) (by decide) rfl ?_
  clear H46 hk47 a46 w46 B46
  intro a47 w47 B47 H47
  refine ops_done ?_
  refine block_normal ?_
  refine then_normal ?_
  refine flow_region (dsts := [some 27, some 28]) (refs := [[.pre 27], [.res 0]]) (outs := [.res 0, .res 1, .pre 0, .pre 1, .pre 2, .pre 3, .pre 4, .pre 5, .pre 6, .pre 7, .pre 8, .pre 9, .pre 10, .pre 11, .pre 12, .pre 13, .pre 14, .pre 15, .pre 16, .pre 17, .pre 18, .pre 19, .pre 20, .pre 21, .pre 22, .pre 23, .pre 24, .pre 25, .pre 26, .pre 27, .pre 30, .pre 31, .pre 32, .pre 33, .pre 34, .pre 35, .pre 36, .pre 37, .pre 38]) (als := [false, false]) (posts := [.val (Lit (.int .i64 2)), .val (Lit (.int .i64 3))])
    (out := [(27, .val (Lit (.int .i64 2))), (28, .val (Lit (.int .i64 3))), (9, .box 42 15 (IsBook w0.heap.size (fun _ => True) m8 m39 ([g42]) 3)), (58, .val (IsHd g42 (IsC (powNum b n)))), (49, .val (IsB (powOk b n))), (50, .val (IsB (powOk b n))), (51, .val (IsB false)), (52, .val (IsB false)), (53, .val (IsHd g42 (IsC (powNum b n)))), (55, .val (IsB true)), (56, .val (IsB false)), (57, .val (IsB false)), (944, .val (Sz m44)), (40, .val (Lit (.int .i64 2))), (42, .val (Lit (.int .u32 b))), (43, .val (Lit (.int .i64 2))), (45, .val (Lit (.int .i64 n))), (48, .val (IsB (powOk b n))), (15, .val (IsHd g42 (IsC (powNum b n)))), (16, .val (IsB (powOk b n))), (939, .val (Sz m39)), (30, .val (Lit (.int .i64 2))), (32, .val (Lit (.int .u32 b))), (33, .val (Lit (.int .i64 2))), (35, .val (Lit (.int .i64 n))), (38, .val (IsB (powOk b n))), (14, .val (IsB (powOk b n))), (25, .val (Lit (.int .i64 2))), (26, .val (IsB true)), (12, .val (Lit (.int .i64 2))), (930, .val (Sz m30)), (925, .val (Sz m25)), (916, .val (Sz m16)), (908, .val (Sz m8)), (11, .box 62 3 (AL [.int .i64 n, .int .i64 m, .int .i64 n])), (10, .box 61 3 (AL [.int .u32 b, .int .u32 c, .int .u32 b])), (8, .val (IsB false)), (64, .val (Sz w0.heap.size)), (65, .val (TabV w0.heap.size))]) (nb := []) H47 2 [2] rfl (by kernel_rfl) rfl rfl ?_ ?_
  · refine .cons (.plain rfl (ok_move (.tmp 0 rfl))) ?_
    refine .cons (.plain rfl (ok_add (r := 3) (.tmp 0 rfl) (.lit) (by decide))) ?_
    exact .nil
  clear H47 a47 w47 B47
  intro a48 w48 B48 H48
  refine ops_one ?_
  refine tail_op (D := .val (Lit (.int .i64 3))) (l' := [(12, .val (Lit (.int .i64 3))), (27, .val (Lit (.int .i64 2))), (28, .val (Lit (.int .i64 3))), (9, .box 42 15 (IsBook w0.heap.size (fun _ => True) m8 m39 ([g42]) 3)), (58, .val (IsHd g42 (IsC (powNum b n)))), (49, .val (IsB (powOk b n))), (50, .val (IsB (powOk b n))), (51, .val (IsB false)), (52, .val (IsB false)), (53, .val (IsHd g42 (IsC (powNum b n)))), (55, .val (IsB true)), (56, .val (IsB false)), (57, .val (IsB false)), (944, .val (Sz m44)), (40, .val (Lit (.int .i64 2))), (42, .val (Lit (.int .u32 b))), (43, .val (Lit (.int .i64 2))), (45, .val (Lit (.int .i64 n))), (48, .val (IsB (powOk b n))), (15, .val (IsHd g42 (IsC (powNum b n)))), (16, .val (IsB (powOk b n))), (939, .val (Sz m39)), (30, .val (Lit (.int .i64 2))), (32, .val (Lit (.int .u32 b))), (33, .val (Lit (.int .i64 2))), (35, .val (Lit (.int .i64 n))), (38, .val (IsB (powOk b n))), (14, .val (IsB (powOk b n))), (25, .val (Lit (.int .i64 2))), (26, .val (IsB true)), (930, .val (Sz m30)), (925, .val (Sz m25)), (916, .val (Sz m16)), (908, .val (Sz m8)), (11, .box 62 3 (AL [.int .i64 n, .int .i64 m, .int .i64 n])), (10, .box 61 3 (AL [.int .u32 b, .int .u32 c, .int .u32 b])), (8, .val (IsB false)), (64, .val (Sz w0.heap.size)), (65, .val (TabV w0.heap.size))]) H48 rfl rfl rfl (.plain rfl (ok_assign (.tmp 1 rfl))) rfl rfl ?_
  clear H48 a48 w48 B48
  intro a49 w49 B49 H49
  refine ops_done ?_
  refine then_normal ?_
  rw [rounds_succ]
  refine wp_seq ?_
  refine wp_seq ?_
  refine flow_region (dsts := [some 25, some 26]) (refs := [[.pre 0], [.res 0]]) (outs := [.res 0, .res 1, .pre 0, .pre 1, .pre 2, .pre 3, .pre 4, .pre 5, .pre 6, .pre 7, .pre 8, .pre 9, .pre 10, .pre 11, .pre 12, .pre 13, .pre 14, .pre 15, .pre 16, .pre 17, .pre 18, .pre 19, .pre 20, .pre 21, .pre 22, .pre 23, .pre 24, .pre 25, .pre 26, .pre 27, .pre 30, .pre 31, .pre 32, .pre 33, .pre 34, .pre 35, .pre 36, .pre 37, .pre 38]) (als := [false, false]) (posts := [.val (Lit (.int .i64 3)), .val (IsB false)])
    (out := [(25, .val (Lit (.int .i64 3))), (26, .val (IsB false)), (12, .val (Lit (.int .i64 3))), (27, .val (Lit (.int .i64 2))), (28, .val (Lit (.int .i64 3))), (9, .box 42 15 (IsBook w0.heap.size (fun _ => True) m8 m39 ([g42]) 3)), (58, .val (IsHd g42 (IsC (powNum b n)))), (49, .val (IsB (powOk b n))), (50, .val (IsB (powOk b n))), (51, .val (IsB false)), (52, .val (IsB false)), (53, .val (IsHd g42 (IsC (powNum b n)))), (55, .val (IsB true)), (56, .val (IsB false)), (57, .val (IsB false)), (944, .val (Sz m44)), (40, .val (Lit (.int .i64 2))), (42, .val (Lit (.int .u32 b))), (43, .val (Lit (.int .i64 2))), (45, .val (Lit (.int .i64 n))), (48, .val (IsB (powOk b n))), (15, .val (IsHd g42 (IsC (powNum b n)))), (16, .val (IsB (powOk b n))), (939, .val (Sz m39)), (30, .val (Lit (.int .i64 2))), (32, .val (Lit (.int .u32 b))), (33, .val (Lit (.int .i64 2))), (35, .val (Lit (.int .i64 n))), (38, .val (IsB (powOk b n))), (14, .val (IsB (powOk b n))), (930, .val (Sz m30)), (925, .val (Sz m25)), (916, .val (Sz m16)), (908, .val (Sz m8)), (11, .box 62 3 (AL [.int .i64 n, .int .i64 m, .int .i64 n])), (10, .box 61 3 (AL [.int .u32 b, .int .u32 c, .int .u32 b])), (8, .val (IsB false)), (64, .val (Sz w0.heap.size)), (65, .val (TabV w0.heap.size))]) (nb := []) H49 2 [] rfl (by kernel_rfl) rfl rfl ?_ ?_
  · refine .cons (.plain rfl (ok_move (.tmp 0 rfl))) ?_
    refine .cons (.plain rfl (ok_cmp (b := false) (.tmp 0 rfl) (.lit) (by decide))) ?_
    exact .nil
  clear H49 a49 w49 B49
  intro a50 w50 B50 H50
  refine ops_done ?_
  refine then_normal ?_
  refine f_condF H50 (.tmp 1 rfl) ?_
  refine wp_exit ?_
  refine then_exit ?_
  refine then_exit ?_
  refine block_exit ?_
  refine then_normal ?_
  refine wp_seq ?_
  refine flow_region (dsts := []) (refs := []) (outs := [.pre 0, .pre 1, .pre 2, .pre 3, .pre 4, .pre 5, .pre 6, .pre 7, .pre 8, .pre 9, .pre 10, .pre 11, .pre 12, .pre 13, .pre 14, .pre 15, .pre 16, .pre 17, .pre 18, .pre 19, .pre 20, .pre 21, .pre 22, .pre 23, .pre 24, .pre 25, .pre 26, .pre 27, .pre 28, .pre 29, .pre 30, .pre 31, .pre 32, .pre 33, .pre 34, .pre 35, .pre 36, .pre 37, .pre 38]) (als := []) (posts := [])
    (out := [(25, .val (Lit (.int .i64 3))), (26, .val (IsB false)), (12, .val (Lit (.int .i64 3))), (27, .val (Lit (.int .i64 2))), (28, .val (Lit (.int .i64 3))), (9, .box 42 15 (IsBook w0.heap.size (fun _ => True) m8 m39 ([g42]) 3)), (58, .val (IsHd g42 (IsC (powNum b n)))), (49, .val (IsB (powOk b n))), (50, .val (IsB (powOk b n))), (51, .val (IsB false)), (52, .val (IsB false)), (53, .val (IsHd g42 (IsC (powNum b n)))), (55, .val (IsB true)), (56, .val (IsB false)), (57, .val (IsB false)), (944, .val (Sz m44)), (40, .val (Lit (.int .i64 2))), (42, .val (Lit (.int .u32 b))), (43, .val (Lit (.int .i64 2))), (45, .val (Lit (.int .i64 n))), (48, .val (IsB (powOk b n))), (15, .val (IsHd g42 (IsC (powNum b n)))), (16, .val (IsB (powOk b n))), (939, .val (Sz m39)), (30, .val (Lit (.int .i64 2))), (32, .val (Lit (.int .u32 b))), (33, .val (Lit (.int .i64 2))), (35, .val (Lit (.int .i64 n))), (38, .val (IsB (powOk b n))), (14, .val (IsB (powOk b n))), (930, .val (Sz m30)), (925, .val (Sz m25)), (916, .val (Sz m16)), (908, .val (Sz m8)), (11, .box 62 3 (AL [.int .i64 n, .int .i64 m, .int .i64 n])), (10, .box 61 3 (AL [.int .u32 b, .int .u32 c, .int .u32 b])), (8, .val (IsB false)), (64, .val (Sz w0.heap.size)), (65, .val (TabV w0.heap.size))]) (nb := []) H50 0 [0, 1, 2, 3, 4] rfl (by kernel_rfl) rfl rfl ?_ ?_
  · exact .nil
  clear H50 a50 w50 B50
  intro a51 w51 B51 H51
  refine ops_one ?_
  refine apart_op2 (ks := [(25, .val (Lit (.int .i64 3))), (26, .val (IsB false)), (12, .val (Lit (.int .i64 3))), (27, .val (Lit (.int .i64 2))), (28, .val (Lit (.int .i64 3))), (49, .val (IsB (powOk b n))), (50, .val (IsB (powOk b n))), (51, .val (IsB false)), (52, .val (IsB false)), (55, .val (IsB true)), (56, .val (IsB false)), (57, .val (IsB false)), (944, .val (Sz m44)), (40, .val (Lit (.int .i64 2))), (42, .val (Lit (.int .u32 b))), (43, .val (Lit (.int .i64 2))), (45, .val (Lit (.int .i64 n))), (48, .val (IsB (powOk b n))), (16, .val (IsB (powOk b n))), (939, .val (Sz m39)), (30, .val (Lit (.int .i64 2))), (32, .val (Lit (.int .u32 b))), (33, .val (Lit (.int .i64 2))), (35, .val (Lit (.int .i64 n))), (38, .val (IsB (powOk b n))), (14, .val (IsB (powOk b n))), (930, .val (Sz m30)), (925, .val (Sz m25)), (916, .val (Sz m16)), (908, .val (Sz m8)), (8, .val (IsB false)), (64, .val (Sz w0.heap.size)), (65, .val (TabV w0.heap.size))]) 5 [0, 1, 2, 3, 4, 7, 8, 9, 10, 12, 13, 14, 15, 16, 17, 18, 19, 20, 22, 23, 24, 25, 26, 27, 28, 29, 30, 31, 32, 33, 36, 37, 38] H51 rfl rfl (wanted_none rfl) rfl (rfl) (by omega) rfl (by kernel_rfl) (.cons (keptZ_lit) (.cons (keptZ_lit) (.cons (keptZ_lit) (.cons (keptZ_lit) (.cons (keptZ_lit) (.cons (keptZ_lit) (.cons (keptZ_lit) (.cons (keptZ_lit) (.cons (keptZ_lit) (.cons (keptZ_lit) (.cons (keptZ_lit) (.cons (keptZ_lit) (.cons (keptZ_sz) (.cons (keptZ_lit) (.cons (keptZ_lit) (.cons (keptZ_lit) (.cons (keptZ_lit) (.cons (keptZ_lit) (.cons (keptZ_lit) (.cons (keptZ_sz) (.cons (keptZ_lit) (.cons (keptZ_lit) (.cons (keptZ_lit) (.cons (keptZ_lit) (.cons (keptZ_lit) (.cons (keptZ_lit) (.cons (keptZ_sz) (.cons (keptZ_sz) (.cons (keptZ_sz) (.cons (keptZ_sz) (.cons (keptZ_lit) (.cons (keptZ_sz) (.cons (keptZ_tab (Nat.le_refl _)) (.nil)))))))))))))))))))))))))))))))))) ?_
  clear H51 a51 w51 B51
  intro a52 w52 B52 H52
  refine ops_one ?_
  refine tail_op (D := .val (IsB true)) (l' := [(61, .val (IsB true)), (60, .val (IsB true)), (25, .val (Lit (.int .i64 3))), (26, .val (IsB false)), (12, .val (Lit (.int .i64 3))), (27, .val (Lit (.int .i64 2))), (28, .val (Lit (.int .i64 3))), (49, .val (IsB (powOk b n))), (50, .val (IsB (powOk b n))), (51, .val (IsB false)), (52, .val (IsB false)), (55, .val (IsB true)), (56, .val (IsB false)), (57, .val (IsB false)), (944, .val (Sz m44)), (40, .val (Lit (.int .i64 2))), (42, .val (Lit (.int .u32 b))), (43, .val (Lit (.int .i64 2))), (45, .val (Lit (.int .i64 n))), (48, .val (IsB (powOk b n))), (16, .val (IsB (powOk b n))), (939, .val (Sz m39)), (30, .val (Lit (.int .i64 2))), (32, .val (Lit (.int .u32 b))), (33, .val (Lit (.int .i64 2))), (35, .val (Lit (.int .i64 n))), (38, .val (IsB (powOk b n))), (14, .val (IsB (powOk b n))), (930, .val (Sz m30)), (925, .val (Sz m25)), (916, .val (Sz m16)), (908, .val (Sz m8)), (8, .val (IsB false)), (64, .val (Sz w0.heap.size)), (65, .val (TabV w0.heap.size))]) H52 rfl rfl rfl (.plain rfl (ok_move (.tmp 0 rfl))) rfl rfl ?_
  clear H52 a52 w52 B52
  intro a53 w53 B53 H53
  refine ops_one ?_
  refine tail_op (D := .val (IsB true)) (l' := [(62, .val (IsB true)), (61, .val (IsB true)), (60, .val (IsB true)), (25, .val (Lit (.int .i64 3))), (26, .val (IsB false)), (12, .val (Lit (.int .i64 3))), (27, .val (Lit (.int .i64 2))), (28, .val (Lit (.int .i64 3))), (49, .val (IsB (powOk b n))), (50, .val (IsB (powOk b n))), (51, .val (IsB false)), (52, .val (IsB false)), (55, .val (IsB true)), (56, .val (IsB false)), (57, .val (IsB false)), (944, .val (Sz m44)), (40, .val (Lit (.int .i64 2))), (42, .val (Lit (.int .u32 b))), (43, .val (Lit (.int .i64 2))), (45, .val (Lit (.int .i64 n))), (48, .val (IsB (powOk b n))), (16, .val (IsB (powOk b n))), (939, .val (Sz m39)), (30, .val (Lit (.int .i64 2))), (32, .val (Lit (.int .u32 b))), (33, .val (Lit (.int .i64 2))), (35, .val (Lit (.int .i64 n))), (38, .val (IsB (powOk b n))), (14, .val (IsB (powOk b n))), (930, .val (Sz m30)), (925, .val (Sz m25)), (916, .val (Sz m16)), (908, .val (Sz m8)), (8, .val (IsB false)), (64, .val (Sz w0.heap.size)), (65, .val (TabV w0.heap.size))]) H53 rfl rfl rfl (.wanted 1 true rfl rfl rfl 0 rfl (ok_callT 14 34 (con_lives2) rfl rfl (.nil))) rfl rfl ?_
  clear H53 a53 w53 B53
  intro a54 w54 B54 H54
  refine ops_one ?_
  refine tail_op (D := .val (IsB true)) (l' := [(63, .val (IsB true)), (62, .val (IsB true)), (61, .val (IsB true)), (60, .val (IsB true)), (25, .val (Lit (.int .i64 3))), (26, .val (IsB false)), (12, .val (Lit (.int .i64 3))), (27, .val (Lit (.int .i64 2))), (28, .val (Lit (.int .i64 3))), (49, .val (IsB (powOk b n))), (50, .val (IsB (powOk b n))), (51, .val (IsB false)), (52, .val (IsB false)), (55, .val (IsB true)), (56, .val (IsB false)), (57, .val (IsB false)), (944, .val (Sz m44)), (40, .val (Lit (.int .i64 2))), (42, .val (Lit (.int .u32 b))), (43, .val (Lit (.int .i64 2))), (45, .val (Lit (.int .i64 n))), (48, .val (IsB (powOk b n))), (16, .val (IsB (powOk b n))), (939, .val (Sz m39)), (30, .val (Lit (.int .i64 2))), (32, .val (Lit (.int .u32 b))), (33, .val (Lit (.int .i64 2))), (35, .val (Lit (.int .i64 n))), (38, .val (IsB (powOk b n))), (14, .val (IsB (powOk b n))), (930, .val (Sz m30)), (925, .val (Sz m25)), (916, .val (Sz m16)), (908, .val (Sz m8)), (8, .val (IsB false)), (64, .val (Sz w0.heap.size)), (65, .val (TabV w0.heap.size))]) H54 rfl rfl rfl (.plain rfl (ok_pickT (.tmp 1 rfl) (.tmp 0 rfl))) rfl rfl ?_
  clear H54 a54 w54 B54
  intro a55 w55 B55 H55
  refine ops_one ?_
  refine tail_op (D := .val (IsB true)) (l' := [(8, .val (IsB true)), (63, .val (IsB true)), (62, .val (IsB true)), (61, .val (IsB true)), (60, .val (IsB true)), (25, .val (Lit (.int .i64 3))), (26, .val (IsB false)), (12, .val (Lit (.int .i64 3))), (27, .val (Lit (.int .i64 2))), (28, .val (Lit (.int .i64 3))), (49, .val (IsB (powOk b n))), (50, .val (IsB (powOk b n))), (51, .val (IsB false)), (52, .val (IsB false)), (55, .val (IsB true)), (56, .val (IsB false)), (57, .val (IsB false)), (944, .val (Sz m44)), (40, .val (Lit (.int .i64 2))), (42, .val (Lit (.int .u32 b))), (43, .val (Lit (.int .i64 2))), (45, .val (Lit (.int .i64 n))), (48, .val (IsB (powOk b n))), (16, .val (IsB (powOk b n))), (939, .val (Sz m39)), (30, .val (Lit (.int .i64 2))), (32, .val (Lit (.int .u32 b))), (33, .val (Lit (.int .i64 2))), (35, .val (Lit (.int .i64 n))), (38, .val (IsB (powOk b n))), (14, .val (IsB (powOk b n))), (930, .val (Sz m30)), (925, .val (Sz m25)), (916, .val (Sz m16)), (908, .val (Sz m8)), (64, .val (Sz w0.heap.size)), (65, .val (TabV w0.heap.size))]) H55 rfl rfl rfl (.plain rfl (ok_assign (.tmp 0 rfl))) rfl rfl ?_
  clear H55 a55 w55 B55
  intro a56 w56 B56 H56
  refine ops_done ?_
  refine then_normal ?_
  refine wp_ret ?_
  exact f_ret H56 rfl 0 rfl (fun _ _ _ h => h)

theorem walk_QuotPowers (w : World) (hU : Tab32 w) (b : Int) (hb : 0 ≤ b ∧ b < 4294967296) (n : Int) (hn : -9223372036854775808 ≤ n ∧ n < 9223372036854775808) (c : Int) (hc : 0 ≤ c ∧ c < 4294967296) (m : Int) (hm : -9223372036854775808 ≤ m ∧ m < 9223372036854775808)  :
    Calls Tryz.prog 7 #[.int .u32 b, .int .i64 n, .int .u32 c, .int .i64 m] w (LawTrue w) := by
  refine ((con_QuotPowers   b hb n hn c hc m hm   ).calls 0 [.int .u32 b, .int .i64 n, .int .u32 c, .int .i64 m] w (fun _ => False) (Nat.zero_le _) (fun _ h => h.elim) hU ⟨rfl, rfl, rfl, rfl, trivial⟩).mono ?_
  rintro e w' ⟨v, rfl, h, hb⟩
  obtain rfl := h
  exact ⟨rfl, hb⟩
end Go.Proofs.YtbcbmkeeoognpaaGreatDoor
