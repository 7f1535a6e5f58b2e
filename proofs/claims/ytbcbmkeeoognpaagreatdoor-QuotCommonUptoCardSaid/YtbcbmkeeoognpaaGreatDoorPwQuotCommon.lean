/- The law QuotCommon: its walk. -/
import Derived.Test.YtbcbmkeeoognpaaGreatDoorPk2
import Derived.Test.YtbcbmkeeoognpaaGreatDoorPk6
import Derived.Test.YtbcbmkeeoognpaaGreatDoorPk30
set_option linter.unusedVariables false
set_option linter.unusedSimpArgs false
/- The law QuotCommon: its walk by what the slots hold. (Printed by flowbook.py.) -/
namespace Go.Proofs.YtbcbmkeeoognpaaGreatDoor
open Go Go.RowKit

set_option maxRecDepth 20000 in
set_option maxHeartbeats 8000000 in
theorem con_QuotCommon (na : Nat) (xa : List Int) (nb : Nat) (xb : List Int) (hna : na ≤ 1048576) (hnb : nb ≤ 1048576) : ConT Tryz.prog 6 [IsAn na xa, IsAn nb xb] (fun _ => IsB true) := by
  refine f_enterT (N := 57) Tryz.ntmps6 (fun _ _ => by go_simp) Tryz.func6 rfl (by simp) ?_
  intro a0 w0 B0 H0
  replace H0 : St 57 w0 B0 a0 w0 B0 [(0, .val (IsAn na xa)), (1, .val (IsAn nb xb)), (57, .val (Sz w0.heap.size)), (58, .val (TabV w0.heap.size))] [] := H0
  have H1 := St.setw H0 0 (D' := IsAb w0.heap.size na xa) rfl (fun v h => hardAn (Nat.le_refl _) v h) (l' := [(0, .val (IsAb w0.heap.size na xa)), (1, .val (IsAn nb xb)), (57, .val (Sz w0.heap.size)), (58, .val (TabV w0.heap.size))]) rfl
  clear H0
  have H2 := St.setw H1 1 (D' := IsAb w0.heap.size nb xb) rfl (fun v h => hardAn (Nat.le_refl _) v h) (l' := [(0, .val (IsAb w0.heap.size na xa)), (1, .val (IsAb w0.heap.size nb xb)), (57, .val (Sz w0.heap.size)), (58, .val (TabV w0.heap.size))]) rfl
  clear H1
  refine wp_seq ?_
  refine flow_region (dsts := [some 4]) (refs := [[]]) (outs := [.res 0, .pre 0, .pre 1, .pre 2, .pre 3]) (als := [false]) (posts := [.val (IsB false)])
    (out := [(4, .val (IsB false)), (0, .val (IsAb w0.heap.size na xa)), (1, .val (IsAb w0.heap.size nb xb)), (57, .val (Sz w0.heap.size)), (58, .val (TabV w0.heap.size))]) (nb := []) H2 1 [] rfl (by kernel_rfl) rfl rfl ?_ ?_
  · refine .cons (.plain rfl (ok_assign (.lit))) ?_
    exact .nil
  clear H2
  intro a3 w3 B3 H3
  refine ops_done ?_
  refine then_normal ?_
  refine wp_seq ?_
  refine flow_region (dsts := [some 5]) (refs := [[]]) (outs := [.res 0, .pre 0, .pre 1, .pre 2, .pre 3, .pre 4]) (als := [true]) (posts := [.box 42 15 (IsBook w0.heap.size (fun _ => True) 0 0 ([]) 0)])
    (out := [(5, .box 42 15 (IsBook w0.heap.size (fun _ => True) 0 0 ([]) 0)), (4, .val (IsB false)), (0, .val (IsAb w0.heap.size na xa)), (1, .val (IsAb w0.heap.size nb xb)), (57, .val (Sz w0.heap.size)), (58, .val (TabV w0.heap.size))]) (nb := [5]) H3 1 [] rfl (by kernel_rfl) rfl rfl ?_ ?_
  · refine .cons (.plain rfl (ok_allocBook)) ?_
    exact .nil
  clear H3 a3 w3 B3
  intro a4 w4 B4 H4
  simp only [List.cons_append, List.nil_append] at H4
  refine ops_done ?_
  refine then_normal ?_
  refine wp_seq ?_
  refine flow_region (dsts := [some 8, some 9, some 6]) (refs := [[.pre 2], [.res 0, .pre 4], [.res 1]]) (outs := [.res 2, .pre 0, .pre 1, .pre 2, .pre 3, .pre 4, .pre 5]) (als := [false, false, false]) (posts := [.val (IsAb w0.heap.size na xa), .val (IsFr w0.heap.size (IsTN na xa)), .val (IsFr w0.heap.size (IsTN na xa))])
    (out := [(6, .val (IsFr w0.heap.size (IsTN na xa))), (5, .box 42 15 (IsBook w0.heap.size (fun _ => True) 0 0 ([]) 0)), (4, .val (IsB false)), (0, .val (IsAb w0.heap.size na xa)), (1, .val (IsAb w0.heap.size nb xb)), (57, .val (Sz w0.heap.size)), (58, .val (TabV w0.heap.size))]) (nb := []) H4 3 [] rfl (by kernel_rfl) rfl rfl ?_ ?_
  · refine .cons (.plain rfl (ok_move (.tmp 0 rfl))) ?_
    refine .cons (.plain rfl (ok_callF 1 (con_twinF na xa (by omega)) rfl (.cons (.weak (.tmp 0 rfl) weakAb) (.nil)))) ?_
    refine .cons (.plain rfl (ok_assign (.tmp 0 rfl))) ?_
    exact .nil
  clear H4 a4 w4 B4
  intro a5 w5 B5 H5
  refine ops_done ?_
  refine then_normal ?_
  refine wp_seq ?_
  obtain ⟨g6, hg6, H6⟩ := St.nameF H5 0 rfl (l' := fun g6 => [(6, .val (IsHd g6 (IsTN na xa))), (5, .box 42 15 (IsBook w0.heap.size (fun _ => True) 0 0 ([]) 0)), (4, .val (IsB false)), (0, .val (IsAb w0.heap.size na xa)), (1, .val (IsAb w0.heap.size nb xb)), (57, .val (Sz w0.heap.size)), (58, .val (TabV w0.heap.size))]) (fun _ => rfl)
  clear H5
  replace H6 : St 57 w0 B0 a5 w5 B5 [(6, .val (IsHd g6 (IsTN na xa))), (5, .box 42 15 (IsBook w0.heap.size (fun _ => True) 0 0 ([]) 0)), (4, .val (IsB false)), (0, .val (IsAb w0.heap.size na xa)), (1, .val (IsAb w0.heap.size nb xb)), (57, .val (Sz w0.heap.size)), (58, .val (TabV w0.heap.size))] [5] := H6
  have hz7 : w0.heap.size ≤ w5.heap.size := H6.fc.get 5 rfl
  obtain ⟨m8, hm8, hw8, hL8, H8⟩ := St.mark H6 908
  clear H6
  clear hL8
  replace hz7 : w0.heap.size ≤ m8 := Nat.le_trans hz7 hw8
  replace hg6 : ∀ b, g6 = some b → w0.heap.size ≤ b ∧ b < m8 := fun b hb => ⟨(hg6 b hb).1, Nat.lt_of_lt_of_le (hg6 b hb).2 hw8⟩
  clear hw8
  refine flow_region (dsts := [some 10, some 11, some 7]) (refs := [[.pre 5], [.res 0, .pre 0], [.res 1]]) (outs := [.res 2, .pre 0, .pre 1, .pre 2, .pre 3, .pre 4, .pre 5, .pre 6, .pre 7]) (als := [false, false, false]) (posts := [.val (IsAb w0.heap.size nb xb), .val (IsFr m8 (IsTN nb xb)), .val (IsFr m8 (IsTN nb xb))])
    (out := [(7, .val (IsFr m8 (IsTN nb xb))), (908, .val (Sz m8)), (6, .val (IsHd g6 (IsTN na xa))), (5, .box 42 15 (IsBook w0.heap.size (fun _ => True) 0 0 ([]) 0)), (4, .val (IsB false)), (0, .val (IsAb w0.heap.size na xa)), (1, .val (IsAb w0.heap.size nb xb)), (57, .val (Sz w0.heap.size)), (58, .val (TabV w0.heap.size))]) (nb := []) H8 3 [] rfl (by kernel_rfl) rfl rfl ?_ ?_
  · refine .cons (.plain rfl (ok_move (.tmp 0 rfl))) ?_
    refine .cons (.plain rfl (ok_callF 1 (con_twinF nb xb (by omega)) rfl (.cons (.weak (.tmp 0 rfl) weakAb) (.nil)))) ?_
    refine .cons (.plain rfl (ok_assign (.tmp 0 rfl))) ?_
    exact .nil
  clear H8 a5 w5 B5
  intro a9 w9 B9 H9
  refine ops_done ?_
  refine then_normal ?_
  refine wp_seq ?_
  refine wp_seq ?_
  obtain ⟨g10, hg10, H10⟩ := St.nameF H9 0 rfl (l' := fun g10 => [(7, .val (IsHd g10 (IsTN nb xb))), (908, .val (Sz m8)), (6, .val (IsHd g6 (IsTN na xa))), (5, .box 42 15 (IsBook w0.heap.size (fun _ => True) 0 0 ([]) 0)), (4, .val (IsB false)), (0, .val (IsAb w0.heap.size na xa)), (1, .val (IsAb w0.heap.size nb xb)), (57, .val (Sz w0.heap.size)), (58, .val (TabV w0.heap.size))]) (fun _ => rfl)
  clear H9
  replace H10 : St 57 w0 B0 a9 w9 B9 [(7, .val (IsHd g10 (IsTN nb xb))), (908, .val (Sz m8)), (6, .val (IsHd g6 (IsTN na xa))), (5, .box 42 15 (IsBook w0.heap.size (fun _ => True) 0 0 ([]) 0)), (4, .val (IsB false)), (0, .val (IsAb w0.heap.size na xa)), (1, .val (IsAb w0.heap.size nb xb)), (57, .val (Sz w0.heap.size)), (58, .val (TabV w0.heap.size))] [5] := H10
  have hz11 : m8 ≤ w9.heap.size := H10.fc.get 1 rfl
  obtain ⟨m12, hm12, hw12, hL12, H12⟩ := St.mark H10 912
  clear H10
  clear hL12
  replace hz11 : m8 ≤ m12 := Nat.le_trans hz11 hw12
  replace hg10 : ∀ b, g10 = some b → m8 ≤ b ∧ b < m12 := fun b hb => ⟨(hg10 b hb).1, Nat.lt_of_lt_of_le (hg10 b hb).2 hw12⟩
  clear hw12
  have H13 := St.setwB H12 4 (D' := IsBook w0.heap.size (fun _ => True) m12 m12 ([]) 0) rfl (fun v h => book_empty v h) (l' := [(912, .val (Sz m12)), (7, .val (IsHd g10 (IsTN nb xb))), (908, .val (Sz m8)), (6, .val (IsHd g6 (IsTN na xa))), (5, .box 42 15 (IsBook w0.heap.size (fun _ => True) m12 m12 ([]) 0)), (4, .val (IsB false)), (0, .val (IsAb w0.heap.size na xa)), (1, .val (IsAb w0.heap.size nb xb)), (57, .val (Sz w0.heap.size)), (58, .val (TabV w0.heap.size))]) rfl
  clear H12
  refine flow_region (dsts := [some 12, some 13]) (refs := [[.pre 3], [.pre 1]]) (outs := [.res 0, .res 1, .pre 0, .pre 1, .pre 2, .pre 3, .pre 4, .pre 5, .pre 6, .pre 7, .pre 8, .pre 9]) (als := [false, false]) (posts := [.val (IsHd g6 (IsTN na xa)), .val (IsHd g10 (IsTN nb xb))])
    (out := [(12, .val (IsHd g6 (IsTN na xa))), (13, .val (IsHd g10 (IsTN nb xb))), (912, .val (Sz m12)), (7, .val (IsHd g10 (IsTN nb xb))), (908, .val (Sz m8)), (6, .val (IsHd g6 (IsTN na xa))), (5, .box 42 15 (IsBook w0.heap.size (fun _ => True) m12 m12 ([]) 0)), (4, .val (IsB false)), (0, .val (IsAb w0.heap.size na xa)), (1, .val (IsAb w0.heap.size nb xb)), (57, .val (Sz w0.heap.size)), (58, .val (TabV w0.heap.size))]) (nb := []) H13 2 [2, 3, 4, 5, 6, 7, 8, 9, 10, 11, 12, 13, 14, 15, 16, 17, 18, 19, 20] rfl (by kernel_rfl) rfl rfl ?_ ?_
  · refine .cons (.plain rfl (ok_move (.tmp 0 rfl))) ?_
    refine .cons (.plain rfl (ok_move (.tmp 0 rfl))) ?_
    exact .nil
  clear H13 a9 w9 B9
  intro a14 w14 B14 H14
  refine ops_one ?_
  refine book_op (cnt := 0) (n := 1) (xs := [.tmp 12, .tmp 13]) (ks := [(12, .val (IsHd g6 (IsTN na xa))), (13, .val (IsHd g10 (IsTN nb xb))), (912, .val (Sz m12)), (7, .val (IsHd g10 (IsTN nb xb))), (908, .val (Sz m8)), (6, .val (IsHd g6 (IsTN na xa))), (4, .val (IsB false)), (0, .val (IsAb w0.heap.size na xa)), (1, .val (IsAb w0.heap.size nb xb)), (57, .val (Sz w0.heap.size)), (58, .val (TabV w0.heap.size))]) 6 2 [0, 1, 2, 3, 4, 5, 7, 8, 9, 10, 11] H14 rfl (wanted_none rfl) (fun _ _ => by go_simp) (bk_common g6 g10 na xa nb xb (by omega) (by omega)) rfl (rfl) (.cons (.weak (.tmp 0 rfl) (weakHdHd weakTNAn)) (.cons (.weak (.tmp 1 rfl) (weakHdHd weakTNAn)) (.nil))) rfl (by omega) (fun _ _ => trivial) rfl (by kernel_rfl) (.cons (keptB_hd loc_TN) (.cons (keptB_hd loc_TN) (.cons (keptB_sz) (.cons (keptB_hd loc_TN) (.cons (keptB_sz) (.cons (keptB_hd loc_TN) (.cons (keptB_lit) (.cons (keptB_ab (Nat.le_refl _)) (.cons (keptB_ab (Nat.le_refl _)) (.cons (keptB_sz) (.cons (keptB_tab (Nat.le_refl _)) (.nil)))))))))))) (by decide) ?_
  clear H14 a14 w14 B14
  intro a15 w15 B15 hi15 H15
  replace H15 : St 57 w0 B0 a15 w15 B15 [(14, .val (IsB true)), (5, .box 42 15 (IsBook w0.heap.size (fun _ => True) m12 hi15 ([]) 1)), (12, .val (IsHd g6 (IsTN na xa))), (13, .val (IsHd g10 (IsTN nb xb))), (912, .val (Sz m12)), (7, .val (IsHd g10 (IsTN nb xb))), (908, .val (Sz m8)), (6, .val (IsHd g6 (IsTN na xa))), (4, .val (IsB false)), (0, .val (IsAb w0.heap.size na xa)), (1, .val (IsAb w0.heap.size nb xb)), (57, .val (Sz w0.heap.size)), (58, .val (TabV w0.heap.size))] [5] := H15
  refine ops_one ?_
  refine tail_op (D := .val (IsB false)) (l' := [(15, .val (IsB false)), (14, .val (IsB true)), (5, .box 42 15 (IsBook w0.heap.size (fun _ => True) m12 hi15 ([]) 1)), (12, .val (IsHd g6 (IsTN na xa))), (13, .val (IsHd g10 (IsTN nb xb))), (912, .val (Sz m12)), (7, .val (IsHd g10 (IsTN nb xb))), (908, .val (Sz m8)), (6, .val (IsHd g6 (IsTN na xa))), (4, .val (IsB false)), (0, .val (IsAb w0.heap.size na xa)), (1, .val (IsAb w0.heap.size nb xb)), (57, .val (Sz w0.heap.size)), (58, .val (TabV w0.heap.size))]) H15 rfl rfl rfl (.plain rfl (ok_not (b := true) (.tmp 0 rfl))) rfl rfl ?_
  clear H15 a15 w15 B15
  intro a16 w16 B16 H16
  refine ops_one ?_
  refine tail_op (D := .val (IsB false)) (l' := [(16, .val (IsB false)), (15, .val (IsB false)), (14, .val (IsB true)), (5, .box 42 15 (IsBook w0.heap.size (fun _ => True) m12 hi15 ([]) 1)), (12, .val (IsHd g6 (IsTN na xa))), (13, .val (IsHd g10 (IsTN nb xb))), (912, .val (Sz m12)), (7, .val (IsHd g10 (IsTN nb xb))), (908, .val (Sz m8)), (6, .val (IsHd g6 (IsTN na xa))), (4, .val (IsB false)), (0, .val (IsAb w0.heap.size na xa)), (1, .val (IsAb w0.heap.size nb xb)), (57, .val (Sz w0.heap.size)), (58, .val (TabV w0.heap.size))]) H16 rfl rfl rfl (.plain rfl (ok_move (.tmp 0 rfl))) rfl rfl ?_
  clear H16 a16 w16 B16
  intro a17 w17 B17 H17
  refine ops_one ?_
  refine tail_op (D := .val (IsHd g10 (IsTN nb xb))) (l' := [(17, .val (IsHd g10 (IsTN nb xb))), (16, .val (IsB false)), (15, .val (IsB false)), (14, .val (IsB true)), (5, .box 42 15 (IsBook w0.heap.size (fun _ => True) m12 hi15 ([]) 1)), (12, .val (IsHd g6 (IsTN na xa))), (13, .val (IsHd g10 (IsTN nb xb))), (912, .val (Sz m12)), (7, .val (IsHd g10 (IsTN nb xb))), (908, .val (Sz m8)), (6, .val (IsHd g6 (IsTN na xa))), (4, .val (IsB false)), (0, .val (IsAb w0.heap.size na xa)), (1, .val (IsAb w0.heap.size nb xb)), (57, .val (Sz w0.heap.size)), (58, .val (TabV w0.heap.size))]) H17 rfl rfl rfl (.wanted 4 false rfl rfl rfl 0 rfl (ok_move (.tmp 7 rfl))) rfl rfl ?_
  clear H17 a17 w17 B17
  intro a18 w18 B18 H18
  refine ops_one ?_
  refine tail_op (D := .val (IsHd g6 (IsTN na xa))) (l' := [(18, .val (IsHd g6 (IsTN na xa))), (17, .val (IsHd g10 (IsTN nb xb))), (16, .val (IsB false)), (15, .val (IsB false)), (14, .val (IsB true)), (5, .box 42 15 (IsBook w0.heap.size (fun _ => True) m12 hi15 ([]) 1)), (12, .val (IsHd g6 (IsTN na xa))), (13, .val (IsHd g10 (IsTN nb xb))), (912, .val (Sz m12)), (7, .val (IsHd g10 (IsTN nb xb))), (908, .val (Sz m8)), (6, .val (IsHd g6 (IsTN na xa))), (4, .val (IsB false)), (0, .val (IsAb w0.heap.size na xa)), (1, .val (IsAb w0.heap.size nb xb)), (57, .val (Sz w0.heap.size)), (58, .val (TabV w0.heap.size))]) H18 rfl rfl rfl (.wanted 4 false rfl rfl rfl 1 rfl (ok_move (.tmp 10 rfl))) rfl rfl ?_
  clear H18 a18 w18 B18
  intro a19 w19 B19 H19
  refine ops_one ?_
  refine book_op (cnt := 1) (n := 1) (xs := [.tmp 17, .tmp 18]) (ks := [(18, .val (IsHd g6 (IsTN na xa))), (17, .val (IsHd g10 (IsTN nb xb))), (16, .val (IsB false)), (15, .val (IsB false)), (14, .val (IsB true)), (12, .val (IsHd g6 (IsTN na xa))), (13, .val (IsHd g10 (IsTN nb xb))), (912, .val (Sz m12)), (7, .val (IsHd g10 (IsTN nb xb))), (908, .val (Sz m8)), (6, .val (IsHd g6 (IsTN na xa))), (4, .val (IsB false)), (0, .val (IsAb w0.heap.size na xa)), (1, .val (IsAb w0.heap.size nb xb)), (57, .val (Sz w0.heap.size)), (58, .val (TabV w0.heap.size))]) 5 8 [0, 1, 2, 3, 4, 6, 7, 8, 9, 10, 11, 12, 13, 14, 15, 16] H19 rfl (H19.wanted 4 false rfl rfl rfl 2 rfl) (fun _ _ => by go_simp) (bk_common g10 g6 nb xb na xa (by omega) (by omega)) rfl (rfl) (.cons (.weak (.tmp 1 rfl) (weakHdHd weakTNAn)) (.cons (.weak (.tmp 0 rfl) (weakHdHd weakTNAn)) (.nil))) rfl (by omega) (fun _ _ => trivial) rfl (by kernel_rfl) (.cons (keptB_hd loc_TN) (.cons (keptB_hd loc_TN) (.cons (keptB_lit) (.cons (keptB_lit) (.cons (keptB_lit) (.cons (keptB_hd loc_TN) (.cons (keptB_hd loc_TN) (.cons (keptB_sz) (.cons (keptB_hd loc_TN) (.cons (keptB_sz) (.cons (keptB_hd loc_TN) (.cons (keptB_lit) (.cons (keptB_ab (Nat.le_refl _)) (.cons (keptB_ab (Nat.le_refl _)) (.cons (keptB_sz) (.cons (keptB_tab (Nat.le_refl _)) (.nil))))))))))))))))) (by decide) ?_
  clear H19 a19 w19 B19
  intro a20 w20 B20 hi20 H20
  replace H20 : St 57 w0 B0 a20 w20 B20 [(19, .val (IsB true)), (5, .box 42 15 (IsBook w0.heap.size (fun _ => True) m12 hi20 ([]) 2)), (18, .val (IsHd g6 (IsTN na xa))), (17, .val (IsHd g10 (IsTN nb xb))), (16, .val (IsB false)), (15, .val (IsB false)), (14, .val (IsB true)), (12, .val (IsHd g6 (IsTN na xa))), (13, .val (IsHd g10 (IsTN nb xb))), (912, .val (Sz m12)), (7, .val (IsHd g10 (IsTN nb xb))), (908, .val (Sz m8)), (6, .val (IsHd g6 (IsTN na xa))), (4, .val (IsB false)), (0, .val (IsAb w0.heap.size na xa)), (1, .val (IsAb w0.heap.size nb xb)), (57, .val (Sz w0.heap.size)), (58, .val (TabV w0.heap.size))] [5] := H20
  refine ops_one ?_
  refine tail_op (D := .val (IsB false)) (l' := [(20, .val (IsB false)), (19, .val (IsB true)), (5, .box 42 15 (IsBook w0.heap.size (fun _ => True) m12 hi20 ([]) 2)), (18, .val (IsHd g6 (IsTN na xa))), (17, .val (IsHd g10 (IsTN nb xb))), (16, .val (IsB false)), (15, .val (IsB false)), (14, .val (IsB true)), (12, .val (IsHd g6 (IsTN na xa))), (13, .val (IsHd g10 (IsTN nb xb))), (912, .val (Sz m12)), (7, .val (IsHd g10 (IsTN nb xb))), (908, .val (Sz m8)), (6, .val (IsHd g6 (IsTN na xa))), (4, .val (IsB false)), (0, .val (IsAb w0.heap.size na xa)), (1, .val (IsAb w0.heap.size nb xb)), (57, .val (Sz w0.heap.size)), (58, .val (TabV w0.heap.size))]) H20 rfl rfl rfl (.wanted 4 false rfl rfl rfl 4 rfl (ok_not (b := true) (.tmp 0 rfl))) rfl rfl ?_
  clear H20 a20 w20 B20
  intro a21 w21 B21 H21
  refine ops_one ?_
  refine tail_op (D := .val (IsB false)) (l' := [(21, .val (IsB false)), (20, .val (IsB false)), (19, .val (IsB true)), (5, .box 42 15 (IsBook w0.heap.size (fun _ => True) m12 hi20 ([]) 2)), (18, .val (IsHd g6 (IsTN na xa))), (17, .val (IsHd g10 (IsTN nb xb))), (16, .val (IsB false)), (15, .val (IsB false)), (14, .val (IsB true)), (12, .val (IsHd g6 (IsTN na xa))), (13, .val (IsHd g10 (IsTN nb xb))), (912, .val (Sz m12)), (7, .val (IsHd g10 (IsTN nb xb))), (908, .val (Sz m8)), (6, .val (IsHd g6 (IsTN na xa))), (4, .val (IsB false)), (0, .val (IsAb w0.heap.size na xa)), (1, .val (IsAb w0.heap.size nb xb)), (57, .val (Sz w0.heap.size)), (58, .val (TabV w0.heap.size))]) H21 rfl rfl rfl (.plain rfl (ok_pickF (.tmp 5 rfl) (.tmp 0 rfl))) rfl rfl ?_
  clear H21 a21 w21 B21
  intro a22 w22 B22 H22
  refine ops_one ?_
  refine tail_op (D := .val (IsB false)) (l' := [(22, .val (IsB false)), (21, .val (IsB false)), (20, .val (IsB false)), (19, .val (IsB true)), (5, .box 42 15 (IsBook w0.heap.size (fun _ => True) m12 hi20 ([]) 2)), (18, .val (IsHd g6 (IsTN na xa))), (17, .val (IsHd g10 (IsTN nb xb))), (16, .val (IsB false)), (15, .val (IsB false)), (14, .val (IsB true)), (12, .val (IsHd g6 (IsTN na xa))), (13, .val (IsHd g10 (IsTN nb xb))), (912, .val (Sz m12)), (7, .val (IsHd g10 (IsTN nb xb))), (908, .val (Sz m8)), (6, .val (IsHd g6 (IsTN na xa))), (4, .val (IsB false)), (0, .val (IsAb w0.heap.size na xa)), (1, .val (IsAb w0.heap.size nb xb)), (57, .val (Sz w0.heap.size)), (58, .val (TabV w0.heap.size))]) H22 rfl rfl rfl (.plain rfl (ok_move (.tmp 0 rfl))) rfl rfl ?_
  clear H22 a22 w22 B22
  intro a23 w23 B23 H23
  refine ops_one ?_
  refine tail_op (D := .val (IsHd g6 (IsTN na xa))) (l' := [(23, .val (IsHd g6 (IsTN na xa))), (22, .val (IsB false)), (21, .val (IsB false)), (20, .val (IsB false)), (19, .val (IsB true)), (5, .box 42 15 (IsBook w0.heap.size (fun _ => True) m12 hi20 ([]) 2)), (18, .val (IsHd g6 (IsTN na xa))), (17, .val (IsHd g10 (IsTN nb xb))), (16, .val (IsB false)), (15, .val (IsB false)), (14, .val (IsB true)), (12, .val (IsHd g6 (IsTN na xa))), (13, .val (IsHd g10 (IsTN nb xb))), (912, .val (Sz m12)), (7, .val (IsHd g10 (IsTN nb xb))), (908, .val (Sz m8)), (6, .val (IsHd g6 (IsTN na xa))), (4, .val (IsB false)), (0, .val (IsAb w0.heap.size na xa)), (1, .val (IsAb w0.heap.size nb xb)), (57, .val (Sz w0.heap.size)), (58, .val (TabV w0.heap.size))]) H23 rfl rfl rfl (.wanted 10 false rfl rfl rfl 0 rfl (ok_move (.tmp 15 rfl))) rfl rfl ?_
  clear H23 a23 w23 B23
  intro a24 w24 B24 H24
  refine ops_one ?_
  refine tail_op (D := .val (IsHd g10 (IsTN nb xb))) (l' := [(24, .val (IsHd g10 (IsTN nb xb))), (23, .val (IsHd g6 (IsTN na xa))), (22, .val (IsB false)), (21, .val (IsB false)), (20, .val (IsB false)), (19, .val (IsB true)), (5, .box 42 15 (IsBook w0.heap.size (fun _ => True) m12 hi20 ([]) 2)), (18, .val (IsHd g6 (IsTN na xa))), (17, .val (IsHd g10 (IsTN nb xb))), (16, .val (IsB false)), (15, .val (IsB false)), (14, .val (IsB true)), (12, .val (IsHd g6 (IsTN na xa))), (13, .val (IsHd g10 (IsTN nb xb))), (912, .val (Sz m12)), (7, .val (IsHd g10 (IsTN nb xb))), (908, .val (Sz m8)), (6, .val (IsHd g6 (IsTN na xa))), (4, .val (IsB false)), (0, .val (IsAb w0.heap.size na xa)), (1, .val (IsAb w0.heap.size nb xb)), (57, .val (Sz w0.heap.size)), (58, .val (TabV w0.heap.size))]) H24 rfl rfl rfl (.wanted 10 false rfl rfl rfl 1 rfl (ok_move (.tmp 14 rfl))) rfl rfl ?_
  clear H24 a24 w24 B24
  intro a25 w25 B25 H25
  refine ops_one ?_
  refine book_op (cnt := 2) (n := 1) (xs := [.tmp 23, .tmp 24]) (ks := [(24, .val (IsHd g10 (IsTN nb xb))), (23, .val (IsHd g6 (IsTN na xa))), (22, .val (IsB false)), (21, .val (IsB false)), (20, .val (IsB false)), (19, .val (IsB true)), (18, .val (IsHd g6 (IsTN na xa))), (17, .val (IsHd g10 (IsTN nb xb))), (16, .val (IsB false)), (15, .val (IsB false)), (14, .val (IsB true)), (12, .val (IsHd g6 (IsTN na xa))), (13, .val (IsHd g10 (IsTN nb xb))), (912, .val (Sz m12)), (7, .val (IsHd g10 (IsTN nb xb))), (908, .val (Sz m8)), (6, .val (IsHd g6 (IsTN na xa))), (4, .val (IsB false)), (0, .val (IsAb w0.heap.size na xa)), (1, .val (IsAb w0.heap.size nb xb)), (57, .val (Sz w0.heap.size)), (58, .val (TabV w0.heap.size))]) 6 14 [0, 1, 2, 3, 4, 5, 7, 8, 9, 10, 11, 12, 13, 14, 15, 16, 17, 18, 19, 20, 21, 22] H25 rfl (H25.wanted 10 false rfl rfl rfl 2 rfl) (fun _ _ => by go_simp) (bk_common g6 g10 na xa nb xb (by omega) (by omega)) rfl (rfl) (.cons (.weak (.tmp 1 rfl) (weakHdHd weakTNAn)) (.cons (.weak (.tmp 0 rfl) (weakHdHd weakTNAn)) (.nil))) rfl (by omega) (fun _ _ => trivial) rfl (by kernel_rfl) (.cons (keptB_hd loc_TN) (.cons (keptB_hd loc_TN) (.cons (keptB_lit) (.cons (keptB_lit) (.cons (keptB_lit) (.cons (keptB_lit) (.cons (keptB_hd loc_TN) (.cons (keptB_hd loc_TN) (.cons (keptB_lit) (.cons (keptB_lit) (.cons (keptB_lit) (.cons (keptB_hd loc_TN) (.cons (keptB_hd loc_TN) (.cons (keptB_sz) (.cons (keptB_hd loc_TN) (.cons (keptB_sz) (.cons (keptB_hd loc_TN) (.cons (keptB_lit) (.cons (keptB_ab (Nat.le_refl _)) (.cons (keptB_ab (Nat.le_refl _)) (.cons (keptB_sz) (.cons (keptB_tab (Nat.le_refl _)) (.nil))))))))))))))))))))))) (by decide) ?_
  clear H25 a25 w25 B25
  intro a26 w26 B26 hi26 H26
  replace H26 : St 57 w0 B0 a26 w26 B26 [(25, .val (IsB true)), (5, .box 42 15 (IsBook w0.heap.size (fun _ => True) m12 hi26 ([]) 3)), (24, .val (IsHd g10 (IsTN nb xb))), (23, .val (IsHd g6 (IsTN na xa))), (22, .val (IsB false)), (21, .val (IsB false)), (20, .val (IsB false)), (19, .val (IsB true)), (18, .val (IsHd g6 (IsTN na xa))), (17, .val (IsHd g10 (IsTN nb xb))), (16, .val (IsB false)), (15, .val (IsB false)), (14, .val (IsB true)), (12, .val (IsHd g6 (IsTN na xa))), (13, .val (IsHd g10 (IsTN nb xb))), (912, .val (Sz m12)), (7, .val (IsHd g10 (IsTN nb xb))), (908, .val (Sz m8)), (6, .val (IsHd g6 (IsTN na xa))), (4, .val (IsB false)), (0, .val (IsAb w0.heap.size na xa)), (1, .val (IsAb w0.heap.size nb xb)), (57, .val (Sz w0.heap.size)), (58, .val (TabV w0.heap.size))] [5] := H26
  refine ops_one ?_
  refine tail_op (D := .val (IsB false)) (l' := [(26, .val (IsB false)), (25, .val (IsB true)), (5, .box 42 15 (IsBook w0.heap.size (fun _ => True) m12 hi26 ([]) 3)), (24, .val (IsHd g10 (IsTN nb xb))), (23, .val (IsHd g6 (IsTN na xa))), (22, .val (IsB false)), (21, .val (IsB false)), (20, .val (IsB false)), (19, .val (IsB true)), (18, .val (IsHd g6 (IsTN na xa))), (17, .val (IsHd g10 (IsTN nb xb))), (16, .val (IsB false)), (15, .val (IsB false)), (14, .val (IsB true)), (12, .val (IsHd g6 (IsTN na xa))), (13, .val (IsHd g10 (IsTN nb xb))), (912, .val (Sz m12)), (7, .val (IsHd g10 (IsTN nb xb))), (908, .val (Sz m8)), (6, .val (IsHd g6 (IsTN na xa))), (4, .val (IsB false)), (0, .val (IsAb w0.heap.size na xa)), (1, .val (IsAb w0.heap.size nb xb)), (57, .val (Sz w0.heap.size)), (58, .val (TabV w0.heap.size))]) H26 rfl rfl rfl (.wanted 10 false rfl rfl rfl 4 rfl (ok_not (b := true) (.tmp 0 rfl))) rfl rfl ?_
  clear H26 a26 w26 B26
  intro a27 w27 B27 H27
  refine ops_one ?_
  refine tail_op (D := .val (IsB false)) (l' := [(27, .val (IsB false)), (26, .val (IsB false)), (25, .val (IsB true)), (5, .box 42 15 (IsBook w0.heap.size (fun _ => True) m12 hi26 ([]) 3)), (24, .val (IsHd g10 (IsTN nb xb))), (23, .val (IsHd g6 (IsTN na xa))), (22, .val (IsB false)), (21, .val (IsB false)), (20, .val (IsB false)), (19, .val (IsB true)), (18, .val (IsHd g6 (IsTN na xa))), (17, .val (IsHd g10 (IsTN nb xb))), (16, .val (IsB false)), (15, .val (IsB false)), (14, .val (IsB true)), (12, .val (IsHd g6 (IsTN na xa))), (13, .val (IsHd g10 (IsTN nb xb))), (912, .val (Sz m12)), (7, .val (IsHd g10 (IsTN nb xb))), (908, .val (Sz m8)), (6, .val (IsHd g6 (IsTN na xa))), (4, .val (IsB false)), (0, .val (IsAb w0.heap.size na xa)), (1, .val (IsAb w0.heap.size nb xb)), (57, .val (Sz w0.heap.size)), (58, .val (TabV w0.heap.size))]) H27 rfl rfl rfl (.plain rfl (ok_pickF (.tmp 5 rfl) (.tmp 0 rfl))) rfl rfl ?_
  clear H27 a27 w27 B27
  intro a28 w28 B28 H28
  refine ops_one ?_
  refine tail_op (D := .val (IsB false)) (l' := [(28, .val (IsB false)), (27, .val (IsB false)), (26, .val (IsB false)), (25, .val (IsB true)), (5, .box 42 15 (IsBook w0.heap.size (fun _ => True) m12 hi26 ([]) 3)), (24, .val (IsHd g10 (IsTN nb xb))), (23, .val (IsHd g6 (IsTN na xa))), (22, .val (IsB false)), (21, .val (IsB false)), (20, .val (IsB false)), (19, .val (IsB true)), (18, .val (IsHd g6 (IsTN na xa))), (17, .val (IsHd g10 (IsTN nb xb))), (16, .val (IsB false)), (15, .val (IsB false)), (14, .val (IsB true)), (12, .val (IsHd g6 (IsTN na xa))), (13, .val (IsHd g10 (IsTN nb xb))), (912, .val (Sz m12)), (7, .val (IsHd g10 (IsTN nb xb))), (908, .val (Sz m8)), (6, .val (IsHd g6 (IsTN na xa))), (4, .val (IsB false)), (0, .val (IsAb w0.heap.size na xa)), (1, .val (IsAb w0.heap.size nb xb)), (57, .val (Sz w0.heap.size)), (58, .val (TabV w0.heap.size))]) H28 rfl rfl rfl (.plain rfl (ok_move (.tmp 0 rfl))) rfl rfl ?_
  clear H28 a28 w28 B28
  intro a29 w29 B29 H29
  refine ops_one ?_
  refine tail_op (D := .val (IsHd g6 (IsTN na xa))) (l' := [(29, .val (IsHd g6 (IsTN na xa))), (28, .val (IsB false)), (27, .val (IsB false)), (26, .val (IsB false)), (25, .val (IsB true)), (5, .box 42 15 (IsBook w0.heap.size (fun _ => True) m12 hi26 ([]) 3)), (24, .val (IsHd g10 (IsTN nb xb))), (23, .val (IsHd g6 (IsTN na xa))), (22, .val (IsB false)), (21, .val (IsB false)), (20, .val (IsB false)), (19, .val (IsB true)), (18, .val (IsHd g6 (IsTN na xa))), (17, .val (IsHd g10 (IsTN nb xb))), (16, .val (IsB false)), (15, .val (IsB false)), (14, .val (IsB true)), (12, .val (IsHd g6 (IsTN na xa))), (13, .val (IsHd g10 (IsTN nb xb))), (912, .val (Sz m12)), (7, .val (IsHd g10 (IsTN nb xb))), (908, .val (Sz m8)), (6, .val (IsHd g6 (IsTN na xa))), (4, .val (IsB false)), (0, .val (IsAb w0.heap.size na xa)), (1, .val (IsAb w0.heap.size nb xb)), (57, .val (Sz w0.heap.size)), (58, .val (TabV w0.heap.size))]) H29 rfl rfl rfl (.wanted 16 false rfl rfl rfl 0 rfl (ok_move (.tmp 21 rfl))) rfl rfl ?_
  clear H29 a29 w29 B29
  intro a30 w30 B30 H30
  refine ops_one ?_
  refine book_op (cnt := 3) (n := 1) (xs := [.tmp 29, .const (.slice none 0 0)]) (ks := [(29, .val (IsHd g6 (IsTN na xa))), (28, .val (IsB false)), (27, .val (IsB false)), (26, .val (IsB false)), (25, .val (IsB true)), (24, .val (IsHd g10 (IsTN nb xb))), (23, .val (IsHd g6 (IsTN na xa))), (22, .val (IsB false)), (21, .val (IsB false)), (20, .val (IsB false)), (19, .val (IsB true)), (18, .val (IsHd g6 (IsTN na xa))), (17, .val (IsHd g10 (IsTN nb xb))), (16, .val (IsB false)), (15, .val (IsB false)), (14, .val (IsB true)), (12, .val (IsHd g6 (IsTN na xa))), (13, .val (IsHd g10 (IsTN nb xb))), (912, .val (Sz m12)), (7, .val (IsHd g10 (IsTN nb xb))), (908, .val (Sz m8)), (6, .val (IsHd g6 (IsTN na xa))), (4, .val (IsB false)), (0, .val (IsAb w0.heap.size na xa)), (1, .val (IsAb w0.heap.size nb xb)), (57, .val (Sz w0.heap.size)), (58, .val (TabV w0.heap.size))]) 5 19 [0, 1, 2, 3, 4, 6, 7, 8, 9, 10, 11, 12, 13, 14, 15, 16, 17, 18, 19, 20, 21, 22, 23, 24, 25, 26, 27] H30 rfl (H30.wanted 16 false rfl rfl rfl 1 rfl) (fun _ _ => by go_simp) (bk_common g6 none na xa 0 ([]) (by omega) (by omega)) rfl (rfl) (.cons (.weak (.tmp 0 rfl) (weakHdHd weakTNAn)) (.cons (.weak (.lit) isHd_nilAn) (.nil))) rfl (by omega) (fun _ _ => trivial) rfl (by kernel_rfl) (.cons (keptB_hd loc_TN) (.cons (keptB_lit) (.cons (keptB_lit) (.cons (keptB_lit) (.cons (keptB_lit) (.cons (keptB_hd loc_TN) (.cons (keptB_hd loc_TN) (.cons (keptB_lit) (.cons (keptB_lit) (.cons (keptB_lit) (.cons (keptB_lit) (.cons (keptB_hd loc_TN) (.cons (keptB_hd loc_TN) (.cons (keptB_lit) (.cons (keptB_lit) (.cons (keptB_lit) (.cons (keptB_hd loc_TN) (.cons (keptB_hd loc_TN) (.cons (keptB_sz) (.cons (keptB_hd loc_TN) (.cons (keptB_sz) (.cons (keptB_hd loc_TN) (.cons (keptB_lit) (.cons (keptB_ab (Nat.le_refl _)) (.cons (keptB_ab (Nat.le_refl _)) (.cons (keptB_sz) (.cons (keptB_tab (Nat.le_refl _)) (.nil)))))))))))))))))))))))))))) (by decide) ?_
  clear H30 a30 w30 B30
  intro a31 w31 B31 hi31 H31
  replace H31 : St 57 w0 B0 a31 w31 B31 [(30, .val (IsB true)), (5, .box 42 15 (IsBook w0.heap.size (fun _ => True) m12 hi31 ([]) 4)), (29, .val (IsHd g6 (IsTN na xa))), (28, .val (IsB false)), (27, .val (IsB false)), (26, .val (IsB false)), (25, .val (IsB true)), (24, .val (IsHd g10 (IsTN nb xb))), (23, .val (IsHd g6 (IsTN na xa))), (22, .val (IsB false)), (21, .val (IsB false)), (20, .val (IsB false)), (19, .val (IsB true)), (18, .val (IsHd g6 (IsTN na xa))), (17, .val (IsHd g10 (IsTN nb xb))), (16, .val (IsB false)), (15, .val (IsB false)), (14, .val (IsB true)), (12, .val (IsHd g6 (IsTN na xa))), (13, .val (IsHd g10 (IsTN nb xb))), (912, .val (Sz m12)), (7, .val (IsHd g10 (IsTN nb xb))), (908, .val (Sz m8)), (6, .val (IsHd g6 (IsTN na xa))), (4, .val (IsB false)), (0, .val (IsAb w0.heap.size na xa)), (1, .val (IsAb w0.heap.size nb xb)), (57, .val (Sz w0.heap.size)), (58, .val (TabV w0.heap.size))] [5] := H31
  refine ops_one ?_
  refine tail_op (D := .val (IsB false)) (l' := [(31, .val (IsB false)), (30, .val (IsB true)), (5, .box 42 15 (IsBook w0.heap.size (fun _ => True) m12 hi31 ([]) 4)), (29, .val (IsHd g6 (IsTN na xa))), (28, .val (IsB false)), (27, .val (IsB false)), (26, .val (IsB false)), (25, .val (IsB true)), (24, .val (IsHd g10 (IsTN nb xb))), (23, .val (IsHd g6 (IsTN na xa))), (22, .val (IsB false)), (21, .val (IsB false)), (20, .val (IsB false)), (19, .val (IsB true)), (18, .val (IsHd g6 (IsTN na xa))), (17, .val (IsHd g10 (IsTN nb xb))), (16, .val (IsB false)), (15, .val (IsB false)), (14, .val (IsB true)), (12, .val (IsHd g6 (IsTN na xa))), (13, .val (IsHd g10 (IsTN nb xb))), (912, .val (Sz m12)), (7, .val (IsHd g10 (IsTN nb xb))), (908, .val (Sz m8)), (6, .val (IsHd g6 (IsTN na xa))), (4, .val (IsB false)), (0, .val (IsAb w0.heap.size na xa)), (1, .val (IsAb w0.heap.size nb xb)), (57, .val (Sz w0.heap.size)), (58, .val (TabV w0.heap.size))]) H31 rfl rfl rfl (.wanted 16 false rfl rfl rfl 3 rfl (ok_not (b := true) (.tmp 0 rfl))) rfl rfl ?_
  clear H31 a31 w31 B31
  intro a32 w32 B32 H32
  refine ops_one ?_
  refine tail_op (D := .val (IsB false)) (l' := [(32, .val (IsB false)), (31, .val (IsB false)), (30, .val (IsB true)), (5, .box 42 15 (IsBook w0.heap.size (fun _ => True) m12 hi31 ([]) 4)), (29, .val (IsHd g6 (IsTN na xa))), (28, .val (IsB false)), (27, .val (IsB false)), (26, .val (IsB false)), (25, .val (IsB true)), (24, .val (IsHd g10 (IsTN nb xb))), (23, .val (IsHd g6 (IsTN na xa))), (22, .val (IsB false)), (21, .val (IsB false)), (20, .val (IsB false)), (19, .val (IsB true)), (18, .val (IsHd g6 (IsTN na xa))), (17, .val (IsHd g10 (IsTN nb xb))), (16, .val (IsB false)), (15, .val (IsB false)), (14, .val (IsB true)), (12, .val (IsHd g6 (IsTN na xa))), (13, .val (IsHd g10 (IsTN nb xb))), (912, .val (Sz m12)), (7, .val (IsHd g10 (IsTN nb xb))), (908, .val (Sz m8)), (6, .val (IsHd g6 (IsTN na xa))), (4, .val (IsB false)), (0, .val (IsAb w0.heap.size na xa)), (1, .val (IsAb w0.heap.size nb xb)), (57, .val (Sz w0.heap.size)), (58, .val (TabV w0.heap.size))]) H32 rfl rfl rfl (.plain rfl (ok_pickF (.tmp 4 rfl) (.tmp 0 rfl))) rfl rfl ?_
  clear H32 a32 w32 B32
  intro a33 w33 B33 H33
  refine ops_done ?_
  refine then_normal ?_
  refine f_condF H33 (.tmp 0 rfl) ?_
  refine wp_skip ?_
  refine then_normal ?_
  refine wp_seq ?_
  refine wp_seq ?_
  refine flow_region (dsts := [some 33, some 34, some 35, some 36, some 37, some 38, some 39, some 40, some 41, some 42]) (refs := [[.pre 25], [.pre 27], [.res 0, .res 1], [.res 2], [.res 3], [.res 4, .pre 23], [.res 4, .pre 28], [.res 4, .res 5, .res 6], [.res 4, .res 7], [.res 4, .res 8]]) (outs := [.res 9, .pre 3, .pre 22, .pre 23, .pre 24, .pre 25, .pre 26, .pre 28, .pre 29, .pre 30]) (als := [false, false, false, false, false, false, false, false, false, false]) (posts := [.val (IsHd g6 (IsTN na xa)), .val (IsAb w0.heap.size na xa), .val (IsB true), .val (IsB false), .val (IsB false), .val (IsHd g10 (IsTN nb xb)), .val (IsAb w0.heap.size nb xb), .val (IsB true), .val (IsB false), .val (IsB false)])
    (out := [(42, .val (IsB false)), (5, .box 42 15 (IsBook w0.heap.size (fun _ => True) m12 hi31 ([]) 4)), (912, .val (Sz m12)), (7, .val (IsHd g10 (IsTN nb xb))), (908, .val (Sz m8)), (6, .val (IsHd g6 (IsTN na xa))), (4, .val (IsB false)), (1, .val (IsAb w0.heap.size nb xb)), (57, .val (Sz w0.heap.size)), (58, .val (TabV w0.heap.size))]) (nb := []) H33 10 [] rfl (by kernel_rfl) rfl rfl ?_ ?_
  · refine .cons (.plain rfl (ok_move (.tmp 0 rfl))) ?_
    refine .cons (.plain rfl (ok_move (.tmp 0 rfl))) ?_
    refine .cons (.plain rfl (ok_call (con_leftNat na xa (by omega)) (.cons (.weak (.tmp 0 rfl) weakHd) (.cons (.weak (.tmp 1 rfl) weakAb) (.nil))))) ?_
    refine .cons (.plain rfl (ok_not (b := true) (.tmp 0 rfl))) ?_
    refine .cons (.plain rfl (ok_move (.tmp 0 rfl))) ?_
    refine .cons (.wanted 4 false rfl rfl rfl 0 rfl (ok_move (.tmp 1 rfl))) ?_
    refine .cons (.wanted 4 false rfl rfl rfl 0 rfl (ok_move (.tmp 1 rfl))) ?_
    refine .cons (.wanted 4 false rfl rfl rfl 0 rfl (ok_call (con_leftNat nb xb (by omega)) (.cons (.weak (.tmp 1 rfl) weakHd) (.cons (.weak (.tmp 2 rfl) weakAb) (.nil))))) ?_
    refine .cons (.wanted 4 false rfl rfl rfl 0 rfl (ok_not (b := true) (.tmp 1 rfl))) ?_
    refine .cons (.plain rfl (ok_pickF (.tmp 0 rfl) (.tmp 1 rfl))) ?_
    exact .nil
  clear H33 a33 w33 B33
  intro a34 w34 B34 H34
  refine ops_done ?_
  refine then_normal ?_
  refine f_condF H34 (.tmp 0 rfl) ?_
  refine wp_skip ?_
  refine then_normal ?_
  refine wp_seq ?_
  refine flow_region (dsts := [some 43]) (refs := [[.pre 5]]) (outs := [.res 0, .pre 1, .pre 2, .pre 3, .pre 4, .pre 5, .pre 6, .pre 7, .pre 8, .pre 9]) (als := [false]) (posts := [.val (IsHd g6 (IsTN na xa))])
    (out := [(43, .val (IsHd g6 (IsTN na xa))), (5, .box 42 15 (IsBook w0.heap.size (fun _ => True) m12 hi31 ([]) 4)), (912, .val (Sz m12)), (7, .val (IsHd g10 (IsTN nb xb))), (908, .val (Sz m8)), (6, .val (IsHd g6 (IsTN na xa))), (4, .val (IsB false)), (1, .val (IsAb w0.heap.size nb xb)), (57, .val (Sz w0.heap.size)), (58, .val (TabV w0.heap.size))]) (nb := []) H34 1 [1] rfl (by kernel_rfl) rfl rfl ?_ ?_
  · refine .cons (.plain rfl (ok_move (.tmp 0 rfl))) ?_
    exact .nil
  clear H34 a34 w34 B34
  intro a35 w35 B35 H35
  refine ops_one ?_
  have hk36 : ∀ b, g6 = some b → w0.heap.size ≤ b ∧ ¬ (m12 ≤ b ∧ b < hi31) ∧ some b ∉ ([] : List (Option Nat)) := fun b hb => ⟨by have := hg6 b hb; omega, fun hx => by have := hg6 b hb; omega, by simp⟩
  refine keep_op (cnt := 4) (ks := [(43, .val (IsHd g6 (IsTN na xa))), (912, .val (Sz m12)), (7, .val (IsHd g10 (IsTN nb xb))), (908, .val (Sz m8)), (6, .val (IsHd g6 (IsTN na xa))), (4, .val (IsB false)), (1, .val (IsAb w0.heap.size nb xb)), (57, .val (Sz w0.heap.size)), (58, .val (TabV w0.heap.size))]) (l' := [(5, .box 42 15 (IsBook w0.heap.size (fun _ => True) m12 hi31 ([g6]) 5)), (43, .val (IsHd g6 (IsTN na xa))), (912, .val (Sz m12)), (7, .val (IsHd g10 (IsTN nb xb))), (908, .val (Sz m8)), (6, .val (IsHd g6 (IsTN na xa))), (4, .val (IsB false)), (1, .val (IsAb w0.heap.size nb xb)), (57, .val (Sz w0.heap.size)), (58, .val (TabV w0.heap.size))]) 1 [0, 2, 3, 4, 5, 6, 7, 8, 9] H35 rfl (fun _ _ => by go_simp) keep_nat rfl (rfl) (.tmp 0 rfl) (by omega) (fun _ _ => trivial) hk36 rfl (by kernel_rfl) (.cons (keptB_hd loc_TN) (.cons (keptB_sz) (.cons (keptB_hd loc_TN) (.cons (keptB_sz) (.cons (keptB_hd loc_TN) (.cons (keptB_lit) (.cons (keptB_ab (Nat.le_refl _)) (.cons (keptB_sz) (.cons (keptB_tab (Nat.le_refl _)) (.nil)))))))))) (by decide) rfl ?_
  clear H35 hk36 a35 w35 B35
  intro a36 w36 B36 H36
  refine ops_done ?_
  refine then_normal ?_
  refine wp_seq ?_
  refine flow_region (dsts := [some 45, some 46]) (refs := [[.pre 5], [.pre 7]]) (outs := [.res 0, .res 1, .pre 0, .pre 2, .pre 3, .pre 4, .pre 5, .pre 6, .pre 8, .pre 9]) (als := [false, false]) (posts := [.val (IsHd g6 (IsTN na xa)), .val (IsAb w0.heap.size nb xb)])
    (out := [(45, .val (IsHd g6 (IsTN na xa))), (46, .val (IsAb w0.heap.size nb xb)), (5, .box 42 15 (IsBook w0.heap.size (fun _ => True) m12 hi31 ([g6]) 5)), (912, .val (Sz m12)), (7, .val (IsHd g10 (IsTN nb xb))), (908, .val (Sz m8)), (6, .val (IsHd g6 (IsTN na xa))), (4, .val (IsB false)), (57, .val (Sz w0.heap.size)), (58, .val (TabV w0.heap.size))]) (nb := []) H36 2 [2] rfl (by kernel_rfl) rfl rfl ?_ ?_
  · refine .cons (.plain rfl (ok_move (.tmp 0 rfl))) ?_
    refine .cons (.plain rfl (ok_move (.tmp 0 rfl))) ?_
    exact .nil
  clear H36 a36 w36 B36
  intro a37 w37 B37 H37
  refine ops_one ?_
  refine over_op (ks := [(46, .val (IsAb w0.heap.size nb xb)), (5, .box 42 15 (IsBook w0.heap.size (fun _ => True) m12 hi31 ([g6]) 5)), (912, .val (Sz m12)), (7, .val (IsHd g10 (IsTN nb xb))), (908, .val (Sz m8)), (4, .val (IsB false)), (57, .val (Sz w0.heap.size)), (58, .val (TabV w0.heap.size))]) 6 [1, 2, 3, 4, 5, 7, 8, 9] H37 rfl rfl (.tmp 0 rfl) rfl (.tmp 1 rfl) (fun b hb => by have := hg6 b hb; omega) (by omega) (fun b hb => by have := hg6 b hb; omega) (by omega) (by omega) rfl (by kernel_rfl) (.cons (keptO_ab (fun b hb => by have := hg6 b hb; omega)) (.cons (keptO_box (keptO_book)) (.cons (keptO_sz) (.cons (keptO_hd loc_TN (by intro b hb e; have h1 := hg10 b hb; have h2 := hg6 b e; omega)) (.cons (keptO_sz) (.cons (keptO_lit) (.cons (keptO_sz) (.cons (keptO_tab (fun b hb => by have := hg6 b hb; omega)) (.nil))))))))) ?_
  clear H37 a37 w37 B37
  intro a38 w38 B38 H38
  refine ops_done ?_
  refine then_normal ?_
  refine wp_seq ?_
  refine flow_region (dsts := [some 48, some 49]) (refs := [[.pre 0], [.pre 4]]) (outs := [.res 0, .res 1, .pre 2, .pre 3, .pre 5, .pre 6, .pre 7, .pre 8]) (als := [false, false]) (posts := [.val (IsHd g6 (IsTN na (overL xa xb))), .val (IsHd g10 (IsTN nb xb))])
    (out := [(48, .val (IsHd g6 (IsTN na (overL xa xb)))), (49, .val (IsHd g10 (IsTN nb xb))), (5, .box 42 15 (IsBook w0.heap.size (fun _ => True) m12 hi31 ([g6]) 5)), (912, .val (Sz m12)), (908, .val (Sz m8)), (4, .val (IsB false)), (57, .val (Sz w0.heap.size)), (58, .val (TabV w0.heap.size))]) (nb := []) H38 2 [2, 3, 4, 5, 6, 7, 8, 9] rfl (by kernel_rfl) rfl rfl ?_ ?_
  · refine .cons (.plain rfl (ok_move (.tmp 0 rfl))) ?_
    refine .cons (.plain rfl (ok_move (.tmp 0 rfl))) ?_
    exact .nil
  clear H38 a38 w38 B38
  intro a39 w39 B39 H39
  refine ops_one ?_
  refine book_op (cnt := 5) (n := 1) (xs := [.tmp 48, .tmp 49]) (ks := [(48, .val (IsHd g6 (IsTN na (overL xa xb)))), (49, .val (IsHd g10 (IsTN nb xb))), (912, .val (Sz m12)), (908, .val (Sz m8)), (4, .val (IsB false)), (57, .val (Sz w0.heap.size)), (58, .val (TabV w0.heap.size))]) 2 3 [0, 1, 3, 4, 5, 6, 7] H39 rfl (wanted_none rfl) (fun _ _ => by go_simp) (bk_common g6 g10 na (overL xa xb) nb xb (by omega) (by omega)) rfl (rfl) (.cons (.weak (.tmp 0 rfl) (weakHdHd weakTNAn)) (.cons (.weak (.tmp 1 rfl) (weakHdHd weakTNAn)) (.nil))) rfl (by omega) (fun _ _ => trivial) rfl (by kernel_rfl) (.cons (keptB_hd loc_TN) (.cons (keptB_hd loc_TN) (.cons (keptB_sz) (.cons (keptB_sz) (.cons (keptB_lit) (.cons (keptB_sz) (.cons (keptB_tab (Nat.le_refl _)) (.nil)))))))) (by decide) ?_
  clear H39 a39 w39 B39
  intro a40 w40 B40 hi40 H40
  replace H40 : St 57 w0 B0 a40 w40 B40 [(50, .val (IsB true)), (5, .box 42 15 (IsBook w0.heap.size (fun _ => True) m12 hi40 ([g6]) 6)), (48, .val (IsHd g6 (IsTN na (overL xa xb)))), (49, .val (IsHd g10 (IsTN nb xb))), (912, .val (Sz m12)), (908, .val (Sz m8)), (4, .val (IsB false)), (57, .val (Sz w0.heap.size)), (58, .val (TabV w0.heap.size))] [5] := H40
  refine ops_one ?_
  refine tail_op (D := .val (IsB true)) (l' := [(51, .val (IsB true)), (50, .val (IsB true)), (5, .box 42 15 (IsBook w0.heap.size (fun _ => True) m12 hi40 ([g6]) 6)), (48, .val (IsHd g6 (IsTN na (overL xa xb)))), (49, .val (IsHd g10 (IsTN nb xb))), (912, .val (Sz m12)), (908, .val (Sz m8)), (4, .val (IsB false)), (57, .val (Sz w0.heap.size)), (58, .val (TabV w0.heap.size))]) H40 rfl rfl rfl (.plain rfl (ok_move (.tmp 0 rfl))) rfl rfl ?_
  clear H40 a40 w40 B40
  intro a41 w41 B41 H41
  refine ops_one ?_
  refine apart_op2 (ks := [(51, .val (IsB true)), (50, .val (IsB true)), (912, .val (Sz m12)), (908, .val (Sz m8)), (4, .val (IsB false)), (57, .val (Sz w0.heap.size)), (58, .val (TabV w0.heap.size))]) 2 [0, 1, 5, 6, 7, 8, 9] H41 rfl rfl (H41.wanted 3 true rfl rfl rfl 0 rfl) rfl (rfl) (by omega) rfl (by kernel_rfl) (.cons (keptZ_lit) (.cons (keptZ_lit) (.cons (keptZ_sz) (.cons (keptZ_sz) (.cons (keptZ_lit) (.cons (keptZ_sz) (.cons (keptZ_tab (Nat.le_refl _)) (.nil)))))))) ?_
  clear H41 a41 w41 B41
  intro a42 w42 B42 H42
  refine ops_one ?_
  refine tail_op (D := .val (IsB true)) (l' := [(53, .val (IsB true)), (52, .val (IsB true)), (51, .val (IsB true)), (50, .val (IsB true)), (912, .val (Sz m12)), (908, .val (Sz m8)), (4, .val (IsB false)), (57, .val (Sz w0.heap.size)), (58, .val (TabV w0.heap.size))]) H42 rfl rfl rfl (.plain rfl (ok_pickT (.tmp 1 rfl) (.tmp 0 rfl))) rfl rfl ?_
  clear H42 a42 w42 B42
  intro a43 w43 B43 H43
  refine ops_one ?_
  refine tail_op (D := .val (IsB true)) (l' := [(54, .val (IsB true)), (53, .val (IsB true)), (52, .val (IsB true)), (51, .val (IsB true)), (50, .val (IsB true)), (912, .val (Sz m12)), (908, .val (Sz m8)), (4, .val (IsB false)), (57, .val (Sz w0.heap.size)), (58, .val (TabV w0.heap.size))]) H43 rfl rfl rfl (.plain rfl (ok_move (.tmp 0 rfl))) rfl rfl ?_
  clear H43 a43 w43 B43
  intro a44 w44 B44 H44
  refine ops_one ?_
  refine tail_op (D := .val (IsB true)) (l' := [(55, .val (IsB true)), (54, .val (IsB true)), (53, .val (IsB true)), (52, .val (IsB true)), (51, .val (IsB true)), (50, .val (IsB true)), (912, .val (Sz m12)), (908, .val (Sz m8)), (4, .val (IsB false)), (57, .val (Sz w0.heap.size)), (58, .val (TabV w0.heap.size))]) H44 rfl rfl rfl (.wanted 6 true rfl rfl rfl 0 rfl (ok_callT 5 9 (con_lives2) rfl rfl (.nil))) rfl rfl ?_
  clear H44 a44 w44 B44
  intro a45 w45 B45 H45
  refine ops_one ?_
  refine tail_op (D := .val (IsB true)) (l' := [(56, .val (IsB true)), (55, .val (IsB true)), (54, .val (IsB true)), (53, .val (IsB true)), (52, .val (IsB true)), (51, .val (IsB true)), (50, .val (IsB true)), (912, .val (Sz m12)), (908, .val (Sz m8)), (4, .val (IsB false)), (57, .val (Sz w0.heap.size)), (58, .val (TabV w0.heap.size))]) H45 rfl rfl rfl (.plain rfl (ok_pickT (.tmp 1 rfl) (.tmp 0 rfl))) rfl rfl ?_
  clear H45 a45 w45 B45
  intro a46 w46 B46 H46
  refine ops_one ?_
  refine tail_op (D := .val (IsB true)) (l' := [(4, .val (IsB true)), (56, .val (IsB true)), (55, .val (IsB true)), (54, .val (IsB true)), (53, .val (IsB true)), (52, .val (IsB true)), (51, .val (IsB true)), (50, .val (IsB true)), (912, .val (Sz m12)), (908, .val (Sz m8)), (57, .val (Sz w0.heap.size)), (58, .val (TabV w0.heap.size))]) H46 rfl rfl rfl (.plain rfl (ok_assign (.tmp 0 rfl))) rfl rfl ?_
  clear H46 a46 w46 B46
  intro a47 w47 B47 H47
  refine ops_done ?_
  refine then_normal ?_
  refine wp_ret ?_
  exact f_ret H47 rfl 0 rfl (fun _ _ _ h => h)

theorem walk_QuotCommon (w : World) (hU : Tab32 w) (ada : Option Addr) (na ca : Nat) (xa : List Int) (hnca : na ≤ ca) (hna : na * 4 ≤ 140737488351232) (hra : Rds w .u32 ada na xa) (dxa : Dig 4294967296 xa) (adb : Option Addr) (nb cb : Nat) (xb : List Int) (hncb : nb ≤ cb) (hnb : nb * 4 ≤ 140737488351232) (hrb : Rds w .u32 adb nb xb) (dxb : Dig 4294967296 xb)  (hsa : na ≤ 1048576) (hsb : nb ≤ 1048576) :
    Calls Tryz.prog 6 #[.slice ada na ca, .slice adb nb cb] w (LawTrue w) := by
  refine ((con_QuotCommon na xa nb xb hsa hsb ).calls 0 [.slice ada na ca, .slice adb nb cb] w (fun _ => False) (Nat.zero_le _) (fun _ h => h.elim) hU ⟨⟨ada, ca, rfl, hnca, hra, dxa⟩, ⟨adb, cb, rfl, hncb, hrb, dxb⟩, trivial⟩).mono ?_
  rintro e w' ⟨v, rfl, h, hb⟩
  obtain rfl := h
  exact ⟨rfl, hb⟩
end Go.Proofs.YtbcbmkeeoognpaaGreatDoor
