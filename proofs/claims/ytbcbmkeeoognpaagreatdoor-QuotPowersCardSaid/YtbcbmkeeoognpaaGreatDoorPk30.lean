/- Contracts of functions, and plain facts, part 30. -/
import Derived.Test.YtbcbmkeeoognpaaGreatDoorPk29
set_option linter.unusedVariables false
set_option linter.unusedSimpArgs false
/- BkQuot. (Printed by flowfn.py.) -/
namespace Go.Proofs.YtbcbmkeeoognpaaGreatDoor
open Go Go.RowKit

set_option maxRecDepth 20000 in
set_option maxHeartbeats 2000000 in
theorem bk_divides (gx gy : Option Nat) (n : Nat) (xs : List Int) (m : Nat) (ys : List Int) (hn : n ≤ 1048576) (hm : m ≤ 1048576) : BookFn Tryz.prog 23 [IsHd gx (IsAn n xs), IsHd gy (IsAn m ys)] (.bool true) 2 := by
  refine f_enterB (N := 62) Tryz.ntmps23 Tryz.func23 rfl (by simp) ?_
  intro w0 w9000 b ex Ow cnt a0 hcnt hwl hOw hex H0
  obtain ⟨B0, hB0⟩ : ∃ B0 : Bx, B0 = fun j => j = b := ⟨_, rfl⟩
  rw [← hB0] at H0
  clear hB0
  replace H0 : St 62 w0 B0 a0 w9000 B0 [(0, .box 42 15 (IsBook w0.heap.size Ow w9000.heap.size w9000.heap.size ex cnt)), (0, .val (IsPt b)), (62, .val (IsFrm w0.heap.size b w9000)), (63, .val (Sz w9000.heap.size)), (1, .val (IsHd gx (IsAn n xs))), (2, .val (IsHd gy (IsAn m ys)))] [0] := H0
  have hE := H0.bel
  refine wp_seq ?_
  refine flow_region (dsts := [some 6]) (refs := [[]]) (outs := [.res 0, .pre 0, .pre 1, .pre 2, .pre 3, .pre 4, .pre 5]) (als := [false]) (posts := [.val (IsB false)])
    (out := [(6, .val (IsB false)), (0, .box 42 15 (IsBook w0.heap.size Ow w9000.heap.size w9000.heap.size ex cnt)), (0, .val (IsPt b)), (62, .val (IsFrm w0.heap.size b w9000)), (63, .val (Sz w9000.heap.size)), (1, .val (IsHd gx (IsAn n xs))), (2, .val (IsHd gy (IsAn m ys)))]) (nb := []) H0 1 [] rfl (by kernel_rfl) rfl rfl ?_ ?_
  · refine .cons (.plain rfl (ok_assign (.lit))) ?_
    exact .nil
  clear H0
  intro a1 w1 B1 H1
  refine ops_done ?_
  refine then_normal ?_
  refine wp_seq ?_
  have hz2 : w9000.heap.size ≤ w1.heap.size := H1.fc.get 4 rfl
  obtain ⟨m3, hm3, hw3, hL3, H3⟩ := St.mark H1 903
  clear H1
  clear hL3
  replace hz2 : w9000.heap.size ≤ m3 := Nat.le_trans hz2 hw3
  clear hw3
  refine flow_region (dsts := [some 15, some 16, some 7]) (refs := [[.pre 6], [.res 0, .pre 0], [.res 1]]) (outs := [.res 2, .pre 0, .pre 1, .pre 2, .pre 3, .pre 4, .pre 5, .pre 6, .pre 7]) (als := [false, false, false]) (posts := [.val (IsHd gx (IsAn n xs)), .val (IsFr m3 (IsTN n xs)), .val (IsFr m3 (IsTN n xs))])
    (out := [(7, .val (IsFr m3 (IsTN n xs))), (903, .val (Sz m3)), (6, .val (IsB false)), (0, .box 42 15 (IsBook w0.heap.size Ow w9000.heap.size w9000.heap.size ex cnt)), (0, .val (IsPt b)), (62, .val (IsFrm w0.heap.size b w9000)), (63, .val (Sz w9000.heap.size)), (1, .val (IsHd gx (IsAn n xs))), (2, .val (IsHd gy (IsAn m ys)))]) (nb := []) H3 3 [] rfl (by kernel_rfl) rfl rfl ?_ ?_
  · refine .cons (.plain rfl (ok_move (.tmp 0 rfl))) ?_
    refine .cons (.plain rfl (ok_callF 1 (con_twinF n xs (by omega)) rfl (.cons (.weak (.tmp 0 rfl) weakHd) (.nil)))) ?_
    refine .cons (.plain rfl (ok_assign (.tmp 0 rfl))) ?_
    exact .nil
  clear H3 a1 w1 B1
  intro a4 w4 B4 H4
  refine ops_done ?_
  refine then_normal ?_
  refine wp_seq ?_
  obtain ⟨g5, hg5, H5⟩ := St.nameF H4 0 rfl (l' := fun g5 => [(7, .val (IsHd g5 (IsTN n xs))), (903, .val (Sz m3)), (6, .val (IsB false)), (0, .box 42 15 (IsBook w0.heap.size Ow w9000.heap.size w9000.heap.size ex cnt)), (0, .val (IsPt b)), (62, .val (IsFrm w0.heap.size b w9000)), (63, .val (Sz w9000.heap.size)), (1, .val (IsHd gx (IsAn n xs))), (2, .val (IsHd gy (IsAn m ys)))]) (fun _ => rfl)
  clear H4
  replace H5 : St 62 w0 B0 a4 w4 B4 [(7, .val (IsHd g5 (IsTN n xs))), (903, .val (Sz m3)), (6, .val (IsB false)), (0, .box 42 15 (IsBook w0.heap.size Ow w9000.heap.size w9000.heap.size ex cnt)), (0, .val (IsPt b)), (62, .val (IsFrm w0.heap.size b w9000)), (63, .val (Sz w9000.heap.size)), (1, .val (IsHd gx (IsAn n xs))), (2, .val (IsHd gy (IsAn m ys)))] [0] := H5
  have hz6 : m3 ≤ w4.heap.size := H5.fc.get 1 rfl
  obtain ⟨m7, hm7, hw7, hL7, H7⟩ := St.mark H5 907
  clear H5
  clear hL7
  replace hz6 : m3 ≤ m7 := Nat.le_trans hz6 hw7
  replace hg5 : ∀ b, g5 = some b → m3 ≤ b ∧ b < m7 := fun b hb => ⟨(hg5 b hb).1, Nat.lt_of_lt_of_le (hg5 b hb).2 hw7⟩
  clear hw7
  refine flow_region (dsts := [some 17, some 18, some 8]) (refs := [[.pre 9], [.res 0, .pre 0], [.res 1]]) (outs := [.res 2, .pre 0, .pre 1, .pre 2, .pre 3, .pre 4, .pre 5, .pre 6, .pre 7, .pre 8, .pre 9]) (als := [false, false, false]) (posts := [.val (IsHd gy (IsAn m ys)), .val (IsFr m7 (IsTN m ys)), .val (IsFr m7 (IsTN m ys))])
    (out := [(8, .val (IsFr m7 (IsTN m ys))), (907, .val (Sz m7)), (7, .val (IsHd g5 (IsTN n xs))), (903, .val (Sz m3)), (6, .val (IsB false)), (0, .box 42 15 (IsBook w0.heap.size Ow w9000.heap.size w9000.heap.size ex cnt)), (0, .val (IsPt b)), (62, .val (IsFrm w0.heap.size b w9000)), (63, .val (Sz w9000.heap.size)), (1, .val (IsHd gx (IsAn n xs))), (2, .val (IsHd gy (IsAn m ys)))]) (nb := []) H7 3 [] rfl (by kernel_rfl) rfl rfl ?_ ?_
  · refine .cons (.plain rfl (ok_move (.tmp 0 rfl))) ?_
    refine .cons (.plain rfl (ok_callF 1 (con_twinF m ys (by omega)) rfl (.cons (.weak (.tmp 0 rfl) weakHd) (.nil)))) ?_
    refine .cons (.plain rfl (ok_assign (.tmp 0 rfl))) ?_
    exact .nil
  clear H7 a4 w4 B4
  intro a8 w8 B8 H8
  refine ops_done ?_
  refine then_normal ?_
  refine wp_seq ?_
  obtain ⟨g9, hg9, H9⟩ := St.nameF H8 0 rfl (l' := fun g9 => [(8, .val (IsHd g9 (IsTN m ys))), (907, .val (Sz m7)), (7, .val (IsHd g5 (IsTN n xs))), (903, .val (Sz m3)), (6, .val (IsB false)), (0, .box 42 15 (IsBook w0.heap.size Ow w9000.heap.size w9000.heap.size ex cnt)), (0, .val (IsPt b)), (62, .val (IsFrm w0.heap.size b w9000)), (63, .val (Sz w9000.heap.size)), (1, .val (IsHd gx (IsAn n xs))), (2, .val (IsHd gy (IsAn m ys)))]) (fun _ => rfl)
  clear H8
  replace H9 : St 62 w0 B0 a8 w8 B8 [(8, .val (IsHd g9 (IsTN m ys))), (907, .val (Sz m7)), (7, .val (IsHd g5 (IsTN n xs))), (903, .val (Sz m3)), (6, .val (IsB false)), (0, .box 42 15 (IsBook w0.heap.size Ow w9000.heap.size w9000.heap.size ex cnt)), (0, .val (IsPt b)), (62, .val (IsFrm w0.heap.size b w9000)), (63, .val (Sz w9000.heap.size)), (1, .val (IsHd gx (IsAn n xs))), (2, .val (IsHd gy (IsAn m ys)))] [0] := H9
  have hz10 : m7 ≤ w8.heap.size := H9.fc.get 1 rfl
  obtain ⟨m11, hm11, hw11, hL11, H11⟩ := St.mark H9 911
  clear H9
  clear hL11
  replace hz10 : m7 ≤ m11 := Nat.le_trans hz10 hw11
  replace hg9 : ∀ b, g9 = some b → m7 ≤ b ∧ b < m11 := fun b hb => ⟨(hg9 b hb).1, Nat.lt_of_lt_of_le (hg9 b hb).2 hw11⟩
  clear hw11
  refine flow_region (dsts := [some 20, some 21, some 22, some 19, some 23, some 24, some 25, some 9, some 10, some 11]) (refs := [[.pre 3], [.pre 1], [.res 0, .res 1, .pre 0], [.res 2], [.res 3], [.res 3], [.res 3], [.res 4], [.res 5], [.res 6]]) (outs := [.res 7, .res 8, .res 9, .pre 0, .pre 1, .pre 2, .pre 3, .pre 4, .pre 5, .pre 6, .pre 7, .pre 8, .pre 9, .pre 10, .pre 11]) (als := [false, false, false, false, false, false, false, false, false, false]) (posts := [.val (IsHd g5 (IsTN n xs)), .val (IsHd g9 (IsTN m ys)), .val (Tup [IsFr m11 (IsC ((val 4294967296 xs) / (val 4294967296 ys))), IsFr m11 (IsC (if val 4294967296 ys = 0 then 0 else (val 4294967296 xs) % (val 4294967296 ys))), IsB (decide (val 4294967296 ys ≠ 0))]), .val (Tup [IsFr m11 (IsC ((val 4294967296 xs) / (val 4294967296 ys))), IsFr m11 (IsC (if val 4294967296 ys = 0 then 0 else (val 4294967296 xs) % (val 4294967296 ys))), IsB (decide (val 4294967296 ys ≠ 0))]), .val (IsFr m11 (IsC ((val 4294967296 xs) / (val 4294967296 ys)))), .val (IsFr m11 (IsC (if val 4294967296 ys = 0 then 0 else (val 4294967296 xs) % (val 4294967296 ys)))), .val (IsB (decide (val 4294967296 ys ≠ 0))), .val (IsFr m11 (IsC ((val 4294967296 xs) / (val 4294967296 ys)))), .val (IsFr m11 (IsC (if val 4294967296 ys = 0 then 0 else (val 4294967296 xs) % (val 4294967296 ys)))), .val (IsB (decide (val 4294967296 ys ≠ 0)))])
    (out := [(9, .val (IsFr m11 (IsC ((val 4294967296 xs) / (val 4294967296 ys))))), (10, .val (IsFr m11 (IsC (if val 4294967296 ys = 0 then 0 else (val 4294967296 xs) % (val 4294967296 ys))))), (11, .val (IsB (decide (val 4294967296 ys ≠ 0)))), (911, .val (Sz m11)), (8, .val (IsHd g9 (IsTN m ys))), (907, .val (Sz m7)), (7, .val (IsHd g5 (IsTN n xs))), (903, .val (Sz m3)), (6, .val (IsB false)), (0, .box 42 15 (IsBook w0.heap.size Ow w9000.heap.size w9000.heap.size ex cnt)), (0, .val (IsPt b)), (62, .val (IsFrm w0.heap.size b w9000)), (63, .val (Sz w9000.heap.size)), (1, .val (IsHd gx (IsAn n xs))), (2, .val (IsHd gy (IsAn m ys)))]) (nb := []) H11 10 [] rfl (by kernel_rfl) rfl rfl ?_ ?_
  · refine .cons (.plain rfl (ok_move (.tmp 0 rfl))) ?_
    refine .cons (.plain rfl (ok_move (.tmp 0 rfl))) ?_
    refine .cons (.plain rfl (ok_callF 2 (con_r2divF (val 4294967296 xs) (val 4294967296 ys)) rfl (.cons (.weak (.weak (.weak (.tmp 0 rfl) weakHd) weakTNAn) (weakAnM (by omega))) (.cons (.weak (.weak (.weak (.tmp 1 rfl) weakHd) weakTNAn) (weakAnM (by omega))) (.nil))))) ?_
    refine .cons (.plain rfl (ok_move (.tmp 0 rfl))) ?_
    refine .cons (.plain rfl (ok_extract 0 (.tmp 0 rfl) rfl)) ?_
    refine .cons (.plain rfl (ok_extract 1 (.tmp 0 rfl) rfl)) ?_
    refine .cons (.plain rfl (ok_extract 2 (.tmp 0 rfl) rfl)) ?_
    refine .cons (.plain rfl (ok_assign (.tmp 0 rfl))) ?_
    refine .cons (.plain rfl (ok_assign (.tmp 0 rfl))) ?_
    refine .cons (.plain rfl (ok_assign (.tmp 0 rfl))) ?_
    exact .nil
  clear H11 a8 w8 B8
  intro a12 w12 B12 H12
  refine ops_done ?_
  refine then_normal ?_
  refine wp_seq ?_
  obtain ⟨g13, hg13, H13⟩ := St.nameF H12 0 rfl (l' := fun g13 => [(9, .val (IsHd g13 (IsC ((val 4294967296 xs) / (val 4294967296 ys))))), (10, .val (IsFr m11 (IsC (if val 4294967296 ys = 0 then 0 else (val 4294967296 xs) % (val 4294967296 ys))))), (11, .val (IsB (decide (val 4294967296 ys ≠ 0)))), (911, .val (Sz m11)), (8, .val (IsHd g9 (IsTN m ys))), (907, .val (Sz m7)), (7, .val (IsHd g5 (IsTN n xs))), (903, .val (Sz m3)), (6, .val (IsB false)), (0, .box 42 15 (IsBook w0.heap.size Ow w9000.heap.size w9000.heap.size ex cnt)), (0, .val (IsPt b)), (62, .val (IsFrm w0.heap.size b w9000)), (63, .val (Sz w9000.heap.size)), (1, .val (IsHd gx (IsAn n xs))), (2, .val (IsHd gy (IsAn m ys)))]) (fun _ => rfl)
  clear H12
  replace H13 : St 62 w0 B0 a12 w12 B12 [(9, .val (IsHd g13 (IsC ((val 4294967296 xs) / (val 4294967296 ys))))), (10, .val (IsFr m11 (IsC (if val 4294967296 ys = 0 then 0 else (val 4294967296 xs) % (val 4294967296 ys))))), (11, .val (IsB (decide (val 4294967296 ys ≠ 0)))), (911, .val (Sz m11)), (8, .val (IsHd g9 (IsTN m ys))), (907, .val (Sz m7)), (7, .val (IsHd g5 (IsTN n xs))), (903, .val (Sz m3)), (6, .val (IsB false)), (0, .box 42 15 (IsBook w0.heap.size Ow w9000.heap.size w9000.heap.size ex cnt)), (0, .val (IsPt b)), (62, .val (IsFrm w0.heap.size b w9000)), (63, .val (Sz w9000.heap.size)), (1, .val (IsHd gx (IsAn n xs))), (2, .val (IsHd gy (IsAn m ys)))] [0] := H13
  have hz14 : m11 ≤ w12.heap.size := H13.fc.get 3 rfl
  obtain ⟨m15, hm15, hw15, hL15, H15⟩ := St.mark H13 915
  clear H13
  clear hL15
  replace hz14 : m11 ≤ m15 := Nat.le_trans hz14 hw15
  replace hg13 : ∀ b, g13 = some b → m11 ≤ b ∧ b < m15 := fun b hb => ⟨(hg13 b hb).1, Nat.lt_of_lt_of_le (hg13 b hb).2 hw15⟩
  clear hw15
  obtain ⟨g16, hg16, H16⟩ := St.nameF H15 2 rfl (l' := fun g16 => [(915, .val (Sz m15)), (9, .val (IsHd g13 (IsC ((val 4294967296 xs) / (val 4294967296 ys))))), (10, .val (IsHd g16 (IsC (if val 4294967296 ys = 0 then 0 else (val 4294967296 xs) % (val 4294967296 ys))))), (11, .val (IsB (decide (val 4294967296 ys ≠ 0)))), (911, .val (Sz m11)), (8, .val (IsHd g9 (IsTN m ys))), (907, .val (Sz m7)), (7, .val (IsHd g5 (IsTN n xs))), (903, .val (Sz m3)), (6, .val (IsB false)), (0, .box 42 15 (IsBook w0.heap.size Ow w9000.heap.size w9000.heap.size ex cnt)), (0, .val (IsPt b)), (62, .val (IsFrm w0.heap.size b w9000)), (63, .val (Sz w9000.heap.size)), (1, .val (IsHd gx (IsAn n xs))), (2, .val (IsHd gy (IsAn m ys)))]) (fun _ => rfl)
  clear H15
  replace H16 : St 62 w0 B0 a12 w12 B12 [(915, .val (Sz m15)), (9, .val (IsHd g13 (IsC ((val 4294967296 xs) / (val 4294967296 ys))))), (10, .val (IsHd g16 (IsC (if val 4294967296 ys = 0 then 0 else (val 4294967296 xs) % (val 4294967296 ys))))), (11, .val (IsB (decide (val 4294967296 ys ≠ 0)))), (911, .val (Sz m11)), (8, .val (IsHd g9 (IsTN m ys))), (907, .val (Sz m7)), (7, .val (IsHd g5 (IsTN n xs))), (903, .val (Sz m3)), (6, .val (IsB false)), (0, .box 42 15 (IsBook w0.heap.size Ow w9000.heap.size w9000.heap.size ex cnt)), (0, .val (IsPt b)), (62, .val (IsFrm w0.heap.size b w9000)), (63, .val (Sz w9000.heap.size)), (1, .val (IsHd gx (IsAn n xs))), (2, .val (IsHd gy (IsAn m ys)))] [0] := H16
  have hz17 : m15 ≤ w12.heap.size := H16.fc.get 0 rfl
  obtain ⟨m18, hm18, hw18, hL18, H18⟩ := St.mark H16 918
  clear H16
  clear hL18
  replace hz17 : m15 ≤ m18 := Nat.le_trans hz17 hw18
  replace hg16 : ∀ b, g16 = some b → m11 ≤ b ∧ b < m18 := fun b hb => ⟨(hg16 b hb).1, Nat.lt_of_lt_of_le (hg16 b hb).2 hw18⟩
  clear hw18
  refine flow_region (dsts := [some 27, some 28, some 29]) (refs := [[.pre 15], [.pre 16], [.res 0, .res 1, .pre 0]]) (outs := [.res 2, .pre 0, .pre 1, .pre 2, .pre 3, .pre 4, .pre 5, .pre 6, .pre 7, .pre 8, .pre 9, .pre 10, .pre 11, .pre 12, .pre 13, .pre 14, .pre 15, .pre 16]) (als := [false, false, false]) (posts := [.val (IsHd gx (IsAn n xs)), .val (IsHd gy (IsAn m ys)), .val (IsPr m18 (IsC ((val 4294967296 xs) / (val 4294967296 ys))) (IsC (if val 4294967296 ys = 0 then 0 else (val 4294967296 xs) % (val 4294967296 ys))) (decide (val 4294967296 ys ≠ 0)))])
    (out := [(29, .val (IsPr m18 (IsC ((val 4294967296 xs) / (val 4294967296 ys))) (IsC (if val 4294967296 ys = 0 then 0 else (val 4294967296 xs) % (val 4294967296 ys))) (decide (val 4294967296 ys ≠ 0)))), (918, .val (Sz m18)), (915, .val (Sz m15)), (9, .val (IsHd g13 (IsC ((val 4294967296 xs) / (val 4294967296 ys))))), (10, .val (IsHd g16 (IsC (if val 4294967296 ys = 0 then 0 else (val 4294967296 xs) % (val 4294967296 ys))))), (11, .val (IsB (decide (val 4294967296 ys ≠ 0)))), (911, .val (Sz m11)), (8, .val (IsHd g9 (IsTN m ys))), (907, .val (Sz m7)), (7, .val (IsHd g5 (IsTN n xs))), (903, .val (Sz m3)), (6, .val (IsB false)), (0, .box 42 15 (IsBook w0.heap.size Ow w9000.heap.size w9000.heap.size ex cnt)), (0, .val (IsPt b)), (62, .val (IsFrm w0.heap.size b w9000)), (63, .val (Sz w9000.heap.size)), (1, .val (IsHd gx (IsAn n xs))), (2, .val (IsHd gy (IsAn m ys)))]) (nb := []) H18 3 [3, 4, 5, 6, 7, 8, 9] rfl (by kernel_rfl) rfl rfl ?_ ?_
  · refine .cons (.plain rfl (ok_move (.tmp 0 rfl))) ?_
    refine .cons (.plain rfl (ok_move (.tmp 0 rfl))) ?_
    refine .cons (.plain rfl (ok_callF 2 (con_qdivF (val 4294967296 xs) (val 4294967296 ys)) rfl (.cons (.weak (.weak (.tmp 0 rfl) weakHd) (weakAnM (by omega))) (.cons (.weak (.weak (.tmp 1 rfl) weakHd) (weakAnM (by omega))) (.nil))))) ?_
    exact .nil
  clear H18 a12 w12 B12
  intro a19 w19 B19 H19
  obtain ⟨g20, k20, hg20, hk20, hn20, H20⟩ := St.namePr H19 0 rfl (l' := fun g20 k20 => [(29, .val (Tup [IsHd g20 (IsC ((val 4294967296 xs) / (val 4294967296 ys))), IsHd k20 (IsC (if val 4294967296 ys = 0 then 0 else (val 4294967296 xs) % (val 4294967296 ys))), IsB (decide (val 4294967296 ys ≠ 0))])), (918, .val (Sz m18)), (915, .val (Sz m15)), (9, .val (IsHd g13 (IsC ((val 4294967296 xs) / (val 4294967296 ys))))), (10, .val (IsHd g16 (IsC (if val 4294967296 ys = 0 then 0 else (val 4294967296 xs) % (val 4294967296 ys))))), (11, .val (IsB (decide (val 4294967296 ys ≠ 0)))), (911, .val (Sz m11)), (8, .val (IsHd g9 (IsTN m ys))), (907, .val (Sz m7)), (7, .val (IsHd g5 (IsTN n xs))), (903, .val (Sz m3)), (6, .val (IsB false)), (0, .box 42 15 (IsBook w0.heap.size Ow w9000.heap.size w9000.heap.size ex cnt)), (0, .val (IsPt b)), (62, .val (IsFrm w0.heap.size b w9000)), (63, .val (Sz w9000.heap.size)), (1, .val (IsHd gx (IsAn n xs))), (2, .val (IsHd gy (IsAn m ys)))]) (fun _ _ => rfl)
  clear H19
  replace H20 : St 62 w0 B0 a19 w19 B19 [(29, .val (Tup [IsHd g20 (IsC ((val 4294967296 xs) / (val 4294967296 ys))), IsHd k20 (IsC (if val 4294967296 ys = 0 then 0 else (val 4294967296 xs) % (val 4294967296 ys))), IsB (decide (val 4294967296 ys ≠ 0))])), (918, .val (Sz m18)), (915, .val (Sz m15)), (9, .val (IsHd g13 (IsC ((val 4294967296 xs) / (val 4294967296 ys))))), (10, .val (IsHd g16 (IsC (if val 4294967296 ys = 0 then 0 else (val 4294967296 xs) % (val 4294967296 ys))))), (11, .val (IsB (decide (val 4294967296 ys ≠ 0)))), (911, .val (Sz m11)), (8, .val (IsHd g9 (IsTN m ys))), (907, .val (Sz m7)), (7, .val (IsHd g5 (IsTN n xs))), (903, .val (Sz m3)), (6, .val (IsB false)), (0, .box 42 15 (IsBook w0.heap.size Ow w9000.heap.size w9000.heap.size ex cnt)), (0, .val (IsPt b)), (62, .val (IsFrm w0.heap.size b w9000)), (63, .val (Sz w9000.heap.size)), (1, .val (IsHd gx (IsAn n xs))), (2, .val (IsHd gy (IsAn m ys)))] [0] := H20
  have hz21 : m18 ≤ w19.heap.size := H20.fc.get 1 rfl
  obtain ⟨m22, hm22, hw22, hL22, H22⟩ := St.mark H20 922
  clear H20
  clear hL22
  replace hz21 : m18 ≤ m22 := Nat.le_trans hz21 hw22
  replace hg20 : ∀ b, g20 = some b → m18 ≤ b ∧ b < m22 := fun b hb => ⟨(hg20 b hb).1, Nat.lt_of_lt_of_le (hg20 b hb).2 hw22⟩
  replace hk20 : ∀ b, k20 = some b → m18 ≤ b ∧ b < m22 := fun b hb => ⟨(hk20 b hb).1, Nat.lt_of_lt_of_le (hk20 b hb).2 hw22⟩
  clear hw22
  refine ops_one ?_
  refine tail_op (D := .val (Tup [IsHd g20 (IsC ((val 4294967296 xs) / (val 4294967296 ys))), IsHd k20 (IsC (if val 4294967296 ys = 0 then 0 else (val 4294967296 xs) % (val 4294967296 ys))), IsB (decide (val 4294967296 ys ≠ 0))])) (l' := [(26, .val (Tup [IsHd g20 (IsC ((val 4294967296 xs) / (val 4294967296 ys))), IsHd k20 (IsC (if val 4294967296 ys = 0 then 0 else (val 4294967296 xs) % (val 4294967296 ys))), IsB (decide (val 4294967296 ys ≠ 0))])), (922, .val (Sz m22)), (29, .val (Tup [IsHd g20 (IsC ((val 4294967296 xs) / (val 4294967296 ys))), IsHd k20 (IsC (if val 4294967296 ys = 0 then 0 else (val 4294967296 xs) % (val 4294967296 ys))), IsB (decide (val 4294967296 ys ≠ 0))])), (918, .val (Sz m18)), (915, .val (Sz m15)), (9, .val (IsHd g13 (IsC ((val 4294967296 xs) / (val 4294967296 ys))))), (10, .val (IsHd g16 (IsC (if val 4294967296 ys = 0 then 0 else (val 4294967296 xs) % (val 4294967296 ys))))), (11, .val (IsB (decide (val 4294967296 ys ≠ 0)))), (911, .val (Sz m11)), (8, .val (IsHd g9 (IsTN m ys))), (907, .val (Sz m7)), (7, .val (IsHd g5 (IsTN n xs))), (903, .val (Sz m3)), (6, .val (IsB false)), (0, .box 42 15 (IsBook w0.heap.size Ow w9000.heap.size w9000.heap.size ex cnt)), (0, .val (IsPt b)), (62, .val (IsFrm w0.heap.size b w9000)), (63, .val (Sz w9000.heap.size)), (1, .val (IsHd gx (IsAn n xs))), (2, .val (IsHd gy (IsAn m ys)))]) H22 rfl rfl rfl (.plain rfl (ok_move (.tmp 1 rfl))) rfl rfl ?_
  clear H22 a19 w19 B19
  intro a23 w23 B23 H23
  refine ops_one ?_
  refine tail_op (D := .val (IsHd g20 (IsC ((val 4294967296 xs) / (val 4294967296 ys))))) (l' := [(30, .val (IsHd g20 (IsC ((val 4294967296 xs) / (val 4294967296 ys))))), (26, .val (Tup [IsHd g20 (IsC ((val 4294967296 xs) / (val 4294967296 ys))), IsHd k20 (IsC (if val 4294967296 ys = 0 then 0 else (val 4294967296 xs) % (val 4294967296 ys))), IsB (decide (val 4294967296 ys ≠ 0))])), (922, .val (Sz m22)), (29, .val (Tup [IsHd g20 (IsC ((val 4294967296 xs) / (val 4294967296 ys))), IsHd k20 (IsC (if val 4294967296 ys = 0 then 0 else (val 4294967296 xs) % (val 4294967296 ys))), IsB (decide (val 4294967296 ys ≠ 0))])), (918, .val (Sz m18)), (915, .val (Sz m15)), (9, .val (IsHd g13 (IsC ((val 4294967296 xs) / (val 4294967296 ys))))), (10, .val (IsHd g16 (IsC (if val 4294967296 ys = 0 then 0 else (val 4294967296 xs) % (val 4294967296 ys))))), (11, .val (IsB (decide (val 4294967296 ys ≠ 0)))), (911, .val (Sz m11)), (8, .val (IsHd g9 (IsTN m ys))), (907, .val (Sz m7)), (7, .val (IsHd g5 (IsTN n xs))), (903, .val (Sz m3)), (6, .val (IsB false)), (0, .box 42 15 (IsBook w0.heap.size Ow w9000.heap.size w9000.heap.size ex cnt)), (0, .val (IsPt b)), (62, .val (IsFrm w0.heap.size b w9000)), (63, .val (Sz w9000.heap.size)), (1, .val (IsHd gx (IsAn n xs))), (2, .val (IsHd gy (IsAn m ys)))]) H23 rfl rfl rfl (.plain rfl (ok_extract 0 (.tmp 0 rfl) rfl)) rfl rfl ?_
  clear H23 a23 w23 B23
  intro a24 w24 B24 H24
  refine ops_one ?_
  refine tail_op (D := .val (IsHd k20 (IsC (if val 4294967296 ys = 0 then 0 else (val 4294967296 xs) % (val 4294967296 ys))))) (l' := [(31, .val (IsHd k20 (IsC (if val 4294967296 ys = 0 then 0 else (val 4294967296 xs) % (val 4294967296 ys))))), (30, .val (IsHd g20 (IsC ((val 4294967296 xs) / (val 4294967296 ys))))), (26, .val (Tup [IsHd g20 (IsC ((val 4294967296 xs) / (val 4294967296 ys))), IsHd k20 (IsC (if val 4294967296 ys = 0 then 0 else (val 4294967296 xs) % (val 4294967296 ys))), IsB (decide (val 4294967296 ys ≠ 0))])), (922, .val (Sz m22)), (29, .val (Tup [IsHd g20 (IsC ((val 4294967296 xs) / (val 4294967296 ys))), IsHd k20 (IsC (if val 4294967296 ys = 0 then 0 else (val 4294967296 xs) % (val 4294967296 ys))), IsB (decide (val 4294967296 ys ≠ 0))])), (918, .val (Sz m18)), (915, .val (Sz m15)), (9, .val (IsHd g13 (IsC ((val 4294967296 xs) / (val 4294967296 ys))))), (10, .val (IsHd g16 (IsC (if val 4294967296 ys = 0 then 0 else (val 4294967296 xs) % (val 4294967296 ys))))), (11, .val (IsB (decide (val 4294967296 ys ≠ 0)))), (911, .val (Sz m11)), (8, .val (IsHd g9 (IsTN m ys))), (907, .val (Sz m7)), (7, .val (IsHd g5 (IsTN n xs))), (903, .val (Sz m3)), (6, .val (IsB false)), (0, .box 42 15 (IsBook w0.heap.size Ow w9000.heap.size w9000.heap.size ex cnt)), (0, .val (IsPt b)), (62, .val (IsFrm w0.heap.size b w9000)), (63, .val (Sz w9000.heap.size)), (1, .val (IsHd gx (IsAn n xs))), (2, .val (IsHd gy (IsAn m ys)))]) H24 rfl rfl rfl (.plain rfl (ok_extract 1 (.tmp 1 rfl) rfl)) rfl rfl ?_
  clear H24 a24 w24 B24
  intro a25 w25 B25 H25
  refine ops_one ?_
  refine tail_op (D := .val (IsB (decide (val 4294967296 ys ≠ 0)))) (l' := [(32, .val (IsB (decide (val 4294967296 ys ≠ 0)))), (31, .val (IsHd k20 (IsC (if val 4294967296 ys = 0 then 0 else (val 4294967296 xs) % (val 4294967296 ys))))), (30, .val (IsHd g20 (IsC ((val 4294967296 xs) / (val 4294967296 ys))))), (26, .val (Tup [IsHd g20 (IsC ((val 4294967296 xs) / (val 4294967296 ys))), IsHd k20 (IsC (if val 4294967296 ys = 0 then 0 else (val 4294967296 xs) % (val 4294967296 ys))), IsB (decide (val 4294967296 ys ≠ 0))])), (922, .val (Sz m22)), (29, .val (Tup [IsHd g20 (IsC ((val 4294967296 xs) / (val 4294967296 ys))), IsHd k20 (IsC (if val 4294967296 ys = 0 then 0 else (val 4294967296 xs) % (val 4294967296 ys))), IsB (decide (val 4294967296 ys ≠ 0))])), (918, .val (Sz m18)), (915, .val (Sz m15)), (9, .val (IsHd g13 (IsC ((val 4294967296 xs) / (val 4294967296 ys))))), (10, .val (IsHd g16 (IsC (if val 4294967296 ys = 0 then 0 else (val 4294967296 xs) % (val 4294967296 ys))))), (11, .val (IsB (decide (val 4294967296 ys ≠ 0)))), (911, .val (Sz m11)), (8, .val (IsHd g9 (IsTN m ys))), (907, .val (Sz m7)), (7, .val (IsHd g5 (IsTN n xs))), (903, .val (Sz m3)), (6, .val (IsB false)), (0, .box 42 15 (IsBook w0.heap.size Ow w9000.heap.size w9000.heap.size ex cnt)), (0, .val (IsPt b)), (62, .val (IsFrm w0.heap.size b w9000)), (63, .val (Sz w9000.heap.size)), (1, .val (IsHd gx (IsAn n xs))), (2, .val (IsHd gy (IsAn m ys)))]) H25 rfl rfl rfl (.plain rfl (ok_extract 2 (.tmp 2 rfl) rfl)) rfl rfl ?_
  clear H25 a25 w25 B25
  intro a26 w26 B26 H26
  refine ops_one ?_
  refine tail_op (D := .val (IsHd g20 (IsC ((val 4294967296 xs) / (val 4294967296 ys))))) (l' := [(12, .val (IsHd g20 (IsC ((val 4294967296 xs) / (val 4294967296 ys))))), (32, .val (IsB (decide (val 4294967296 ys ≠ 0)))), (31, .val (IsHd k20 (IsC (if val 4294967296 ys = 0 then 0 else (val 4294967296 xs) % (val 4294967296 ys))))), (30, .val (IsHd g20 (IsC ((val 4294967296 xs) / (val 4294967296 ys))))), (26, .val (Tup [IsHd g20 (IsC ((val 4294967296 xs) / (val 4294967296 ys))), IsHd k20 (IsC (if val 4294967296 ys = 0 then 0 else (val 4294967296 xs) % (val 4294967296 ys))), IsB (decide (val 4294967296 ys ≠ 0))])), (922, .val (Sz m22)), (29, .val (Tup [IsHd g20 (IsC ((val 4294967296 xs) / (val 4294967296 ys))), IsHd k20 (IsC (if val 4294967296 ys = 0 then 0 else (val 4294967296 xs) % (val 4294967296 ys))), IsB (decide (val 4294967296 ys ≠ 0))])), (918, .val (Sz m18)), (915, .val (Sz m15)), (9, .val (IsHd g13 (IsC ((val 4294967296 xs) / (val 4294967296 ys))))), (10, .val (IsHd g16 (IsC (if val 4294967296 ys = 0 then 0 else (val 4294967296 xs) % (val 4294967296 ys))))), (11, .val (IsB (decide (val 4294967296 ys ≠ 0)))), (911, .val (Sz m11)), (8, .val (IsHd g9 (IsTN m ys))), (907, .val (Sz m7)), (7, .val (IsHd g5 (IsTN n xs))), (903, .val (Sz m3)), (6, .val (IsB false)), (0, .box 42 15 (IsBook w0.heap.size Ow w9000.heap.size w9000.heap.size ex cnt)), (0, .val (IsPt b)), (62, .val (IsFrm w0.heap.size b w9000)), (63, .val (Sz w9000.heap.size)), (1, .val (IsHd gx (IsAn n xs))), (2, .val (IsHd gy (IsAn m ys)))]) H26 rfl rfl rfl (.plain rfl (ok_assign (.tmp 2 rfl))) rfl rfl ?_
  clear H26 a26 w26 B26
  intro a27 w27 B27 H27
  refine ops_one ?_
  refine tail_op (D := .val (IsHd k20 (IsC (if val 4294967296 ys = 0 then 0 else (val 4294967296 xs) % (val 4294967296 ys))))) (l' := [(13, .val (IsHd k20 (IsC (if val 4294967296 ys = 0 then 0 else (val 4294967296 xs) % (val 4294967296 ys))))), (12, .val (IsHd g20 (IsC ((val 4294967296 xs) / (val 4294967296 ys))))), (32, .val (IsB (decide (val 4294967296 ys ≠ 0)))), (31, .val (IsHd k20 (IsC (if val 4294967296 ys = 0 then 0 else (val 4294967296 xs) % (val 4294967296 ys))))), (30, .val (IsHd g20 (IsC ((val 4294967296 xs) / (val 4294967296 ys))))), (26, .val (Tup [IsHd g20 (IsC ((val 4294967296 xs) / (val 4294967296 ys))), IsHd k20 (IsC (if val 4294967296 ys = 0 then 0 else (val 4294967296 xs) % (val 4294967296 ys))), IsB (decide (val 4294967296 ys ≠ 0))])), (922, .val (Sz m22)), (29, .val (Tup [IsHd g20 (IsC ((val 4294967296 xs) / (val 4294967296 ys))), IsHd k20 (IsC (if val 4294967296 ys = 0 then 0 else (val 4294967296 xs) % (val 4294967296 ys))), IsB (decide (val 4294967296 ys ≠ 0))])), (918, .val (Sz m18)), (915, .val (Sz m15)), (9, .val (IsHd g13 (IsC ((val 4294967296 xs) / (val 4294967296 ys))))), (10, .val (IsHd g16 (IsC (if val 4294967296 ys = 0 then 0 else (val 4294967296 xs) % (val 4294967296 ys))))), (11, .val (IsB (decide (val 4294967296 ys ≠ 0)))), (911, .val (Sz m11)), (8, .val (IsHd g9 (IsTN m ys))), (907, .val (Sz m7)), (7, .val (IsHd g5 (IsTN n xs))), (903, .val (Sz m3)), (6, .val (IsB false)), (0, .box 42 15 (IsBook w0.heap.size Ow w9000.heap.size w9000.heap.size ex cnt)), (0, .val (IsPt b)), (62, .val (IsFrm w0.heap.size b w9000)), (63, .val (Sz w9000.heap.size)), (1, .val (IsHd gx (IsAn n xs))), (2, .val (IsHd gy (IsAn m ys)))]) H27 rfl rfl rfl (.plain rfl (ok_assign (.tmp 2 rfl))) rfl rfl ?_
  clear H27 a27 w27 B27
  intro a28 w28 B28 H28
  refine ops_one ?_
  refine tail_op (D := .val (IsB (decide (val 4294967296 ys ≠ 0)))) (l' := [(14, .val (IsB (decide (val 4294967296 ys ≠ 0)))), (13, .val (IsHd k20 (IsC (if val 4294967296 ys = 0 then 0 else (val 4294967296 xs) % (val 4294967296 ys))))), (12, .val (IsHd g20 (IsC ((val 4294967296 xs) / (val 4294967296 ys))))), (32, .val (IsB (decide (val 4294967296 ys ≠ 0)))), (31, .val (IsHd k20 (IsC (if val 4294967296 ys = 0 then 0 else (val 4294967296 xs) % (val 4294967296 ys))))), (30, .val (IsHd g20 (IsC ((val 4294967296 xs) / (val 4294967296 ys))))), (26, .val (Tup [IsHd g20 (IsC ((val 4294967296 xs) / (val 4294967296 ys))), IsHd k20 (IsC (if val 4294967296 ys = 0 then 0 else (val 4294967296 xs) % (val 4294967296 ys))), IsB (decide (val 4294967296 ys ≠ 0))])), (922, .val (Sz m22)), (29, .val (Tup [IsHd g20 (IsC ((val 4294967296 xs) / (val 4294967296 ys))), IsHd k20 (IsC (if val 4294967296 ys = 0 then 0 else (val 4294967296 xs) % (val 4294967296 ys))), IsB (decide (val 4294967296 ys ≠ 0))])), (918, .val (Sz m18)), (915, .val (Sz m15)), (9, .val (IsHd g13 (IsC ((val 4294967296 xs) / (val 4294967296 ys))))), (10, .val (IsHd g16 (IsC (if val 4294967296 ys = 0 then 0 else (val 4294967296 xs) % (val 4294967296 ys))))), (11, .val (IsB (decide (val 4294967296 ys ≠ 0)))), (911, .val (Sz m11)), (8, .val (IsHd g9 (IsTN m ys))), (907, .val (Sz m7)), (7, .val (IsHd g5 (IsTN n xs))), (903, .val (Sz m3)), (6, .val (IsB false)), (0, .box 42 15 (IsBook w0.heap.size Ow w9000.heap.size w9000.heap.size ex cnt)), (0, .val (IsPt b)), (62, .val (IsFrm w0.heap.size b w9000)), (63, .val (Sz w9000.heap.size)), (1, .val (IsHd gx (IsAn n xs))), (2, .val (IsHd gy (IsAn m ys)))]) H28 rfl rfl rfl (.plain rfl (ok_assign (.tmp 2 rfl))) rfl rfl ?_
  clear H28 a28 w28 B28
  intro a29 w29 B29 H29
  refine ops_done ?_
  refine then_normal ?_
  refine wp_seq ?_
  refine flow_region (dsts := [some 33, some 34]) (refs := [[.pre 21], [.pre 2]]) (outs := [.res 0, .res 1, .pre 0, .pre 1, .pre 2, .pre 7, .pre 9, .pre 10, .pre 11, .pre 12, .pre 13, .pre 14, .pre 15, .pre 16, .pre 17, .pre 18, .pre 19, .pre 20, .pre 21, .pre 22, .pre 23, .pre 24, .pre 25]) (als := [false, false]) (posts := [.val (IsPt b), .val (IsHd g20 (IsC ((val 4294967296 xs) / (val 4294967296 ys))))])
    (out := [(33, .val (IsPt b)), (34, .val (IsHd g20 (IsC ((val 4294967296 xs) / (val 4294967296 ys))))), (14, .val (IsB (decide (val 4294967296 ys ≠ 0)))), (13, .val (IsHd k20 (IsC (if val 4294967296 ys = 0 then 0 else (val 4294967296 xs) % (val 4294967296 ys))))), (12, .val (IsHd g20 (IsC ((val 4294967296 xs) / (val 4294967296 ys))))), (922, .val (Sz m22)), (918, .val (Sz m18)), (915, .val (Sz m15)), (9, .val (IsHd g13 (IsC ((val 4294967296 xs) / (val 4294967296 ys))))), (10, .val (IsHd g16 (IsC (if val 4294967296 ys = 0 then 0 else (val 4294967296 xs) % (val 4294967296 ys))))), (11, .val (IsB (decide (val 4294967296 ys ≠ 0)))), (911, .val (Sz m11)), (8, .val (IsHd g9 (IsTN m ys))), (907, .val (Sz m7)), (7, .val (IsHd g5 (IsTN n xs))), (903, .val (Sz m3)), (6, .val (IsB false)), (0, .box 42 15 (IsBook w0.heap.size Ow w9000.heap.size w9000.heap.size ex cnt)), (0, .val (IsPt b)), (62, .val (IsFrm w0.heap.size b w9000)), (63, .val (Sz w9000.heap.size)), (1, .val (IsHd gx (IsAn n xs))), (2, .val (IsHd gy (IsAn m ys)))]) (nb := []) H29 2 [2] rfl (by kernel_rfl) rfl rfl ?_ ?_
  · refine .cons (.plain rfl (ok_move (.tmp 0 rfl))) ?_
    refine .cons (.plain rfl (ok_move (.tmp 0 rfl))) ?_
    exact .nil
  clear H29 a29 w29 B29
  intro a30 w30 B30 H30
  refine ops_one ?_
  have hk31 : ∀ b, g20 = some b → w0.heap.size ≤ b ∧ ¬ (w9000.heap.size ≤ b ∧ b < w9000.heap.size) ∧ some b ∉ ex := fun b hb => ⟨by have := hg20 b hb; omega, fun hx => by have := hg20 b hb; omega, fun hx => by have := hex b hx; have := hg20 b hb; omega⟩
  refine keep_op (cnt := cnt) (ks := [(33, .val (IsPt b)), (34, .val (IsHd g20 (IsC ((val 4294967296 xs) / (val 4294967296 ys))))), (14, .val (IsB (decide (val 4294967296 ys ≠ 0)))), (13, .val (IsHd k20 (IsC (if val 4294967296 ys = 0 then 0 else (val 4294967296 xs) % (val 4294967296 ys))))), (12, .val (IsHd g20 (IsC ((val 4294967296 xs) / (val 4294967296 ys))))), (922, .val (Sz m22)), (918, .val (Sz m18)), (915, .val (Sz m15)), (9, .val (IsHd g13 (IsC ((val 4294967296 xs) / (val 4294967296 ys))))), (10, .val (IsHd g16 (IsC (if val 4294967296 ys = 0 then 0 else (val 4294967296 xs) % (val 4294967296 ys))))), (11, .val (IsB (decide (val 4294967296 ys ≠ 0)))), (911, .val (Sz m11)), (8, .val (IsHd g9 (IsTN m ys))), (907, .val (Sz m7)), (7, .val (IsHd g5 (IsTN n xs))), (903, .val (Sz m3)), (6, .val (IsB false)), (0, .val (IsPt b)), (62, .val (IsFrm w0.heap.size b w9000)), (63, .val (Sz w9000.heap.size)), (1, .val (IsHd gx (IsAn n xs))), (2, .val (IsHd gy (IsAn m ys)))]) (l' := [(0, .box 42 15 (IsBook w0.heap.size Ow w9000.heap.size w9000.heap.size (g20 :: ex) (cnt + 1))), (33, .val (IsPt b)), (34, .val (IsHd g20 (IsC ((val 4294967296 xs) / (val 4294967296 ys))))), (14, .val (IsB (decide (val 4294967296 ys ≠ 0)))), (13, .val (IsHd k20 (IsC (if val 4294967296 ys = 0 then 0 else (val 4294967296 xs) % (val 4294967296 ys))))), (12, .val (IsHd g20 (IsC ((val 4294967296 xs) / (val 4294967296 ys))))), (922, .val (Sz m22)), (918, .val (Sz m18)), (915, .val (Sz m15)), (9, .val (IsHd g13 (IsC ((val 4294967296 xs) / (val 4294967296 ys))))), (10, .val (IsHd g16 (IsC (if val 4294967296 ys = 0 then 0 else (val 4294967296 xs) % (val 4294967296 ys))))), (11, .val (IsB (decide (val 4294967296 ys ≠ 0)))), (911, .val (Sz m11)), (8, .val (IsHd g9 (IsTN m ys))), (907, .val (Sz m7)), (7, .val (IsHd g5 (IsTN n xs))), (903, .val (Sz m3)), (6, .val (IsB false)), (0, .val (IsPt b)), (62, .val (IsFrm w0.heap.size b w9000)), (63, .val (Sz w9000.heap.size)), (1, .val (IsHd gx (IsAn n xs))), (2, .val (IsHd gy (IsAn m ys)))]) 17 [0, 1, 2, 3, 4, 5, 6, 7, 8, 9, 10, 11, 12, 13, 14, 15, 16, 18, 19, 20, 21, 22] H30 rfl (fun _ _ => by go_simp) keep_nat rfl ((H30.fc.get 0 rfl).trans (H30.fc.get 18 rfl).symm) (.tmp 1 rfl) (by omega) (fun x hx => hOw x (Nat.le_trans (H30.fc.get 20 rfl) hx)) hk31 rfl (by kernel_rfl) (.cons (keptB_lit) (.cons (keptB_hd loc_C) (.cons (keptB_lit) (.cons (keptB_hd loc_C) (.cons (keptB_hd loc_C) (.cons (keptB_sz) (.cons (keptB_sz) (.cons (keptB_sz) (.cons (keptB_hd loc_C) (.cons (keptB_hd loc_C) (.cons (keptB_lit) (.cons (keptB_sz) (.cons (keptB_hd loc_TN) (.cons (keptB_sz) (.cons (keptB_hd loc_TN) (.cons (keptB_sz) (.cons (keptB_lit) (.cons (keptB_lit) (.cons (keptB_frm) (.cons (keptB_sz) (.cons (keptB_hd loc_An) (.cons (keptB_hd loc_An) (.nil))))))))))))))))))))))) (by decide) rfl ?_
  clear H30 hk31 a30 w30 B30
  intro a31 w31 B31 H31
  refine ops_done ?_
  refine then_normal ?_
  refine wp_seq ?_
  refine flow_region (dsts := [some 36, some 37]) (refs := [[.pre 18], [.pre 4]]) (outs := [.res 0, .res 1, .pre 0, .pre 3, .pre 4, .pre 5, .pre 6, .pre 7, .pre 8, .pre 9, .pre 10, .pre 11, .pre 12, .pre 13, .pre 14, .pre 15, .pre 16, .pre 17, .pre 18, .pre 19, .pre 20, .pre 21, .pre 22]) (als := [false, false]) (posts := [.val (IsPt b), .val (IsHd k20 (IsC (if val 4294967296 ys = 0 then 0 else (val 4294967296 xs) % (val 4294967296 ys))))])
    (out := [(36, .val (IsPt b)), (37, .val (IsHd k20 (IsC (if val 4294967296 ys = 0 then 0 else (val 4294967296 xs) % (val 4294967296 ys))))), (0, .box 42 15 (IsBook w0.heap.size Ow w9000.heap.size w9000.heap.size (g20 :: ex) (cnt + 1))), (14, .val (IsB (decide (val 4294967296 ys ≠ 0)))), (13, .val (IsHd k20 (IsC (if val 4294967296 ys = 0 then 0 else (val 4294967296 xs) % (val 4294967296 ys))))), (12, .val (IsHd g20 (IsC ((val 4294967296 xs) / (val 4294967296 ys))))), (922, .val (Sz m22)), (918, .val (Sz m18)), (915, .val (Sz m15)), (9, .val (IsHd g13 (IsC ((val 4294967296 xs) / (val 4294967296 ys))))), (10, .val (IsHd g16 (IsC (if val 4294967296 ys = 0 then 0 else (val 4294967296 xs) % (val 4294967296 ys))))), (11, .val (IsB (decide (val 4294967296 ys ≠ 0)))), (911, .val (Sz m11)), (8, .val (IsHd g9 (IsTN m ys))), (907, .val (Sz m7)), (7, .val (IsHd g5 (IsTN n xs))), (903, .val (Sz m3)), (6, .val (IsB false)), (0, .val (IsPt b)), (62, .val (IsFrm w0.heap.size b w9000)), (63, .val (Sz w9000.heap.size)), (1, .val (IsHd gx (IsAn n xs))), (2, .val (IsHd gy (IsAn m ys)))]) (nb := []) H31 2 [2] rfl (by kernel_rfl) rfl rfl ?_ ?_
  · refine .cons (.plain rfl (ok_move (.tmp 0 rfl))) ?_
    refine .cons (.plain rfl (ok_move (.tmp 0 rfl))) ?_
    exact .nil
  clear H31 a31 w31 B31
  intro a32 w32 B32 H32
  refine ops_one ?_
  have hk33 : ∀ b, k20 = some b → w0.heap.size ≤ b ∧ ¬ (w9000.heap.size ≤ b ∧ b < w9000.heap.size) ∧ some b ∉ (g20 :: ex) := fun b hb => ⟨by have := hk20 b hb; omega, fun hx => by have := hk20 b hb; omega, fun hx => by rcases List.mem_cons.1 hx with hx | hx; exact hn20 b hx.symm hb; have := hex b hx; have := hk20 b hb; omega⟩
  refine keep_op (cnt := cnt + 1) (ks := [(36, .val (IsPt b)), (37, .val (IsHd k20 (IsC (if val 4294967296 ys = 0 then 0 else (val 4294967296 xs) % (val 4294967296 ys))))), (14, .val (IsB (decide (val 4294967296 ys ≠ 0)))), (13, .val (IsHd k20 (IsC (if val 4294967296 ys = 0 then 0 else (val 4294967296 xs) % (val 4294967296 ys))))), (12, .val (IsHd g20 (IsC ((val 4294967296 xs) / (val 4294967296 ys))))), (922, .val (Sz m22)), (918, .val (Sz m18)), (915, .val (Sz m15)), (9, .val (IsHd g13 (IsC ((val 4294967296 xs) / (val 4294967296 ys))))), (10, .val (IsHd g16 (IsC (if val 4294967296 ys = 0 then 0 else (val 4294967296 xs) % (val 4294967296 ys))))), (11, .val (IsB (decide (val 4294967296 ys ≠ 0)))), (911, .val (Sz m11)), (8, .val (IsHd g9 (IsTN m ys))), (907, .val (Sz m7)), (7, .val (IsHd g5 (IsTN n xs))), (903, .val (Sz m3)), (6, .val (IsB false)), (0, .val (IsPt b)), (62, .val (IsFrm w0.heap.size b w9000)), (63, .val (Sz w9000.heap.size)), (1, .val (IsHd gx (IsAn n xs))), (2, .val (IsHd gy (IsAn m ys)))]) (l' := [(0, .box 42 15 (IsBook w0.heap.size Ow w9000.heap.size w9000.heap.size (k20 :: (g20 :: ex)) (cnt + 1 + 1))), (36, .val (IsPt b)), (37, .val (IsHd k20 (IsC (if val 4294967296 ys = 0 then 0 else (val 4294967296 xs) % (val 4294967296 ys))))), (14, .val (IsB (decide (val 4294967296 ys ≠ 0)))), (13, .val (IsHd k20 (IsC (if val 4294967296 ys = 0 then 0 else (val 4294967296 xs) % (val 4294967296 ys))))), (12, .val (IsHd g20 (IsC ((val 4294967296 xs) / (val 4294967296 ys))))), (922, .val (Sz m22)), (918, .val (Sz m18)), (915, .val (Sz m15)), (9, .val (IsHd g13 (IsC ((val 4294967296 xs) / (val 4294967296 ys))))), (10, .val (IsHd g16 (IsC (if val 4294967296 ys = 0 then 0 else (val 4294967296 xs) % (val 4294967296 ys))))), (11, .val (IsB (decide (val 4294967296 ys ≠ 0)))), (911, .val (Sz m11)), (8, .val (IsHd g9 (IsTN m ys))), (907, .val (Sz m7)), (7, .val (IsHd g5 (IsTN n xs))), (903, .val (Sz m3)), (6, .val (IsB false)), (0, .val (IsPt b)), (62, .val (IsFrm w0.heap.size b w9000)), (63, .val (Sz w9000.heap.size)), (1, .val (IsHd gx (IsAn n xs))), (2, .val (IsHd gy (IsAn m ys)))]) 2 [0, 1, 3, 4, 5, 6, 7, 8, 9, 10, 11, 12, 13, 14, 15, 16, 17, 18, 19, 20, 21, 22] H32 rfl (fun _ _ => by go_simp) keep_nat rfl ((H32.fc.get 0 rfl).trans (H32.fc.get 18 rfl).symm) (.tmp 1 rfl) (by omega) (fun x hx => hOw x (Nat.le_trans (H32.fc.get 20 rfl) hx)) hk33 rfl (by kernel_rfl) (.cons (keptB_lit) (.cons (keptB_hd loc_C) (.cons (keptB_lit) (.cons (keptB_hd loc_C) (.cons (keptB_hd loc_C) (.cons (keptB_sz) (.cons (keptB_sz) (.cons (keptB_sz) (.cons (keptB_hd loc_C) (.cons (keptB_hd loc_C) (.cons (keptB_lit) (.cons (keptB_sz) (.cons (keptB_hd loc_TN) (.cons (keptB_sz) (.cons (keptB_hd loc_TN) (.cons (keptB_sz) (.cons (keptB_lit) (.cons (keptB_lit) (.cons (keptB_frm) (.cons (keptB_sz) (.cons (keptB_hd loc_An) (.cons (keptB_hd loc_An) (.nil))))))))))))))))))))))) (by decide) rfl ?_
  clear H32 hk33 a32 w32 B32
  intro a33 w33 B33 H33
  refine ops_done ?_
  refine then_normal ?_
  refine wp_seq ?_
  refine flow_region (dsts := [some 39, some 40, some 41, some 42, some 43, some 44, some 45, some 46, some 47, some 48, some 49, some 50, some 51, some 52, some 53, some 54, some 55, some 56, some 57, some 58, some 59, some 60, some 61, some 6]) (refs := [[.pre 11], [.pre 3], [.res 0, .res 1], [.res 2], [.res 3, .pre 5], [.res 3, .pre 9], [.res 3, .res 4, .res 5], [.res 3, .res 6], [.res 7], [.res 8, .pre 4], [.res 8, .pre 10], [.res 8, .res 9, .res 10], [.res 8, .res 11], [.res 12], [.res 13, .pre 21], [.res 13, .pre 15], [.res 13, .res 14, .res 15], [.res 13, .res 16], [.res 17], [.res 18, .pre 22], [.res 18, .pre 13], [.res 18, .res 19, .res 20], [.res 18, .res 21], [.res 22]]) (outs := [.res 23, .pre 0, .pre 6, .pre 7, .pre 8, .pre 12, .pre 14, .pre 16, .pre 18, .pre 19, .pre 20]) (als := [false, false, false, false, false, false, false, false, false, false, false, false, false, false, false, false, false, false, false, false, false, false, false, false]) (posts := [.val (IsB (decide (val 4294967296 ys ≠ 0))), .val (IsB (decide (val 4294967296 ys ≠ 0))), .val (IsB true), .val (IsB true), .val (IsHd g20 (IsC ((val 4294967296 xs) / (val 4294967296 ys)))), .val (IsHd g13 (IsC ((val 4294967296 xs) / (val 4294967296 ys)))), .val (IsB true), .val (IsB true), .val (IsB true), .val (IsHd k20 (IsC (if val 4294967296 ys = 0 then 0 else (val 4294967296 xs) % (val 4294967296 ys)))), .val (IsHd g16 (IsC (if val 4294967296 ys = 0 then 0 else (val 4294967296 xs) % (val 4294967296 ys)))), .val (IsB true), .val (IsB true), .val (IsB true), .val (IsHd gx (IsAn n xs)), .val (IsHd g5 (IsTN n xs)), .val (IsB true), .val (IsB true), .val (IsB true), .val (IsHd gy (IsAn m ys)), .val (IsHd g9 (IsTN m ys)), .val (IsB true), .val (IsB true), .val (IsB true)])
    (out := [(6, .val (IsB true)), (0, .box 42 15 (IsBook w0.heap.size Ow w9000.heap.size w9000.heap.size (k20 :: (g20 :: ex)) (cnt + 1 + 1))), (922, .val (Sz m22)), (918, .val (Sz m18)), (915, .val (Sz m15)), (911, .val (Sz m11)), (907, .val (Sz m7)), (903, .val (Sz m3)), (0, .val (IsPt b)), (62, .val (IsFrm w0.heap.size b w9000)), (63, .val (Sz w9000.heap.size))]) (nb := []) H33 24 [] rfl (by kernel_rfl) rfl rfl ?_ ?_
  · refine .cons (.plain rfl (ok_move (.tmp 0 rfl))) ?_
    refine .cons (.plain rfl (ok_move (.tmp 0 rfl))) ?_
    refine .cons (.plain rfl (OpOk.eqB (b := (decide (val 4294967296 ys ≠ 0)) == (decide (val 4294967296 ys ≠ 0))) (ok_eqB Tryz.underlying4 (.tmp 0 rfl) (.tmp 1 rfl)) (beq_self_eq_true _))) ?_
    refine .cons (.plain rfl (ok_move (.tmp 0 rfl))) ?_
    refine .cons (.wanted 3 true rfl rfl rfl 0 rfl (ok_move (.tmp 1 rfl))) ?_
    refine .cons (.wanted 3 true rfl rfl rfl 0 rfl (ok_move (.tmp 1 rfl))) ?_
    refine .cons (.wanted 3 true rfl rfl rfl 0 rfl (ok_call (con_sameC ((val 4294967296 xs) / (val 4294967296 ys))) (.cons (.weak (.tmp 1 rfl) weakHd) (.cons (.weak (.tmp 2 rfl) weakHd) (.nil))))) ?_
    refine .cons (.plain rfl (ok_pickT (.tmp 0 rfl) (.tmp 1 rfl))) ?_
    refine .cons (.plain rfl (ok_move (.tmp 0 rfl))) ?_
    refine .cons (.wanted 8 true rfl rfl rfl 0 rfl (ok_move (.tmp 1 rfl))) ?_
    refine .cons (.wanted 8 true rfl rfl rfl 0 rfl (ok_move (.tmp 1 rfl))) ?_
    refine .cons (.wanted 8 true rfl rfl rfl 0 rfl (ok_call (con_sameC (if val 4294967296 ys = 0 then 0 else (val 4294967296 xs) % (val 4294967296 ys))) (.cons (.weak (.tmp 1 rfl) weakHd) (.cons (.weak (.tmp 2 rfl) weakHd) (.nil))))) ?_
    refine .cons (.plain rfl (ok_pickT (.tmp 0 rfl) (.tmp 1 rfl))) ?_
    refine .cons (.plain rfl (ok_move (.tmp 0 rfl))) ?_
    refine .cons (.wanted 13 true rfl rfl rfl 0 rfl (ok_move (.tmp 1 rfl))) ?_
    refine .cons (.wanted 13 true rfl rfl rfl 0 rfl (ok_move (.tmp 1 rfl))) ?_
    refine .cons (.wanted 13 true rfl rfl rfl 0 rfl (ok_call (con_sameAn n xs (by omega)) (.cons (.weak (.tmp 1 rfl) weakHd) (.cons (.weak (.weak (.tmp 2 rfl) weakHd) weakTNAn) (.nil))))) ?_
    refine .cons (.plain rfl (ok_pickT (.tmp 0 rfl) (.tmp 1 rfl))) ?_
    refine .cons (.plain rfl (ok_move (.tmp 0 rfl))) ?_
    refine .cons (.wanted 18 true rfl rfl rfl 0 rfl (ok_move (.tmp 1 rfl))) ?_
    refine .cons (.wanted 18 true rfl rfl rfl 0 rfl (ok_move (.tmp 1 rfl))) ?_
    refine .cons (.wanted 18 true rfl rfl rfl 0 rfl (ok_call (con_sameAn m ys (by omega)) (.cons (.weak (.tmp 1 rfl) weakHd) (.cons (.weak (.weak (.tmp 2 rfl) weakHd) weakTNAn) (.nil))))) ?_
    refine .cons (.plain rfl (ok_pickT (.tmp 0 rfl) (.tmp 1 rfl))) ?_
    refine .cons (.plain rfl (ok_assign (.tmp 0 rfl))) ?_
    exact .nil
  clear H33 a33 w33 B33
  intro a34 w34 B34 H34
  refine ops_done ?_
  refine then_normal ?_
  refine wp_ret ?_
  exact f_retB H34 rfl 1 8 9 0 (by simp) rfl rfl rfl rfl hE (by omega) (by omega) (Nat.le_refl _) (fun x hx => by
      rcases List.mem_cons.1 hx with hx | hx
      · have := hk20 x hx.symm; exact .inr (by omega)
      rcases List.mem_cons.1 hx with hx | hx
      · have := hg20 x hx.symm; exact .inr (by omega)
      exact .inl hx)

set_option maxRecDepth 20000 in
set_option maxHeartbeats 2000000 in
theorem bk_common (gx gy : Option Nat) (n : Nat) (xs : List Int) (m : Nat) (ys : List Int) (hn : n ≤ 1048576) (hm : m ≤ 1048576) : BookFn Tryz.prog 27 [IsHd gx (IsAn n xs), IsHd gy (IsAn m ys)] (.bool true) 1 := by
  refine f_enterB (N := 37) Tryz.ntmps27 Tryz.func27 rfl (by simp) ?_
  intro w0 w9000 b ex Ow cnt a0 hcnt hwl hOw hex H0
  obtain ⟨B0, hB0⟩ : ∃ B0 : Bx, B0 = fun j => j = b := ⟨_, rfl⟩
  rw [← hB0] at H0
  clear hB0
  replace H0 : St 37 w0 B0 a0 w9000 B0 [(0, .box 42 15 (IsBook w0.heap.size Ow w9000.heap.size w9000.heap.size ex cnt)), (0, .val (IsPt b)), (37, .val (IsFrm w0.heap.size b w9000)), (38, .val (Sz w9000.heap.size)), (1, .val (IsHd gx (IsAn n xs))), (2, .val (IsHd gy (IsAn m ys)))] [0] := H0
  have hE := H0.bel
  refine wp_seq ?_
  refine flow_region (dsts := [some 6]) (refs := [[]]) (outs := [.res 0, .pre 0, .pre 1, .pre 2, .pre 3, .pre 4, .pre 5]) (als := [false]) (posts := [.val (IsB false)])
    (out := [(6, .val (IsB false)), (0, .box 42 15 (IsBook w0.heap.size Ow w9000.heap.size w9000.heap.size ex cnt)), (0, .val (IsPt b)), (37, .val (IsFrm w0.heap.size b w9000)), (38, .val (Sz w9000.heap.size)), (1, .val (IsHd gx (IsAn n xs))), (2, .val (IsHd gy (IsAn m ys)))]) (nb := []) H0 1 [] rfl (by kernel_rfl) rfl rfl ?_ ?_
  · refine .cons (.plain rfl (ok_assign (.lit))) ?_
    exact .nil
  clear H0
  intro a1 w1 B1 H1
  refine ops_done ?_
  refine then_normal ?_
  refine wp_seq ?_
  have hz2 : w9000.heap.size ≤ w1.heap.size := H1.fc.get 4 rfl
  obtain ⟨m3, hm3, hw3, hL3, H3⟩ := St.mark H1 903
  clear H1
  clear hL3
  replace hz2 : w9000.heap.size ≤ m3 := Nat.le_trans hz2 hw3
  clear hw3
  refine flow_region (dsts := [some 11, some 12, some 7]) (refs := [[.pre 6], [.res 0, .pre 0], [.res 1]]) (outs := [.res 2, .pre 0, .pre 1, .pre 2, .pre 3, .pre 4, .pre 5, .pre 6, .pre 7]) (als := [false, false, false]) (posts := [.val (IsHd gx (IsAn n xs)), .val (IsFr m3 (IsTN n xs)), .val (IsFr m3 (IsTN n xs))])
    (out := [(7, .val (IsFr m3 (IsTN n xs))), (903, .val (Sz m3)), (6, .val (IsB false)), (0, .box 42 15 (IsBook w0.heap.size Ow w9000.heap.size w9000.heap.size ex cnt)), (0, .val (IsPt b)), (37, .val (IsFrm w0.heap.size b w9000)), (38, .val (Sz w9000.heap.size)), (1, .val (IsHd gx (IsAn n xs))), (2, .val (IsHd gy (IsAn m ys)))]) (nb := []) H3 3 [] rfl (by kernel_rfl) rfl rfl ?_ ?_
  · refine .cons (.plain rfl (ok_move (.tmp 0 rfl))) ?_
    refine .cons (.plain rfl (ok_callF 1 (con_twinF n xs (by omega)) rfl (.cons (.weak (.tmp 0 rfl) weakHd) (.nil)))) ?_
    refine .cons (.plain rfl (ok_assign (.tmp 0 rfl))) ?_
    exact .nil
  clear H3 a1 w1 B1
  intro a4 w4 B4 H4
  refine ops_done ?_
  refine then_normal ?_
  refine wp_seq ?_
  obtain ⟨g5, hg5, H5⟩ := St.nameF H4 0 rfl (l' := fun g5 => [(7, .val (IsHd g5 (IsTN n xs))), (903, .val (Sz m3)), (6, .val (IsB false)), (0, .box 42 15 (IsBook w0.heap.size Ow w9000.heap.size w9000.heap.size ex cnt)), (0, .val (IsPt b)), (37, .val (IsFrm w0.heap.size b w9000)), (38, .val (Sz w9000.heap.size)), (1, .val (IsHd gx (IsAn n xs))), (2, .val (IsHd gy (IsAn m ys)))]) (fun _ => rfl)
  clear H4
  replace H5 : St 37 w0 B0 a4 w4 B4 [(7, .val (IsHd g5 (IsTN n xs))), (903, .val (Sz m3)), (6, .val (IsB false)), (0, .box 42 15 (IsBook w0.heap.size Ow w9000.heap.size w9000.heap.size ex cnt)), (0, .val (IsPt b)), (37, .val (IsFrm w0.heap.size b w9000)), (38, .val (Sz w9000.heap.size)), (1, .val (IsHd gx (IsAn n xs))), (2, .val (IsHd gy (IsAn m ys)))] [0] := H5
  have hz6 : m3 ≤ w4.heap.size := H5.fc.get 1 rfl
  obtain ⟨m7, hm7, hw7, hL7, H7⟩ := St.mark H5 907
  clear H5
  clear hL7
  replace hz6 : m3 ≤ m7 := Nat.le_trans hz6 hw7
  replace hg5 : ∀ b, g5 = some b → m3 ≤ b ∧ b < m7 := fun b hb => ⟨(hg5 b hb).1, Nat.lt_of_lt_of_le (hg5 b hb).2 hw7⟩
  clear hw7
  refine flow_region (dsts := [some 13, some 14, some 8]) (refs := [[.pre 9], [.res 0, .pre 0], [.res 1]]) (outs := [.res 2, .pre 0, .pre 1, .pre 2, .pre 3, .pre 4, .pre 5, .pre 6, .pre 7, .pre 8, .pre 9]) (als := [false, false, false]) (posts := [.val (IsHd gy (IsAn m ys)), .val (IsFr m7 (IsTN m ys)), .val (IsFr m7 (IsTN m ys))])
    (out := [(8, .val (IsFr m7 (IsTN m ys))), (907, .val (Sz m7)), (7, .val (IsHd g5 (IsTN n xs))), (903, .val (Sz m3)), (6, .val (IsB false)), (0, .box 42 15 (IsBook w0.heap.size Ow w9000.heap.size w9000.heap.size ex cnt)), (0, .val (IsPt b)), (37, .val (IsFrm w0.heap.size b w9000)), (38, .val (Sz w9000.heap.size)), (1, .val (IsHd gx (IsAn n xs))), (2, .val (IsHd gy (IsAn m ys)))]) (nb := []) H7 3 [] rfl (by kernel_rfl) rfl rfl ?_ ?_
  · refine .cons (.plain rfl (ok_move (.tmp 0 rfl))) ?_
    refine .cons (.plain rfl (ok_callF 1 (con_twinF m ys (by omega)) rfl (.cons (.weak (.tmp 0 rfl) weakHd) (.nil)))) ?_
    refine .cons (.plain rfl (ok_assign (.tmp 0 rfl))) ?_
    exact .nil
  clear H7 a4 w4 B4
  intro a8 w8 B8 H8
  refine ops_done ?_
  refine then_normal ?_
  refine wp_seq ?_
  obtain ⟨g9, hg9, H9⟩ := St.nameF H8 0 rfl (l' := fun g9 => [(8, .val (IsHd g9 (IsTN m ys))), (907, .val (Sz m7)), (7, .val (IsHd g5 (IsTN n xs))), (903, .val (Sz m3)), (6, .val (IsB false)), (0, .box 42 15 (IsBook w0.heap.size Ow w9000.heap.size w9000.heap.size ex cnt)), (0, .val (IsPt b)), (37, .val (IsFrm w0.heap.size b w9000)), (38, .val (Sz w9000.heap.size)), (1, .val (IsHd gx (IsAn n xs))), (2, .val (IsHd gy (IsAn m ys)))]) (fun _ => rfl)
  clear H8
  replace H9 : St 37 w0 B0 a8 w8 B8 [(8, .val (IsHd g9 (IsTN m ys))), (907, .val (Sz m7)), (7, .val (IsHd g5 (IsTN n xs))), (903, .val (Sz m3)), (6, .val (IsB false)), (0, .box 42 15 (IsBook w0.heap.size Ow w9000.heap.size w9000.heap.size ex cnt)), (0, .val (IsPt b)), (37, .val (IsFrm w0.heap.size b w9000)), (38, .val (Sz w9000.heap.size)), (1, .val (IsHd gx (IsAn n xs))), (2, .val (IsHd gy (IsAn m ys)))] [0] := H9
  have hz10 : m7 ≤ w8.heap.size := H9.fc.get 1 rfl
  obtain ⟨m11, hm11, hw11, hL11, H11⟩ := St.mark H9 911
  clear H9
  clear hL11
  replace hz10 : m7 ≤ m11 := Nat.le_trans hz10 hw11
  replace hg9 : ∀ b, g9 = some b → m7 ≤ b ∧ b < m11 := fun b hb => ⟨(hg9 b hb).1, Nat.lt_of_lt_of_le (hg9 b hb).2 hw11⟩
  clear hw11
  refine flow_region (dsts := [some 15, some 16, some 17, some 9]) (refs := [[.pre 3], [.pre 1], [.res 0, .res 1, .pre 0], [.res 2]]) (outs := [.res 3, .pre 0, .pre 1, .pre 2, .pre 3, .pre 4, .pre 5, .pre 6, .pre 7, .pre 8, .pre 9, .pre 10, .pre 11]) (als := [false, false, false, false]) (posts := [.val (IsHd g5 (IsTN n xs)), .val (IsHd g9 (IsTN m ys)), .val (IsFr m11 (IsC (gcdI (val 4294967296 xs) (val 4294967296 ys)))), .val (IsFr m11 (IsC (gcdI (val 4294967296 xs) (val 4294967296 ys))))])
    (out := [(9, .val (IsFr m11 (IsC (gcdI (val 4294967296 xs) (val 4294967296 ys))))), (911, .val (Sz m11)), (8, .val (IsHd g9 (IsTN m ys))), (907, .val (Sz m7)), (7, .val (IsHd g5 (IsTN n xs))), (903, .val (Sz m3)), (6, .val (IsB false)), (0, .box 42 15 (IsBook w0.heap.size Ow w9000.heap.size w9000.heap.size ex cnt)), (0, .val (IsPt b)), (37, .val (IsFrm w0.heap.size b w9000)), (38, .val (Sz w9000.heap.size)), (1, .val (IsHd gx (IsAn n xs))), (2, .val (IsHd gy (IsAn m ys)))]) (nb := []) H11 4 [] rfl (by kernel_rfl) rfl rfl ?_ ?_
  · refine .cons (.plain rfl (ok_move (.tmp 0 rfl))) ?_
    refine .cons (.plain rfl (ok_move (.tmp 0 rfl))) ?_
    refine .cons (.plain rfl (ok_callF 2 (con_r2gcdF (val 4294967296 xs) (val 4294967296 ys)) rfl (.cons (.weak (.weak (.weak (.tmp 0 rfl) weakHd) weakTNAn) (weakAnM (by omega))) (.cons (.weak (.weak (.weak (.tmp 1 rfl) weakHd) weakTNAn) (weakAnM (by omega))) (.nil))))) ?_
    refine .cons (.plain rfl (ok_assign (.tmp 0 rfl))) ?_
    exact .nil
  clear H11 a8 w8 B8
  intro a12 w12 B12 H12
  refine ops_done ?_
  refine then_normal ?_
  refine wp_seq ?_
  obtain ⟨g13, hg13, H13⟩ := St.nameF H12 0 rfl (l' := fun g13 => [(9, .val (IsHd g13 (IsC (gcdI (val 4294967296 xs) (val 4294967296 ys))))), (911, .val (Sz m11)), (8, .val (IsHd g9 (IsTN m ys))), (907, .val (Sz m7)), (7, .val (IsHd g5 (IsTN n xs))), (903, .val (Sz m3)), (6, .val (IsB false)), (0, .box 42 15 (IsBook w0.heap.size Ow w9000.heap.size w9000.heap.size ex cnt)), (0, .val (IsPt b)), (37, .val (IsFrm w0.heap.size b w9000)), (38, .val (Sz w9000.heap.size)), (1, .val (IsHd gx (IsAn n xs))), (2, .val (IsHd gy (IsAn m ys)))]) (fun _ => rfl)
  clear H12
  replace H13 : St 37 w0 B0 a12 w12 B12 [(9, .val (IsHd g13 (IsC (gcdI (val 4294967296 xs) (val 4294967296 ys))))), (911, .val (Sz m11)), (8, .val (IsHd g9 (IsTN m ys))), (907, .val (Sz m7)), (7, .val (IsHd g5 (IsTN n xs))), (903, .val (Sz m3)), (6, .val (IsB false)), (0, .box 42 15 (IsBook w0.heap.size Ow w9000.heap.size w9000.heap.size ex cnt)), (0, .val (IsPt b)), (37, .val (IsFrm w0.heap.size b w9000)), (38, .val (Sz w9000.heap.size)), (1, .val (IsHd gx (IsAn n xs))), (2, .val (IsHd gy (IsAn m ys)))] [0] := H13
  have hz14 : m11 ≤ w12.heap.size := H13.fc.get 1 rfl
  obtain ⟨m15, hm15, hw15, hL15, H15⟩ := St.mark H13 915
  clear H13
  clear hL15
  replace hz14 : m11 ≤ m15 := Nat.le_trans hz14 hw15
  replace hg13 : ∀ b, g13 = some b → m11 ≤ b ∧ b < m15 := fun b hb => ⟨(hg13 b hb).1, Nat.lt_of_lt_of_le (hg13 b hb).2 hw15⟩
  clear hw15
  refine flow_region (dsts := [some 18, some 19, some 20, some 10]) (refs := [[.pre 12], [.pre 13], [.res 0, .res 1, .pre 0], [.res 2]]) (outs := [.res 3, .pre 0, .pre 1, .pre 2, .pre 3, .pre 4, .pre 5, .pre 6, .pre 7, .pre 8, .pre 9, .pre 10, .pre 11, .pre 12, .pre 13]) (als := [false, false, false, false]) (posts := [.val (IsHd gx (IsAn n xs)), .val (IsHd gy (IsAn m ys)), .val (IsFr m15 (IsC (gcdI (val 4294967296 xs) (val 4294967296 ys)))), .val (IsFr m15 (IsC (gcdI (val 4294967296 xs) (val 4294967296 ys))))])
    (out := [(10, .val (IsFr m15 (IsC (gcdI (val 4294967296 xs) (val 4294967296 ys))))), (915, .val (Sz m15)), (9, .val (IsHd g13 (IsC (gcdI (val 4294967296 xs) (val 4294967296 ys))))), (911, .val (Sz m11)), (8, .val (IsHd g9 (IsTN m ys))), (907, .val (Sz m7)), (7, .val (IsHd g5 (IsTN n xs))), (903, .val (Sz m3)), (6, .val (IsB false)), (0, .box 42 15 (IsBook w0.heap.size Ow w9000.heap.size w9000.heap.size ex cnt)), (0, .val (IsPt b)), (37, .val (IsFrm w0.heap.size b w9000)), (38, .val (Sz w9000.heap.size)), (1, .val (IsHd gx (IsAn n xs))), (2, .val (IsHd gy (IsAn m ys)))]) (nb := []) H15 4 [] rfl (by kernel_rfl) rfl rfl ?_ ?_
  · refine .cons (.plain rfl (ok_move (.tmp 0 rfl))) ?_
    refine .cons (.plain rfl (ok_move (.tmp 0 rfl))) ?_
    refine .cons (.plain rfl (ok_callF 2 (con_qgcdF (val 4294967296 xs) (val 4294967296 ys)) rfl (.cons (.weak (.weak (.tmp 0 rfl) weakHd) (weakAnM (by omega))) (.cons (.weak (.weak (.tmp 1 rfl) weakHd) (weakAnM (by omega))) (.nil))))) ?_
    refine .cons (.plain rfl (ok_assign (.tmp 0 rfl))) ?_
    exact .nil
  clear H15 a12 w12 B12
  intro a16 w16 B16 H16
  refine ops_done ?_
  refine then_normal ?_
  refine wp_seq ?_
  obtain ⟨g17, hg17, H17⟩ := St.nameF H16 0 rfl (l' := fun g17 => [(10, .val (IsHd g17 (IsC (gcdI (val 4294967296 xs) (val 4294967296 ys))))), (915, .val (Sz m15)), (9, .val (IsHd g13 (IsC (gcdI (val 4294967296 xs) (val 4294967296 ys))))), (911, .val (Sz m11)), (8, .val (IsHd g9 (IsTN m ys))), (907, .val (Sz m7)), (7, .val (IsHd g5 (IsTN n xs))), (903, .val (Sz m3)), (6, .val (IsB false)), (0, .box 42 15 (IsBook w0.heap.size Ow w9000.heap.size w9000.heap.size ex cnt)), (0, .val (IsPt b)), (37, .val (IsFrm w0.heap.size b w9000)), (38, .val (Sz w9000.heap.size)), (1, .val (IsHd gx (IsAn n xs))), (2, .val (IsHd gy (IsAn m ys)))]) (fun _ => rfl)
  clear H16
  replace H17 : St 37 w0 B0 a16 w16 B16 [(10, .val (IsHd g17 (IsC (gcdI (val 4294967296 xs) (val 4294967296 ys))))), (915, .val (Sz m15)), (9, .val (IsHd g13 (IsC (gcdI (val 4294967296 xs) (val 4294967296 ys))))), (911, .val (Sz m11)), (8, .val (IsHd g9 (IsTN m ys))), (907, .val (Sz m7)), (7, .val (IsHd g5 (IsTN n xs))), (903, .val (Sz m3)), (6, .val (IsB false)), (0, .box 42 15 (IsBook w0.heap.size Ow w9000.heap.size w9000.heap.size ex cnt)), (0, .val (IsPt b)), (37, .val (IsFrm w0.heap.size b w9000)), (38, .val (Sz w9000.heap.size)), (1, .val (IsHd gx (IsAn n xs))), (2, .val (IsHd gy (IsAn m ys)))] [0] := H17
  have hz18 : m15 ≤ w16.heap.size := H17.fc.get 1 rfl
  obtain ⟨m19, hm19, hw19, hL19, H19⟩ := St.mark H17 919
  clear H17
  clear hL19
  replace hz18 : m15 ≤ m19 := Nat.le_trans hz18 hw19
  replace hg17 : ∀ b, g17 = some b → m15 ≤ b ∧ b < m19 := fun b hb => ⟨(hg17 b hb).1, Nat.lt_of_lt_of_le (hg17 b hb).2 hw19⟩
  clear hw19
  refine flow_region (dsts := [some 21, some 22]) (refs := [[.pre 11], [.pre 1]]) (outs := [.res 0, .res 1, .pre 0, .pre 1, .pre 2, .pre 3, .pre 4, .pre 5, .pre 6, .pre 7, .pre 8, .pre 9, .pre 10, .pre 11, .pre 12, .pre 13, .pre 14, .pre 15]) (als := [false, false]) (posts := [.val (IsPt b), .val (IsHd g17 (IsC (gcdI (val 4294967296 xs) (val 4294967296 ys))))])
    (out := [(21, .val (IsPt b)), (22, .val (IsHd g17 (IsC (gcdI (val 4294967296 xs) (val 4294967296 ys))))), (919, .val (Sz m19)), (10, .val (IsHd g17 (IsC (gcdI (val 4294967296 xs) (val 4294967296 ys))))), (915, .val (Sz m15)), (9, .val (IsHd g13 (IsC (gcdI (val 4294967296 xs) (val 4294967296 ys))))), (911, .val (Sz m11)), (8, .val (IsHd g9 (IsTN m ys))), (907, .val (Sz m7)), (7, .val (IsHd g5 (IsTN n xs))), (903, .val (Sz m3)), (6, .val (IsB false)), (0, .box 42 15 (IsBook w0.heap.size Ow w9000.heap.size w9000.heap.size ex cnt)), (0, .val (IsPt b)), (37, .val (IsFrm w0.heap.size b w9000)), (38, .val (Sz w9000.heap.size)), (1, .val (IsHd gx (IsAn n xs))), (2, .val (IsHd gy (IsAn m ys)))]) (nb := []) H19 2 [2] rfl (by kernel_rfl) rfl rfl ?_ ?_
  · refine .cons (.plain rfl (ok_move (.tmp 0 rfl))) ?_
    refine .cons (.plain rfl (ok_move (.tmp 0 rfl))) ?_
    exact .nil
  clear H19 a16 w16 B16
  intro a20 w20 B20 H20
  refine ops_one ?_
  have hk21 : ∀ b, g17 = some b → w0.heap.size ≤ b ∧ ¬ (w9000.heap.size ≤ b ∧ b < w9000.heap.size) ∧ some b ∉ ex := fun b hb => ⟨by have := hg17 b hb; omega, fun hx => by have := hg17 b hb; omega, fun hx => by have := hex b hx; have := hg17 b hb; omega⟩
  refine keep_op (cnt := cnt) (ks := [(21, .val (IsPt b)), (22, .val (IsHd g17 (IsC (gcdI (val 4294967296 xs) (val 4294967296 ys))))), (919, .val (Sz m19)), (10, .val (IsHd g17 (IsC (gcdI (val 4294967296 xs) (val 4294967296 ys))))), (915, .val (Sz m15)), (9, .val (IsHd g13 (IsC (gcdI (val 4294967296 xs) (val 4294967296 ys))))), (911, .val (Sz m11)), (8, .val (IsHd g9 (IsTN m ys))), (907, .val (Sz m7)), (7, .val (IsHd g5 (IsTN n xs))), (903, .val (Sz m3)), (6, .val (IsB false)), (0, .val (IsPt b)), (37, .val (IsFrm w0.heap.size b w9000)), (38, .val (Sz w9000.heap.size)), (1, .val (IsHd gx (IsAn n xs))), (2, .val (IsHd gy (IsAn m ys)))]) (l' := [(0, .box 42 15 (IsBook w0.heap.size Ow w9000.heap.size w9000.heap.size (g17 :: ex) (cnt + 1))), (21, .val (IsPt b)), (22, .val (IsHd g17 (IsC (gcdI (val 4294967296 xs) (val 4294967296 ys))))), (919, .val (Sz m19)), (10, .val (IsHd g17 (IsC (gcdI (val 4294967296 xs) (val 4294967296 ys))))), (915, .val (Sz m15)), (9, .val (IsHd g13 (IsC (gcdI (val 4294967296 xs) (val 4294967296 ys))))), (911, .val (Sz m11)), (8, .val (IsHd g9 (IsTN m ys))), (907, .val (Sz m7)), (7, .val (IsHd g5 (IsTN n xs))), (903, .val (Sz m3)), (6, .val (IsB false)), (0, .val (IsPt b)), (37, .val (IsFrm w0.heap.size b w9000)), (38, .val (Sz w9000.heap.size)), (1, .val (IsHd gx (IsAn n xs))), (2, .val (IsHd gy (IsAn m ys)))]) 12 [0, 1, 2, 3, 4, 5, 6, 7, 8, 9, 10, 11, 13, 14, 15, 16, 17] H20 rfl (fun _ _ => by go_simp) keep_nat rfl ((H20.fc.get 0 rfl).trans (H20.fc.get 13 rfl).symm) (.tmp 1 rfl) (by omega) (fun x hx => hOw x (Nat.le_trans (H20.fc.get 15 rfl) hx)) hk21 rfl (by kernel_rfl) (.cons (keptB_lit) (.cons (keptB_hd loc_C) (.cons (keptB_sz) (.cons (keptB_hd loc_C) (.cons (keptB_sz) (.cons (keptB_hd loc_C) (.cons (keptB_sz) (.cons (keptB_hd loc_TN) (.cons (keptB_sz) (.cons (keptB_hd loc_TN) (.cons (keptB_sz) (.cons (keptB_lit) (.cons (keptB_lit) (.cons (keptB_frm) (.cons (keptB_sz) (.cons (keptB_hd loc_An) (.cons (keptB_hd loc_An) (.nil)))))))))))))))))) (by decide) rfl ?_
  clear H20 hk21 a20 w20 B20
  intro a21 w21 B21 H21
  refine ops_done ?_
  refine then_normal ?_
  refine wp_seq ?_
  refine flow_region (dsts := [some 24, some 25, some 26, some 27, some 28, some 29, some 30, some 31, some 32, some 33, some 34, some 35, some 36, some 6]) (refs := [[.pre 4], [.pre 6], [.res 0, .res 1], [.res 2], [.res 3, .pre 16], [.res 3, .pre 10], [.res 3, .res 4, .res 5], [.res 3, .res 6], [.res 7], [.res 8, .pre 17], [.res 8, .pre 8], [.res 8, .res 9, .res 10], [.res 8, .res 11], [.res 12]]) (outs := [.res 13, .pre 0, .pre 3, .pre 5, .pre 7, .pre 9, .pre 11, .pre 13, .pre 14, .pre 15]) (als := [false, false, false, false, false, false, false, false, false, false, false, false, false, false]) (posts := [.val (IsHd g17 (IsC (gcdI (val 4294967296 xs) (val 4294967296 ys)))), .val (IsHd g13 (IsC (gcdI (val 4294967296 xs) (val 4294967296 ys)))), .val (IsB true), .val (IsB true), .val (IsHd gx (IsAn n xs)), .val (IsHd g5 (IsTN n xs)), .val (IsB true), .val (IsB true), .val (IsB true), .val (IsHd gy (IsAn m ys)), .val (IsHd g9 (IsTN m ys)), .val (IsB true), .val (IsB true), .val (IsB true)])
    (out := [(6, .val (IsB true)), (0, .box 42 15 (IsBook w0.heap.size Ow w9000.heap.size w9000.heap.size (g17 :: ex) (cnt + 1))), (919, .val (Sz m19)), (915, .val (Sz m15)), (911, .val (Sz m11)), (907, .val (Sz m7)), (903, .val (Sz m3)), (0, .val (IsPt b)), (37, .val (IsFrm w0.heap.size b w9000)), (38, .val (Sz w9000.heap.size))]) (nb := []) H21 14 [] rfl (by kernel_rfl) rfl rfl ?_ ?_
  · refine .cons (.plain rfl (ok_move (.tmp 0 rfl))) ?_
    refine .cons (.plain rfl (ok_move (.tmp 0 rfl))) ?_
    refine .cons (.plain rfl (ok_call (con_sameC (gcdI (val 4294967296 xs) (val 4294967296 ys))) (.cons (.weak (.tmp 0 rfl) weakHd) (.cons (.weak (.tmp 1 rfl) weakHd) (.nil))))) ?_
    refine .cons (.plain rfl (ok_move (.tmp 0 rfl))) ?_
    refine .cons (.wanted 3 true rfl rfl rfl 0 rfl (ok_move (.tmp 1 rfl))) ?_
    refine .cons (.wanted 3 true rfl rfl rfl 0 rfl (ok_move (.tmp 1 rfl))) ?_
    refine .cons (.wanted 3 true rfl rfl rfl 0 rfl (ok_call (con_sameAn n xs (by omega)) (.cons (.weak (.tmp 1 rfl) weakHd) (.cons (.weak (.weak (.tmp 2 rfl) weakHd) weakTNAn) (.nil))))) ?_
    refine .cons (.plain rfl (ok_pickT (.tmp 0 rfl) (.tmp 1 rfl))) ?_
    refine .cons (.plain rfl (ok_move (.tmp 0 rfl))) ?_
    refine .cons (.wanted 8 true rfl rfl rfl 0 rfl (ok_move (.tmp 1 rfl))) ?_
    refine .cons (.wanted 8 true rfl rfl rfl 0 rfl (ok_move (.tmp 1 rfl))) ?_
    refine .cons (.wanted 8 true rfl rfl rfl 0 rfl (ok_call (con_sameAn m ys (by omega)) (.cons (.weak (.tmp 1 rfl) weakHd) (.cons (.weak (.weak (.tmp 2 rfl) weakHd) weakTNAn) (.nil))))) ?_
    refine .cons (.plain rfl (ok_pickT (.tmp 0 rfl) (.tmp 1 rfl))) ?_
    refine .cons (.plain rfl (ok_assign (.tmp 0 rfl))) ?_
    exact .nil
  clear H21 a21 w21 B21
  intro a22 w22 B22 H22
  refine ops_done ?_
  refine then_normal ?_
  refine wp_ret ?_
  exact f_retB H22 rfl 1 7 8 0 (by simp) rfl rfl rfl rfl hE (by omega) (by omega) (Nat.le_refl _) (fun x hx => by
      rcases List.mem_cons.1 hx with hx | hx
      · have := hg17 x hx.symm; exact .inr (by omega)
      exact .inl hx)
end Go.Proofs.YtbcbmkeeoognpaaGreatDoor

