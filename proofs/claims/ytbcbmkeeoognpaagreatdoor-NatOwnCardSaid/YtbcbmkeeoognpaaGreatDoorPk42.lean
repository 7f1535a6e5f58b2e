/- Contracts of functions, and plain facts, part 42. -/
import Derived.Test.YtbcbmkeeoognpaaGreatDoorPk41
set_option linter.unusedVariables false
set_option linter.unusedSimpArgs false
/- NatAns. (Printed by flowfn.py.) -/
namespace Go.Proofs.YtbcbmkeeoognpaaGreatDoor
open Go Go.RowKit

set_option maxRecDepth 20000 in
set_option maxHeartbeats 4000000 in
theorem con_answersF (V U n : Int) (hV : FitK 1024 V) (hU : FitK 1024 U) (hn : 0 ≤ n ∧ n < 256) : ConF Tryz.prog 15 [IsM V, IsM U, Lit (.int .u8 n)] (fun lo => A7v lo (ansL V U n)) := by
  refine f_enterF (N := 67) Tryz.ntmps15 (fun _ _ => by go_simp) Tryz.func15 rfl (by simp) ?_
  intro lo a0 w0 B0 H0
  replace H0 : St 67 w0 B0 a0 w0 B0 [(0, .val (IsM V)), (1, .val (IsM U)), (2, .val (Lit (.int .u8 n))), (67, .val (Sz lo))] [] := H0
  have hV0 := PM.nonneg (H0.fc.get 0 rfl)
  have hU0 := PM.nonneg (H0.fc.get 1 rfl)
  have hsl := shl_small hV0 hV (by omega) hn
  have hfa : Fits (V + U) := (hV.add hU).fits (by omega)
  have hfm : Fits (V * U) := (hV.mul hU).fits (by omega)
  refine wp_seq ?_
  refine flow_region (dsts := [some 6]) (refs := [[]]) (outs := [.res 0, .pre 0, .pre 1, .pre 2, .pre 3]) (als := [true]) (posts := [.box 43 7 (A7s)])
    (out := [(6, .box 43 7 (A7s)), (0, .val (IsM V)), (1, .val (IsM U)), (2, .val (Lit (.int .u8 n))), (67, .val (Sz lo))]) (nb := [6]) H0 1 [] rfl (by kernel_rfl) rfl rfl ?_ ?_
  · refine .cons (.plain rfl (ok_alloc7s)) ?_
    exact .nil
  clear H0
  intro a1 w1 B1 H1
  simp only [List.cons_append, List.nil_append] at H1
  refine ops_done ?_
  refine then_normal ?_
  refine wp_seq ?_
  refine flow_region (dsts := [some 18, some 19, some 20, some 17, some 21, some 22, some 7, some 8]) (refs := [[.pre 1], [.pre 2], [.res 0, .res 1, .pre 4], [.res 2], [.res 3], [.res 3], [.res 4], [.res 5]]) (outs := [.res 6, .res 7, .pre 0, .pre 1, .pre 2, .pre 3, .pre 4]) (als := [false, false, false, false, false, false, false, false]) (posts := [.val (IsM V), .val (IsM U), .val (IsFrB lo (IsC (if U ≤ V then V - U else 0)) (decide (U ≤ V))), .val (IsFrB lo (IsC (if U ≤ V then V - U else 0)) (decide (U ≤ V))), .val (IsFr lo (IsC (if U ≤ V then V - U else 0))), .val (IsB (decide (U ≤ V))), .val (IsFr lo (IsC (if U ≤ V then V - U else 0))), .val (IsB (decide (U ≤ V)))])
    (out := [(7, .val (IsFr lo (IsC (if U ≤ V then V - U else 0)))), (8, .val (IsB (decide (U ≤ V)))), (6, .box 43 7 (A7s)), (0, .val (IsM V)), (1, .val (IsM U)), (2, .val (Lit (.int .u8 n))), (67, .val (Sz lo))]) (nb := []) H1 8 [] rfl (by kernel_rfl) rfl rfl ?_ ?_
  · refine .cons (.plain rfl (ok_move (.tmp 0 rfl))) ?_
    refine .cons (.plain rfl (ok_move (.tmp 0 rfl))) ?_
    refine .cons (.plain rfl (ok_callF 2 (con_natsubF V U) rfl (.cons (.tmp 0 rfl) (.cons (.tmp 1 rfl) (.nil))))) ?_
    refine .cons (.plain rfl (ok_move (.tmp 0 rfl))) ?_
    refine .cons (.plain rfl (ok_extFB0 (.tmp 0 rfl))) ?_
    refine .cons (.plain rfl (ok_extFB1 (.tmp 0 rfl))) ?_
    refine .cons (.plain rfl (ok_assign (.tmp 0 rfl))) ?_
    refine .cons (.plain rfl (ok_assign (.tmp 0 rfl))) ?_
    exact .nil
  clear H1 a1 w1 B1
  intro a2 w2 B2 H2
  refine ops_done ?_
  refine then_normal ?_
  refine wp_seq ?_
  refine wp_seq ?_
  obtain ⟨g3, hg3, H3⟩ := St.nameF H2 0 rfl (l' := fun g3 => [(7, .val (IsHd g3 (IsC (if U ≤ V then V - U else 0)))), (8, .val (IsB (decide (U ≤ V)))), (6, .box 43 7 (A7s)), (0, .val (IsM V)), (1, .val (IsM U)), (2, .val (Lit (.int .u8 n))), (67, .val (Sz lo))]) (fun _ => rfl)
  clear H2
  replace H3 : St 67 w0 B0 a2 w2 B2 [(7, .val (IsHd g3 (IsC (if U ≤ V then V - U else 0)))), (8, .val (IsB (decide (U ≤ V)))), (6, .box 43 7 (A7s)), (0, .val (IsM V)), (1, .val (IsM U)), (2, .val (Lit (.int .u8 n))), (67, .val (Sz lo))] [6] := H3
  have hz4 : lo ≤ w2.heap.size := H3.fc.get 6 rfl
  obtain ⟨m5, hm5, hw5, hL5, H5⟩ := St.mark H3 905
  clear H3
  clear hL5
  replace hz4 : lo ≤ m5 := Nat.le_trans hz4 hw5
  replace hg3 : ∀ b, g3 = some b → lo ≤ b ∧ b < m5 := fun b hb => ⟨(hg3 b hb).1, Nat.lt_of_lt_of_le (hg3 b hb).2 hw5⟩
  clear hw5
  refine flow_region (dsts := [some 23, some 24]) (refs := [[.pre 2], [.res 0]]) (outs := [.res 1, .pre 0, .pre 1, .pre 3, .pre 4, .pre 5, .pre 6, .pre 7]) (als := [false, false]) (posts := [.val (IsB (decide (U ≤ V))), .val (IsB (!(decide (U ≤ V))))])
    (out := [(24, .val (IsB (!(decide (U ≤ V))))), (905, .val (Sz m5)), (7, .val (IsHd g3 (IsC (if U ≤ V then V - U else 0)))), (6, .box 43 7 (A7s)), (0, .val (IsM V)), (1, .val (IsM U)), (2, .val (Lit (.int .u8 n))), (67, .val (Sz lo))]) (nb := []) H5 2 [] rfl (by kernel_rfl) rfl rfl ?_ ?_
  · refine .cons (.plain rfl (ok_move (.tmp 0 rfl))) ?_
    refine .cons (.plain rfl (ok_not (b := decide (U ≤ V)) (.tmp 0 rfl))) ?_
    exact .nil
  clear H5 a2 w2 B2
  intro a6 w6 B6 H6
  refine ops_done ?_
  refine then_normal ?_
  refine f_cond H6 (.tmp 0 rfl) ?_ ?_
  · intro hc7
    have hle : ¬ U ≤ V := by simpa using hc7
    have hsB : (if V ≤ U then U - V else 0) = subN V U := by unfold subN; rw [if_neg hle, if_pos (by omega)]
    refine flow_region (dsts := [some 26, some 27, some 28, some 25, some 29, some 30, some 7]) (refs := [[.pre 5], [.pre 4], [.res 0, .res 1, .pre 1], [.res 2], [.res 3], [.res 3], [.res 4]]) (outs := [.res 6, .pre 1, .pre 3, .pre 4, .pre 5, .pre 6, .pre 7]) (als := [false, false, false, false, false, false, false]) (posts := [.val (IsM U), .val (IsM V), .val (IsFrB m5 (IsC (if V ≤ U then U - V else 0)) (decide (V ≤ U))), .val (IsFrB m5 (IsC (if V ≤ U then U - V else 0)) (decide (V ≤ U))), .val (IsFr m5 (IsC (if V ≤ U then U - V else 0))), .val (IsB (decide (V ≤ U))), .val (IsFr m5 (IsC (if V ≤ U then U - V else 0)))])
      (out := [(7, .val (IsFr m5 (IsC (if V ≤ U then U - V else 0)))), (905, .val (Sz m5)), (6, .box 43 7 (A7s)), (0, .val (IsM V)), (1, .val (IsM U)), (2, .val (Lit (.int .u8 n))), (67, .val (Sz lo))]) (nb := []) H6 7 [] rfl (by kernel_rfl) rfl rfl ?_ ?_
    · refine .cons (.plain rfl (ok_move (.tmp 0 rfl))) ?_
      refine .cons (.plain rfl (ok_move (.tmp 0 rfl))) ?_
      refine .cons (.plain rfl (ok_callF 2 (con_natsubF U V) rfl (.cons (.tmp 0 rfl) (.cons (.tmp 1 rfl) (.nil))))) ?_
      refine .cons (.plain rfl (ok_move (.tmp 0 rfl))) ?_
      refine .cons (.plain rfl (ok_extFB0 (.tmp 0 rfl))) ?_
      refine .cons (.plain rfl (ok_extFB1 (.tmp 0 rfl))) ?_
      refine .cons (.plain rfl (ok_assign (.tmp 0 rfl))) ?_
      exact .nil
    clear H6 a6 w6 B6
    intro a8 w8 B8 H8
    refine ops_done ?_
    refine then_normal ?_
    refine wp_seq ?_
    obtain ⟨g9, hg9, H9⟩ := St.nameF H8 0 rfl (l' := fun g9 => [(7, .val (IsHd g9 (IsC (if V ≤ U then U - V else 0)))), (905, .val (Sz m5)), (6, .box 43 7 (A7s)), (0, .val (IsM V)), (1, .val (IsM U)), (2, .val (Lit (.int .u8 n))), (67, .val (Sz lo))]) (fun _ => rfl)
    clear H8
    replace H9 : St 67 w0 B0 a8 w8 B8 [(7, .val (IsHd g9 (IsC (if V ≤ U then U - V else 0)))), (905, .val (Sz m5)), (6, .box 43 7 (A7s)), (0, .val (IsM V)), (1, .val (IsM U)), (2, .val (Lit (.int .u8 n))), (67, .val (Sz lo))] [6] := H9
    have hz10 : m5 ≤ w8.heap.size := H9.fc.get 1 rfl
    obtain ⟨m11, hm11, hw11, hL11, H11⟩ := St.mark H9 911
    clear H9
    clear hL11
    replace hz10 : m5 ≤ m11 := Nat.le_trans hz10 hw11
    replace hg9 : ∀ b, g9 = some b → m5 ≤ b ∧ b < m11 := fun b hb => ⟨(hg9 b hb).1, Nat.lt_of_lt_of_le (hg9 b hb).2 hw11⟩
    clear hw11
    have H12 := St.setw H11 1 (D' := IsHd g9 (IsC (subN V U))) rfl (fun v h => hsB ▸ h) (l' := [(911, .val (Sz m11)), (7, .val (IsHd g9 (IsC (subN V U)))), (905, .val (Sz m5)), (6, .box 43 7 (A7s)), (0, .val (IsM V)), (1, .val (IsM U)), (2, .val (Lit (.int .u8 n))), (67, .val (Sz lo))]) rfl
    clear H11
    refine flow_region (dsts := [some 32, some 33, some 34, some 35, some 31, some 36, some 37, some 9, some 10]) (refs := [[.pre 4], [.pre 6], [.res 1], [.res 0, .res 2, .pre 0], [.res 3], [.res 4], [.res 4], [.res 5], [.res 6]]) (outs := [.res 7, .pre 0, .pre 1, .pre 2, .pre 3, .pre 4, .pre 5, .pre 6, .pre 7]) (als := [false, false, false, false, false, false, false, false, false]) (posts := [.val (IsM V), .val (Lit (.int .u8 n)), .val (Lit (.int .i64 n)), .val (IsFrB m11 (IsC (shlNum V n)) (shlOk V n)), .val (IsFrB m11 (IsC (shlNum V n)) (shlOk V n)), .val (IsFr m11 (IsC (shlNum V n))), .val (IsB (shlOk V n)), .val (IsFr m11 (IsC (shlNum V n))), .val (IsB (shlOk V n))])
      (out := [(9, .val (IsFr m11 (IsC (shlNum V n)))), (911, .val (Sz m11)), (7, .val (IsHd g9 (IsC (subN V U)))), (905, .val (Sz m5)), (6, .box 43 7 (A7s)), (0, .val (IsM V)), (1, .val (IsM U)), (2, .val (Lit (.int .u8 n))), (67, .val (Sz lo))]) (nb := []) H12 9 [] rfl (by kernel_rfl) rfl rfl ?_ ?_
    · refine .cons (.plain rfl (ok_move (.tmp 0 rfl))) ?_
      refine .cons (.plain rfl (ok_move (.tmp 0 rfl))) ?_
      refine .cons (.plain rfl (ok_conv Tryz.underlying5 Tryz.underlying3 (r := n) (.tmp 0 rfl) (w_i64 (by omega)))) ?_
      refine .cons (.plain rfl (ok_callF 2 (con_natshlF V n (by omega) hsl.1 hsl.2) rfl (.cons (.tmp 0 rfl) (.cons (.tmp 1 rfl) (.nil))))) ?_
      refine .cons (.plain rfl (ok_move (.tmp 0 rfl))) ?_
      refine .cons (.plain rfl (ok_extFB0 (.tmp 0 rfl))) ?_
      refine .cons (.plain rfl (ok_extFB1 (.tmp 0 rfl))) ?_
      refine .cons (.plain rfl (ok_assign (.tmp 0 rfl))) ?_
      refine .cons (.plain rfl (ok_assign (.tmp 0 rfl))) ?_
      exact .nil
    clear H12 a8 w8 B8
    intro a13 w13 B13 H13
    refine ops_done ?_
    refine then_normal ?_
    refine wp_seq ?_
    obtain ⟨g14, hg14, H14⟩ := St.nameF H13 0 rfl (l' := fun g14 => [(9, .val (IsHd g14 (IsC (shlNum V n)))), (911, .val (Sz m11)), (7, .val (IsHd g9 (IsC (subN V U)))), (905, .val (Sz m5)), (6, .box 43 7 (A7s)), (0, .val (IsM V)), (1, .val (IsM U)), (2, .val (Lit (.int .u8 n))), (67, .val (Sz lo))]) (fun _ => rfl)
    clear H13
    replace H14 : St 67 w0 B0 a13 w13 B13 [(9, .val (IsHd g14 (IsC (shlNum V n)))), (911, .val (Sz m11)), (7, .val (IsHd g9 (IsC (subN V U)))), (905, .val (Sz m5)), (6, .box 43 7 (A7s)), (0, .val (IsM V)), (1, .val (IsM U)), (2, .val (Lit (.int .u8 n))), (67, .val (Sz lo))] [6] := H14
    have hz15 : m11 ≤ w13.heap.size := H14.fc.get 1 rfl
    obtain ⟨m16, hm16, hw16, hL16, H16⟩ := St.mark H14 916
    clear H14
    clear hL16
    replace hz15 : m11 ≤ m16 := Nat.le_trans hz15 hw16
    replace hg14 : ∀ b, g14 = some b → m11 ≤ b ∧ b < m16 := fun b hb => ⟨(hg14 b hb).1, Nat.lt_of_lt_of_le (hg14 b hb).2 hw16⟩
    clear hw16
    refine flow_region (dsts := [some 39, some 40, some 41, some 42, some 38, some 43, some 44, some 45, some 11, some 12, some 13]) (refs := [[.pre 6], [.pre 8], [.res 1], [.res 0, .res 2, .pre 0], [.res 3], [.res 4], [.res 4], [.res 4], [.res 5], [.res 6], [.res 7]]) (outs := [.res 8, .pre 0, .pre 1, .pre 2, .pre 3, .pre 4, .pre 5, .pre 6, .pre 7, .pre 8, .pre 9]) (als := [false, false, false, false, false, false, false, false, false, false, false]) (posts := [.val (IsM V), .val (Lit (.int .u8 n)), .val (Lit (.int .i64 n)), .val (IsFr3 m16 (IsC (shrNum V n)) (.bool (shrMore V n)) (.bool (decide (0 ≤ n)))), .val (IsFr3 m16 (IsC (shrNum V n)) (.bool (shrMore V n)) (.bool (decide (0 ≤ n)))), .val (IsFr m16 (IsC (shrNum V n))), .val (Lit (.bool (shrMore V n))), .val (Lit (.bool (decide (0 ≤ n)))), .val (IsFr m16 (IsC (shrNum V n))), .val (Lit (.bool (shrMore V n))), .val (Lit (.bool (decide (0 ≤ n))))])
      (out := [(11, .val (IsFr m16 (IsC (shrNum V n)))), (916, .val (Sz m16)), (9, .val (IsHd g14 (IsC (shlNum V n)))), (911, .val (Sz m11)), (7, .val (IsHd g9 (IsC (subN V U)))), (905, .val (Sz m5)), (6, .box 43 7 (A7s)), (0, .val (IsM V)), (1, .val (IsM U)), (2, .val (Lit (.int .u8 n))), (67, .val (Sz lo))]) (nb := []) H16 11 [] rfl (by kernel_rfl) rfl rfl ?_ ?_
    · refine .cons (.plain rfl (ok_move (.tmp 0 rfl))) ?_
      refine .cons (.plain rfl (ok_move (.tmp 0 rfl))) ?_
      refine .cons (.plain rfl (ok_conv Tryz.underlying5 Tryz.underlying3 (r := n) (.tmp 0 rfl) (w_i64 (by omega)))) ?_
      refine .cons (.plain rfl (ok_callF 2 (con_natshrF V n (by omega)) rfl (.cons (.tmp 0 rfl) (.cons (.tmp 1 rfl) (.nil))))) ?_
      refine .cons (.plain rfl (ok_move (.tmp 0 rfl))) ?_
      refine .cons (.plain rfl (ok_ext30 (.tmp 0 rfl))) ?_
      refine .cons (.plain rfl (ok_ext31 (.tmp 0 rfl))) ?_
      refine .cons (.plain rfl (ok_ext32 (.tmp 0 rfl))) ?_
      refine .cons (.plain rfl (ok_assign (.tmp 0 rfl))) ?_
      refine .cons (.plain rfl (ok_assign (.tmp 0 rfl))) ?_
      refine .cons (.plain rfl (ok_assign (.tmp 0 rfl))) ?_
      exact .nil
    clear H16 a13 w13 B13
    intro a17 w17 B17 H17
    refine ops_done ?_
    refine then_normal ?_
    refine wp_seq ?_
    obtain ⟨g18, hg18, H18⟩ := St.nameF H17 0 rfl (l' := fun g18 => [(11, .val (IsHd g18 (IsC (shrNum V n)))), (916, .val (Sz m16)), (9, .val (IsHd g14 (IsC (shlNum V n)))), (911, .val (Sz m11)), (7, .val (IsHd g9 (IsC (subN V U)))), (905, .val (Sz m5)), (6, .box 43 7 (A7s)), (0, .val (IsM V)), (1, .val (IsM U)), (2, .val (Lit (.int .u8 n))), (67, .val (Sz lo))]) (fun _ => rfl)
    clear H17
    replace H18 : St 67 w0 B0 a17 w17 B17 [(11, .val (IsHd g18 (IsC (shrNum V n)))), (916, .val (Sz m16)), (9, .val (IsHd g14 (IsC (shlNum V n)))), (911, .val (Sz m11)), (7, .val (IsHd g9 (IsC (subN V U)))), (905, .val (Sz m5)), (6, .box 43 7 (A7s)), (0, .val (IsM V)), (1, .val (IsM U)), (2, .val (Lit (.int .u8 n))), (67, .val (Sz lo))] [6] := H18
    have hz19 : m16 ≤ w17.heap.size := H18.fc.get 1 rfl
    obtain ⟨m20, hm20, hw20, hL20, H20⟩ := St.mark H18 920
    clear H18
    clear hL20
    replace hz19 : m16 ≤ m20 := Nat.le_trans hz19 hw20
    replace hg18 : ∀ b, g18 = some b → m16 ≤ b ∧ b < m20 := fun b hb => ⟨(hg18 b hb).1, Nat.lt_of_lt_of_le (hg18 b hb).2 hw20⟩
    clear hw20
    refine flow_region (dsts := [some 47, some 48, some 49, some 50, some 46, some 51, some 52, some 53, some 14, some 15, some 16]) (refs := [[.pre 8], [.pre 10], [.res 1], [.res 0, .res 2, .pre 0], [.res 3], [.res 4], [.res 4], [.res 4], [.res 5], [.res 6], [.res 7]]) (outs := [.res 8, .pre 0, .pre 1, .pre 2, .pre 3, .pre 4, .pre 5, .pre 6, .pre 7, .pre 8, .pre 9, .pre 11]) (als := [false, false, false, false, false, false, false, false, false, false, false]) (posts := [.val (IsM V), .val (Lit (.int .u8 n)), .val (Lit (.int .u32 n)), .val (IsFr3 m20 (IsC (smallN V n)) (.int .u32 (if n = 0 then 0 else V % n)) (.bool (decide (n ≠ 0)))), .val (IsFr3 m20 (IsC (smallN V n)) (.int .u32 (if n = 0 then 0 else V % n)) (.bool (decide (n ≠ 0)))), .val (IsFr m20 (IsC (smallN V n))), .val (Lit (.int .u32 (if n = 0 then 0 else V % n))), .val (Lit (.bool (decide (n ≠ 0)))), .val (IsFr m20 (IsC (smallN V n))), .val (Lit (.int .u32 (if n = 0 then 0 else V % n))), .val (Lit (.bool (decide (n ≠ 0))))])
      (out := [(14, .val (IsFr m20 (IsC (smallN V n)))), (920, .val (Sz m20)), (11, .val (IsHd g18 (IsC (shrNum V n)))), (916, .val (Sz m16)), (9, .val (IsHd g14 (IsC (shlNum V n)))), (911, .val (Sz m11)), (7, .val (IsHd g9 (IsC (subN V U)))), (905, .val (Sz m5)), (6, .box 43 7 (A7s)), (0, .val (IsM V)), (1, .val (IsM U)), (67, .val (Sz lo))]) (nb := []) H20 11 [] rfl (by kernel_rfl) rfl rfl ?_ ?_
    · refine .cons (.plain rfl (ok_move (.tmp 0 rfl))) ?_
      refine .cons (.plain rfl (ok_move (.tmp 0 rfl))) ?_
      refine .cons (.plain rfl (ok_conv Tryz.underlying5 Tryz.underlying44 (r := n) (.tmp 0 rfl) (w_u32 (by omega)))) ?_
      refine .cons (.plain rfl (ok_callF 2 (con_natsmallN V n hn) rfl (.cons (.tmp 0 rfl) (.cons (.tmp 1 rfl) (.nil))))) ?_
      refine .cons (.plain rfl (ok_move (.tmp 0 rfl))) ?_
      refine .cons (.plain rfl (ok_ext30 (.tmp 0 rfl))) ?_
      refine .cons (.plain rfl (ok_ext31 (.tmp 0 rfl))) ?_
      refine .cons (.plain rfl (ok_ext32 (.tmp 0 rfl))) ?_
      refine .cons (.plain rfl (ok_assign (.tmp 0 rfl))) ?_
      refine .cons (.plain rfl (ok_assign (.tmp 0 rfl))) ?_
      refine .cons (.plain rfl (ok_assign (.tmp 0 rfl))) ?_
      exact .nil
    clear H20 a17 w17 B17
    intro a21 w21 B21 H21
    refine ops_done ?_
    refine then_normal ?_
    refine wp_seq ?_
    obtain ⟨g22, hg22, H22⟩ := St.nameF H21 0 rfl (l' := fun g22 => [(14, .val (IsHd g22 (IsC (smallN V n)))), (920, .val (Sz m20)), (11, .val (IsHd g18 (IsC (shrNum V n)))), (916, .val (Sz m16)), (9, .val (IsHd g14 (IsC (shlNum V n)))), (911, .val (Sz m11)), (7, .val (IsHd g9 (IsC (subN V U)))), (905, .val (Sz m5)), (6, .box 43 7 (A7s)), (0, .val (IsM V)), (1, .val (IsM U)), (67, .val (Sz lo))]) (fun _ => rfl)
    clear H21
    replace H22 : St 67 w0 B0 a21 w21 B21 [(14, .val (IsHd g22 (IsC (smallN V n)))), (920, .val (Sz m20)), (11, .val (IsHd g18 (IsC (shrNum V n)))), (916, .val (Sz m16)), (9, .val (IsHd g14 (IsC (shlNum V n)))), (911, .val (Sz m11)), (7, .val (IsHd g9 (IsC (subN V U)))), (905, .val (Sz m5)), (6, .box 43 7 (A7s)), (0, .val (IsM V)), (1, .val (IsM U)), (67, .val (Sz lo))] [6] := H22
    have hz23 : m20 ≤ w21.heap.size := H22.fc.get 1 rfl
    obtain ⟨m24, hm24, hw24, hL24, H24⟩ := St.mark H22 924
    clear H22
    clear hL24
    replace hz23 : m20 ≤ m24 := Nat.le_trans hz23 hw24
    replace hg22 : ∀ b, g22 = some b → m20 ≤ b ∧ b < m24 := fun b hb => ⟨(hg22 b hb).1, Nat.lt_of_lt_of_le (hg22 b hb).2 hw24⟩
    clear hw24
    refine flow_region (dsts := [some 54, some 55]) (refs := [[.pre 10], [.res 0, .pre 0]]) (outs := [.res 1, .pre 0, .pre 1, .pre 2, .pre 3, .pre 4, .pre 5, .pre 6, .pre 7, .pre 8, .pre 9, .pre 10, .pre 11, .pre 12]) (als := [false, false]) (posts := [.val (IsM V), .val (IsFr m24 (IsC V))])
      (out := [(55, .val (IsFr m24 (IsC V))), (924, .val (Sz m24)), (14, .val (IsHd g22 (IsC (smallN V n)))), (920, .val (Sz m20)), (11, .val (IsHd g18 (IsC (shrNum V n)))), (916, .val (Sz m16)), (9, .val (IsHd g14 (IsC (shlNum V n)))), (911, .val (Sz m11)), (7, .val (IsHd g9 (IsC (subN V U)))), (905, .val (Sz m5)), (6, .box 43 7 (A7s)), (0, .val (IsM V)), (1, .val (IsM U)), (67, .val (Sz lo))]) (nb := []) H24 2 [2, 3, 4, 5, 6, 7, 8, 9, 10, 11, 12, 13] rfl (by kernel_rfl) rfl rfl ?_ ?_
    · refine .cons (.plain rfl (ok_move (.tmp 0 rfl))) ?_
      refine .cons (.plain rfl (ok_callF 1 (con_natnormF V) rfl (.cons (.tmp 0 rfl) (.nil)))) ?_
      exact .nil
    clear H24 a21 w21 B21
    intro a25 w25 B25 H25
    obtain ⟨g26, hg26, H26⟩ := St.nameF H25 0 rfl (l' := fun g26 => [(55, .val (IsHd g26 (IsC V))), (924, .val (Sz m24)), (14, .val (IsHd g22 (IsC (smallN V n)))), (920, .val (Sz m20)), (11, .val (IsHd g18 (IsC (shrNum V n)))), (916, .val (Sz m16)), (9, .val (IsHd g14 (IsC (shlNum V n)))), (911, .val (Sz m11)), (7, .val (IsHd g9 (IsC (subN V U)))), (905, .val (Sz m5)), (6, .box 43 7 (A7s)), (0, .val (IsM V)), (1, .val (IsM U)), (67, .val (Sz lo))]) (fun _ => rfl)
    clear H25
    replace H26 : St 67 w0 B0 a25 w25 B25 [(55, .val (IsHd g26 (IsC V))), (924, .val (Sz m24)), (14, .val (IsHd g22 (IsC (smallN V n)))), (920, .val (Sz m20)), (11, .val (IsHd g18 (IsC (shrNum V n)))), (916, .val (Sz m16)), (9, .val (IsHd g14 (IsC (shlNum V n)))), (911, .val (Sz m11)), (7, .val (IsHd g9 (IsC (subN V U)))), (905, .val (Sz m5)), (6, .box 43 7 (A7s)), (0, .val (IsM V)), (1, .val (IsM U)), (67, .val (Sz lo))] [6] := H26
    have hz27 : m24 ≤ w25.heap.size := H26.fc.get 1 rfl
    obtain ⟨m28, hm28, hw28, hL28, H28⟩ := St.mark H26 928
    clear H26
    clear hL28
    replace hz27 : m24 ≤ m28 := Nat.le_trans hz27 hw28
    replace hg26 : ∀ b, g26 = some b → m24 ≤ b ∧ b < m28 := fun b hb => ⟨(hg26 b hb).1, Nat.lt_of_lt_of_le (hg26 b hb).2 hw28⟩
    clear hw28
    refine ops_one ?_
    refine tail_op (D := .val (IsM V)) (l' := [(56, .val (IsM V)), (928, .val (Sz m28)), (55, .val (IsHd g26 (IsC V))), (924, .val (Sz m24)), (14, .val (IsHd g22 (IsC (smallN V n)))), (920, .val (Sz m20)), (11, .val (IsHd g18 (IsC (shrNum V n)))), (916, .val (Sz m16)), (9, .val (IsHd g14 (IsC (shlNum V n)))), (911, .val (Sz m11)), (7, .val (IsHd g9 (IsC (subN V U)))), (905, .val (Sz m5)), (6, .box 43 7 (A7s)), (0, .val (IsM V)), (1, .val (IsM U)), (67, .val (Sz lo))]) H28 rfl rfl rfl (.plain rfl (ok_move (.tmp 12 rfl))) rfl rfl ?_
    clear H28 a25 w25 B25
    intro a29 w29 B29 H29
    refine ops_one ?_
    refine tail_op (D := .val (IsM U)) (l' := [(57, .val (IsM U)), (56, .val (IsM V)), (928, .val (Sz m28)), (55, .val (IsHd g26 (IsC V))), (924, .val (Sz m24)), (14, .val (IsHd g22 (IsC (smallN V n)))), (920, .val (Sz m20)), (11, .val (IsHd g18 (IsC (shrNum V n)))), (916, .val (Sz m16)), (9, .val (IsHd g14 (IsC (shlNum V n)))), (911, .val (Sz m11)), (7, .val (IsHd g9 (IsC (subN V U)))), (905, .val (Sz m5)), (6, .box 43 7 (A7s)), (0, .val (IsM V)), (1, .val (IsM U)), (67, .val (Sz lo))]) H29 rfl rfl rfl (.plain rfl (ok_move (.tmp 14 rfl))) rfl rfl ?_
    clear H29 a29 w29 B29
    intro a30 w30 B30 H30
    refine ops_one ?_
    refine tail_op (D := .val (IsFr m28 (IsC (V + U)))) (l' := [(58, .val (IsFr m28 (IsC (V + U)))), (57, .val (IsM U)), (56, .val (IsM V)), (928, .val (Sz m28)), (55, .val (IsHd g26 (IsC V))), (924, .val (Sz m24)), (14, .val (IsHd g22 (IsC (smallN V n)))), (920, .val (Sz m20)), (11, .val (IsHd g18 (IsC (shrNum V n)))), (916, .val (Sz m16)), (9, .val (IsHd g14 (IsC (shlNum V n)))), (911, .val (Sz m11)), (7, .val (IsHd g9 (IsC (subN V U)))), (905, .val (Sz m5)), (6, .box 43 7 (A7s)), (0, .val (IsM V)), (1, .val (IsM U)), (67, .val (Sz lo))]) H30 rfl rfl rfl (.plain rfl (ok_callF 2 (con_nataddF V U hfa) rfl (.cons (.tmp 1 rfl) (.cons (.tmp 0 rfl) (.nil))))) rfl rfl ?_
    clear H30 a30 w30 B30
    intro a31 w31 B31 H31
    obtain ⟨g32, hg32, H32⟩ := St.nameF H31 0 rfl (l' := fun g32 => [(58, .val (IsHd g32 (IsC (V + U)))), (57, .val (IsM U)), (56, .val (IsM V)), (928, .val (Sz m28)), (55, .val (IsHd g26 (IsC V))), (924, .val (Sz m24)), (14, .val (IsHd g22 (IsC (smallN V n)))), (920, .val (Sz m20)), (11, .val (IsHd g18 (IsC (shrNum V n)))), (916, .val (Sz m16)), (9, .val (IsHd g14 (IsC (shlNum V n)))), (911, .val (Sz m11)), (7, .val (IsHd g9 (IsC (subN V U)))), (905, .val (Sz m5)), (6, .box 43 7 (A7s)), (0, .val (IsM V)), (1, .val (IsM U)), (67, .val (Sz lo))]) (fun _ => rfl)
    clear H31
    replace H32 : St 67 w0 B0 a31 w31 B31 [(58, .val (IsHd g32 (IsC (V + U)))), (57, .val (IsM U)), (56, .val (IsM V)), (928, .val (Sz m28)), (55, .val (IsHd g26 (IsC V))), (924, .val (Sz m24)), (14, .val (IsHd g22 (IsC (smallN V n)))), (920, .val (Sz m20)), (11, .val (IsHd g18 (IsC (shrNum V n)))), (916, .val (Sz m16)), (9, .val (IsHd g14 (IsC (shlNum V n)))), (911, .val (Sz m11)), (7, .val (IsHd g9 (IsC (subN V U)))), (905, .val (Sz m5)), (6, .box 43 7 (A7s)), (0, .val (IsM V)), (1, .val (IsM U)), (67, .val (Sz lo))] [6] := H32
    have hz33 : m28 ≤ w31.heap.size := H32.fc.get 3 rfl
    obtain ⟨m34, hm34, hw34, hL34, H34⟩ := St.mark H32 934
    clear H32
    clear hL34
    replace hz33 : m28 ≤ m34 := Nat.le_trans hz33 hw34
    replace hg32 : ∀ b, g32 = some b → m28 ≤ b ∧ b < m34 := fun b hb => ⟨(hg32 b hb).1, Nat.lt_of_lt_of_le (hg32 b hb).2 hw34⟩
    clear hw34
    refine ops_one ?_
    refine tail_op (D := .val (IsHd g9 (IsC (subN V U)))) (l' := [(59, .val (IsHd g9 (IsC (subN V U)))), (934, .val (Sz m34)), (58, .val (IsHd g32 (IsC (V + U)))), (57, .val (IsM U)), (56, .val (IsM V)), (928, .val (Sz m28)), (55, .val (IsHd g26 (IsC V))), (924, .val (Sz m24)), (14, .val (IsHd g22 (IsC (smallN V n)))), (920, .val (Sz m20)), (11, .val (IsHd g18 (IsC (shrNum V n)))), (916, .val (Sz m16)), (9, .val (IsHd g14 (IsC (shlNum V n)))), (911, .val (Sz m11)), (7, .val (IsHd g9 (IsC (subN V U)))), (905, .val (Sz m5)), (6, .box 43 7 (A7s)), (0, .val (IsM V)), (1, .val (IsM U)), (67, .val (Sz lo))]) H34 rfl rfl rfl (.plain rfl (ok_move (.tmp 13 rfl))) rfl rfl ?_
    clear H34 a31 w31 B31
    intro a35 w35 B35 H35
    refine ops_one ?_
    refine tail_op (D := .val (IsM V)) (l' := [(60, .val (IsM V)), (59, .val (IsHd g9 (IsC (subN V U)))), (934, .val (Sz m34)), (58, .val (IsHd g32 (IsC (V + U)))), (57, .val (IsM U)), (56, .val (IsM V)), (928, .val (Sz m28)), (55, .val (IsHd g26 (IsC V))), (924, .val (Sz m24)), (14, .val (IsHd g22 (IsC (smallN V n)))), (920, .val (Sz m20)), (11, .val (IsHd g18 (IsC (shrNum V n)))), (916, .val (Sz m16)), (9, .val (IsHd g14 (IsC (shlNum V n)))), (911, .val (Sz m11)), (7, .val (IsHd g9 (IsC (subN V U)))), (905, .val (Sz m5)), (6, .box 43 7 (A7s)), (0, .val (IsM V)), (1, .val (IsM U)), (67, .val (Sz lo))]) H35 rfl rfl rfl (.plain rfl (ok_move (.tmp 17 rfl))) rfl rfl ?_
    clear H35 a35 w35 B35
    intro a36 w36 B36 H36
    refine ops_one ?_
    refine tail_op (D := .val (IsM U)) (l' := [(61, .val (IsM U)), (60, .val (IsM V)), (59, .val (IsHd g9 (IsC (subN V U)))), (934, .val (Sz m34)), (58, .val (IsHd g32 (IsC (V + U)))), (57, .val (IsM U)), (56, .val (IsM V)), (928, .val (Sz m28)), (55, .val (IsHd g26 (IsC V))), (924, .val (Sz m24)), (14, .val (IsHd g22 (IsC (smallN V n)))), (920, .val (Sz m20)), (11, .val (IsHd g18 (IsC (shrNum V n)))), (916, .val (Sz m16)), (9, .val (IsHd g14 (IsC (shlNum V n)))), (911, .val (Sz m11)), (7, .val (IsHd g9 (IsC (subN V U)))), (905, .val (Sz m5)), (6, .box 43 7 (A7s)), (0, .val (IsM V)), (1, .val (IsM U)), (67, .val (Sz lo))]) H36 rfl rfl rfl (.plain rfl (ok_move (.tmp 19 rfl))) rfl rfl ?_
    clear H36 a36 w36 B36
    intro a37 w37 B37 H37
    refine ops_one ?_
    refine tail_op (D := .val (IsFr m34 (IsC (V * U)))) (l' := [(62, .val (IsFr m34 (IsC (V * U)))), (61, .val (IsM U)), (60, .val (IsM V)), (59, .val (IsHd g9 (IsC (subN V U)))), (934, .val (Sz m34)), (58, .val (IsHd g32 (IsC (V + U)))), (57, .val (IsM U)), (56, .val (IsM V)), (928, .val (Sz m28)), (55, .val (IsHd g26 (IsC V))), (924, .val (Sz m24)), (14, .val (IsHd g22 (IsC (smallN V n)))), (920, .val (Sz m20)), (11, .val (IsHd g18 (IsC (shrNum V n)))), (916, .val (Sz m16)), (9, .val (IsHd g14 (IsC (shlNum V n)))), (911, .val (Sz m11)), (7, .val (IsHd g9 (IsC (subN V U)))), (905, .val (Sz m5)), (6, .box 43 7 (A7s)), (0, .val (IsM V)), (1, .val (IsM U)), (67, .val (Sz lo))]) H37 rfl rfl rfl (.plain rfl (ok_callF 3 (con_natmulF V U hfm) rfl (.cons (.tmp 1 rfl) (.cons (.tmp 0 rfl) (.nil))))) rfl rfl ?_
    clear H37 a37 w37 B37
    intro a38 w38 B38 H38
    obtain ⟨g39, hg39, H39⟩ := St.nameF H38 0 rfl (l' := fun g39 => [(62, .val (IsHd g39 (IsC (V * U)))), (61, .val (IsM U)), (60, .val (IsM V)), (59, .val (IsHd g9 (IsC (subN V U)))), (934, .val (Sz m34)), (58, .val (IsHd g32 (IsC (V + U)))), (57, .val (IsM U)), (56, .val (IsM V)), (928, .val (Sz m28)), (55, .val (IsHd g26 (IsC V))), (924, .val (Sz m24)), (14, .val (IsHd g22 (IsC (smallN V n)))), (920, .val (Sz m20)), (11, .val (IsHd g18 (IsC (shrNum V n)))), (916, .val (Sz m16)), (9, .val (IsHd g14 (IsC (shlNum V n)))), (911, .val (Sz m11)), (7, .val (IsHd g9 (IsC (subN V U)))), (905, .val (Sz m5)), (6, .box 43 7 (A7s)), (0, .val (IsM V)), (1, .val (IsM U)), (67, .val (Sz lo))]) (fun _ => rfl)
    clear H38
    replace H39 : St 67 w0 B0 a38 w38 B38 [(62, .val (IsHd g39 (IsC (V * U)))), (61, .val (IsM U)), (60, .val (IsM V)), (59, .val (IsHd g9 (IsC (subN V U)))), (934, .val (Sz m34)), (58, .val (IsHd g32 (IsC (V + U)))), (57, .val (IsM U)), (56, .val (IsM V)), (928, .val (Sz m28)), (55, .val (IsHd g26 (IsC V))), (924, .val (Sz m24)), (14, .val (IsHd g22 (IsC (smallN V n)))), (920, .val (Sz m20)), (11, .val (IsHd g18 (IsC (shrNum V n)))), (916, .val (Sz m16)), (9, .val (IsHd g14 (IsC (shlNum V n)))), (911, .val (Sz m11)), (7, .val (IsHd g9 (IsC (subN V U)))), (905, .val (Sz m5)), (6, .box 43 7 (A7s)), (0, .val (IsM V)), (1, .val (IsM U)), (67, .val (Sz lo))] [6] := H39
    have hz40 : m34 ≤ w38.heap.size := H39.fc.get 4 rfl
    obtain ⟨m41, hm41, hw41, hL41, H41⟩ := St.mark H39 941
    clear H39
    clear hL41
    replace hz40 : m34 ≤ m41 := Nat.le_trans hz40 hw41
    replace hg39 : ∀ b, g39 = some b → m34 ≤ b ∧ b < m41 := fun b hb => ⟨(hg39 b hb).1, Nat.lt_of_lt_of_le (hg39 b hb).2 hw41⟩
    clear hw41
    refine ops_one ?_
    refine tail_op (D := .val (IsHd g14 (IsC (shlNum V n)))) (l' := [(63, .val (IsHd g14 (IsC (shlNum V n)))), (941, .val (Sz m41)), (62, .val (IsHd g39 (IsC (V * U)))), (61, .val (IsM U)), (60, .val (IsM V)), (59, .val (IsHd g9 (IsC (subN V U)))), (934, .val (Sz m34)), (58, .val (IsHd g32 (IsC (V + U)))), (57, .val (IsM U)), (56, .val (IsM V)), (928, .val (Sz m28)), (55, .val (IsHd g26 (IsC V))), (924, .val (Sz m24)), (14, .val (IsHd g22 (IsC (smallN V n)))), (920, .val (Sz m20)), (11, .val (IsHd g18 (IsC (shrNum V n)))), (916, .val (Sz m16)), (9, .val (IsHd g14 (IsC (shlNum V n)))), (911, .val (Sz m11)), (7, .val (IsHd g9 (IsC (subN V U)))), (905, .val (Sz m5)), (6, .box 43 7 (A7s)), (0, .val (IsM V)), (1, .val (IsM U)), (67, .val (Sz lo))]) H41 rfl rfl rfl (.plain rfl (ok_move (.tmp 16 rfl))) rfl rfl ?_
    clear H41 a38 w38 B38
    intro a42 w42 B42 H42
    refine ops_one ?_
    refine tail_op (D := .val (IsHd g18 (IsC (shrNum V n)))) (l' := [(64, .val (IsHd g18 (IsC (shrNum V n)))), (63, .val (IsHd g14 (IsC (shlNum V n)))), (941, .val (Sz m41)), (62, .val (IsHd g39 (IsC (V * U)))), (61, .val (IsM U)), (60, .val (IsM V)), (59, .val (IsHd g9 (IsC (subN V U)))), (934, .val (Sz m34)), (58, .val (IsHd g32 (IsC (V + U)))), (57, .val (IsM U)), (56, .val (IsM V)), (928, .val (Sz m28)), (55, .val (IsHd g26 (IsC V))), (924, .val (Sz m24)), (14, .val (IsHd g22 (IsC (smallN V n)))), (920, .val (Sz m20)), (11, .val (IsHd g18 (IsC (shrNum V n)))), (916, .val (Sz m16)), (9, .val (IsHd g14 (IsC (shlNum V n)))), (911, .val (Sz m11)), (7, .val (IsHd g9 (IsC (subN V U)))), (905, .val (Sz m5)), (6, .box 43 7 (A7s)), (0, .val (IsM V)), (1, .val (IsM U)), (67, .val (Sz lo))]) H42 rfl rfl rfl (.plain rfl (ok_move (.tmp 15 rfl))) rfl rfl ?_
    clear H42 a42 w42 B42
    intro a43 w43 B43 H43
    refine ops_one ?_
    refine tail_op (D := .val (IsHd g22 (IsC (smallN V n)))) (l' := [(65, .val (IsHd g22 (IsC (smallN V n)))), (64, .val (IsHd g18 (IsC (shrNum V n)))), (63, .val (IsHd g14 (IsC (shlNum V n)))), (941, .val (Sz m41)), (62, .val (IsHd g39 (IsC (V * U)))), (61, .val (IsM U)), (60, .val (IsM V)), (59, .val (IsHd g9 (IsC (subN V U)))), (934, .val (Sz m34)), (58, .val (IsHd g32 (IsC (V + U)))), (57, .val (IsM U)), (56, .val (IsM V)), (928, .val (Sz m28)), (55, .val (IsHd g26 (IsC V))), (924, .val (Sz m24)), (14, .val (IsHd g22 (IsC (smallN V n)))), (920, .val (Sz m20)), (11, .val (IsHd g18 (IsC (shrNum V n)))), (916, .val (Sz m16)), (9, .val (IsHd g14 (IsC (shlNum V n)))), (911, .val (Sz m11)), (7, .val (IsHd g9 (IsC (subN V U)))), (905, .val (Sz m5)), (6, .box 43 7 (A7s)), (0, .val (IsM V)), (1, .val (IsM U)), (67, .val (Sz lo))]) H43 rfl rfl rfl (.plain rfl (ok_move (.tmp 14 rfl))) rfl rfl ?_
    clear H43 a43 w43 B43
    intro a44 w44 B44 H44
    refine ops_one ?_
    refine tail_op (D := .val (A7 ([g26, g32, g9, g39, g14, g18, g22]) ([V, V + U, subN V U, V * U, shlNum V n, shrNum V n, smallN V n]))) (l' := [(66, .val (A7 ([g26, g32, g9, g39, g14, g18, g22]) ([V, V + U, subN V U, V * U, shlNum V n, shrNum V n, smallN V n]))), (65, .val (IsHd g22 (IsC (smallN V n)))), (64, .val (IsHd g18 (IsC (shrNum V n)))), (63, .val (IsHd g14 (IsC (shlNum V n)))), (941, .val (Sz m41)), (62, .val (IsHd g39 (IsC (V * U)))), (61, .val (IsM U)), (60, .val (IsM V)), (59, .val (IsHd g9 (IsC (subN V U)))), (934, .val (Sz m34)), (58, .val (IsHd g32 (IsC (V + U)))), (57, .val (IsM U)), (56, .val (IsM V)), (928, .val (Sz m28)), (55, .val (IsHd g26 (IsC V))), (924, .val (Sz m24)), (14, .val (IsHd g22 (IsC (smallN V n)))), (920, .val (Sz m20)), (11, .val (IsHd g18 (IsC (shrNum V n)))), (916, .val (Sz m16)), (9, .val (IsHd g14 (IsC (shlNum V n)))), (911, .val (Sz m11)), (7, .val (IsHd g9 (IsC (subN V U)))), (905, .val (Sz m5)), (6, .box 43 7 (A7s)), (0, .val (IsM V)), (1, .val (IsM U)), (67, .val (Sz lo))]) H44 rfl rfl rfl (.plain rfl (ok_build7 (.tmp 13 rfl) (.tmp 9 rfl) (.tmp 7 rfl) (.tmp 4 rfl) (.tmp 2 rfl) (.tmp 1 rfl) (.tmp 0 rfl))) rfl rfl ?_
    clear H44 a44 w44 B44
    intro a45 w45 B45 H45
    refine ops_one ?_
    refine store_op (l' := [(66, .val (A7 ([g26, g32, g9, g39, g14, g18, g22]) ([V, V + U, subN V U, V * U, shlNum V n, shrNum V n, smallN V n]))), (65, .val (IsHd g22 (IsC (smallN V n)))), (64, .val (IsHd g18 (IsC (shrNum V n)))), (63, .val (IsHd g14 (IsC (shlNum V n)))), (941, .val (Sz m41)), (62, .val (IsHd g39 (IsC (V * U)))), (61, .val (IsM U)), (60, .val (IsM V)), (59, .val (IsHd g9 (IsC (subN V U)))), (934, .val (Sz m34)), (58, .val (IsHd g32 (IsC (V + U)))), (57, .val (IsM U)), (56, .val (IsM V)), (928, .val (Sz m28)), (55, .val (IsHd g26 (IsC V))), (924, .val (Sz m24)), (14, .val (IsHd g22 (IsC (smallN V n)))), (920, .val (Sz m20)), (11, .val (IsHd g18 (IsC (shrNum V n)))), (916, .val (Sz m16)), (9, .val (IsHd g14 (IsC (shlNum V n)))), (911, .val (Sz m11)), (7, .val (IsHd g9 (IsC (subN V U)))), (905, .val (Sz m5)), (6, .box 43 7 (A7 ([g26, g32, g9, g39, g14, g18, g22]) ([V, V + U, subN V U, V * U, shlNum V n, shrNum V n, smallN V n]))), (0, .val (IsM V)), (1, .val (IsM U)), (67, .val (Sz lo))]) 24 H45 rfl tyA7 rfl (.tmp 0 rfl) shape_7s shape_7 rfl rfl ?_
    clear H45 w45
    intro w46 H46
    refine ops_done ?_
    refine then_normal ?_
    refine wp_ret ?_
    have hlo : ∀ j b, List.getD [g26, g32, g9, g39, g14, g18, g22] j none = some b → lo ≤ b := by
      intro j b hb
      rcases j with _ | _ | _ | _ | _ | _ | _ | j
      · have := hg26 b hb; omega
      · have := hg32 b hb; omega
      · have := hg9 b hb; omega
      · have := hg39 b hb; omega
      · have := hg14 b hb; omega
      · have := hg18 b hb; omega
      · have := hg22 b hb; omega
      · cases hb
    have hap : ∀ i j b, i < 7 → j < 7 → i ≠ j → List.getD [g26, g32, g9, g39, g14, g18, g22] i none = some b → List.getD [g26, g32, g9, g39, g14, g18, g22] j none ≠ some b := by
      intro i j b hi hj hij h1 h2
      have k1 : ∀ i, i < 7 → List.getD [g26, g32, g9, g39, g14, g18, g22] i none = some b → ((i = 0 ∧ m24 ≤ b ∧ b < m28) ∨ (i = 1 ∧ m28 ≤ b ∧ b < m34) ∨ (i = 2 ∧ m5 ≤ b ∧ b < m11) ∨ (i = 3 ∧ m34 ≤ b ∧ b < m41) ∨ (i = 4 ∧ m11 ≤ b ∧ b < m16) ∨ (i = 5 ∧ m16 ≤ b ∧ b < m20) ∨ (i = 6 ∧ m20 ≤ b ∧ b < m24)) := by
        intro i hi h1
        rcases i with _ | _ | _ | _ | _ | _ | _ | i
        · have := hg26 b h1; omega
        · have := hg32 b h1; omega
        · have := hg9 b h1; omega
        · have := hg39 b h1; omega
        · have := hg14 b h1; omega
        · have := hg18 b h1; omega
        · have := hg22 b h1; omega
        · omega
      have k2 := k1 i hi h1
      have k3 := k1 j hj h2
      omega
    exact f_retC H46 tyA7 rfl 24 rfl (a7v_of rfl hlo hap)
  · intro hc7
    have hle : U ≤ V := by simpa using hc7
    have hsA : (if U ≤ V then V - U else 0) = subN V U := by unfold subN; rw [if_pos hle, if_pos hle]
    refine wp_skip ?_
    refine then_normal ?_
    refine wp_seq ?_
    have H47 := St.setw H6 2 (D' := IsHd g3 (IsC (subN V U))) rfl (fun v h => hsA ▸ h) (l' := [(24, .val (IsB (!(decide (U ≤ V))))), (905, .val (Sz m5)), (7, .val (IsHd g3 (IsC (subN V U)))), (6, .box 43 7 (A7s)), (0, .val (IsM V)), (1, .val (IsM U)), (2, .val (Lit (.int .u8 n))), (67, .val (Sz lo))]) rfl
    clear H6
    refine flow_region (dsts := [some 32, some 33, some 34, some 35, some 31, some 36, some 37, some 9, some 10]) (refs := [[.pre 4], [.pre 6], [.res 1], [.res 0, .res 2, .pre 1], [.res 3], [.res 4], [.res 4], [.res 5], [.res 6]]) (outs := [.res 7, .pre 1, .pre 2, .pre 3, .pre 4, .pre 5, .pre 6, .pre 7]) (als := [false, false, false, false, false, false, false, false, false]) (posts := [.val (IsM V), .val (Lit (.int .u8 n)), .val (Lit (.int .i64 n)), .val (IsFrB m5 (IsC (shlNum V n)) (shlOk V n)), .val (IsFrB m5 (IsC (shlNum V n)) (shlOk V n)), .val (IsFr m5 (IsC (shlNum V n))), .val (IsB (shlOk V n)), .val (IsFr m5 (IsC (shlNum V n))), .val (IsB (shlOk V n))])
      (out := [(9, .val (IsFr m5 (IsC (shlNum V n)))), (905, .val (Sz m5)), (7, .val (IsHd g3 (IsC (subN V U)))), (6, .box 43 7 (A7s)), (0, .val (IsM V)), (1, .val (IsM U)), (2, .val (Lit (.int .u8 n))), (67, .val (Sz lo))]) (nb := []) H47 9 [] rfl (by kernel_rfl) rfl rfl ?_ ?_
    · refine .cons (.plain rfl (ok_move (.tmp 0 rfl))) ?_
      refine .cons (.plain rfl (ok_move (.tmp 0 rfl))) ?_
      refine .cons (.plain rfl (ok_conv Tryz.underlying5 Tryz.underlying3 (r := n) (.tmp 0 rfl) (w_i64 (by omega)))) ?_
      refine .cons (.plain rfl (ok_callF 2 (con_natshlF V n (by omega) hsl.1 hsl.2) rfl (.cons (.tmp 0 rfl) (.cons (.tmp 1 rfl) (.nil))))) ?_
      refine .cons (.plain rfl (ok_move (.tmp 0 rfl))) ?_
      refine .cons (.plain rfl (ok_extFB0 (.tmp 0 rfl))) ?_
      refine .cons (.plain rfl (ok_extFB1 (.tmp 0 rfl))) ?_
      refine .cons (.plain rfl (ok_assign (.tmp 0 rfl))) ?_
      refine .cons (.plain rfl (ok_assign (.tmp 0 rfl))) ?_
      exact .nil
    clear H47 a6 w6 B6
    intro a48 w48 B48 H48
    refine ops_done ?_
    refine then_normal ?_
    refine wp_seq ?_
    obtain ⟨g49, hg49, H49⟩ := St.nameF H48 0 rfl (l' := fun g49 => [(9, .val (IsHd g49 (IsC (shlNum V n)))), (905, .val (Sz m5)), (7, .val (IsHd g3 (IsC (subN V U)))), (6, .box 43 7 (A7s)), (0, .val (IsM V)), (1, .val (IsM U)), (2, .val (Lit (.int .u8 n))), (67, .val (Sz lo))]) (fun _ => rfl)
    clear H48
    replace H49 : St 67 w0 B0 a48 w48 B48 [(9, .val (IsHd g49 (IsC (shlNum V n)))), (905, .val (Sz m5)), (7, .val (IsHd g3 (IsC (subN V U)))), (6, .box 43 7 (A7s)), (0, .val (IsM V)), (1, .val (IsM U)), (2, .val (Lit (.int .u8 n))), (67, .val (Sz lo))] [6] := H49
    have hz50 : m5 ≤ w48.heap.size := H49.fc.get 1 rfl
    obtain ⟨m51, hm51, hw51, hL51, H51⟩ := St.mark H49 951
    clear H49
    clear hL51
    replace hz50 : m5 ≤ m51 := Nat.le_trans hz50 hw51
    replace hg49 : ∀ b, g49 = some b → m5 ≤ b ∧ b < m51 := fun b hb => ⟨(hg49 b hb).1, Nat.lt_of_lt_of_le (hg49 b hb).2 hw51⟩
    clear hw51
    refine flow_region (dsts := [some 39, some 40, some 41, some 42, some 38, some 43, some 44, some 45, some 11, some 12, some 13]) (refs := [[.pre 5], [.pre 7], [.res 1], [.res 0, .res 2, .pre 0], [.res 3], [.res 4], [.res 4], [.res 4], [.res 5], [.res 6], [.res 7]]) (outs := [.res 8, .pre 0, .pre 1, .pre 2, .pre 3, .pre 4, .pre 5, .pre 6, .pre 7, .pre 8]) (als := [false, false, false, false, false, false, false, false, false, false, false]) (posts := [.val (IsM V), .val (Lit (.int .u8 n)), .val (Lit (.int .i64 n)), .val (IsFr3 m51 (IsC (shrNum V n)) (.bool (shrMore V n)) (.bool (decide (0 ≤ n)))), .val (IsFr3 m51 (IsC (shrNum V n)) (.bool (shrMore V n)) (.bool (decide (0 ≤ n)))), .val (IsFr m51 (IsC (shrNum V n))), .val (Lit (.bool (shrMore V n))), .val (Lit (.bool (decide (0 ≤ n)))), .val (IsFr m51 (IsC (shrNum V n))), .val (Lit (.bool (shrMore V n))), .val (Lit (.bool (decide (0 ≤ n))))])
      (out := [(11, .val (IsFr m51 (IsC (shrNum V n)))), (951, .val (Sz m51)), (9, .val (IsHd g49 (IsC (shlNum V n)))), (905, .val (Sz m5)), (7, .val (IsHd g3 (IsC (subN V U)))), (6, .box 43 7 (A7s)), (0, .val (IsM V)), (1, .val (IsM U)), (2, .val (Lit (.int .u8 n))), (67, .val (Sz lo))]) (nb := []) H51 11 [] rfl (by kernel_rfl) rfl rfl ?_ ?_
    · refine .cons (.plain rfl (ok_move (.tmp 0 rfl))) ?_
      refine .cons (.plain rfl (ok_move (.tmp 0 rfl))) ?_
      refine .cons (.plain rfl (ok_conv Tryz.underlying5 Tryz.underlying3 (r := n) (.tmp 0 rfl) (w_i64 (by omega)))) ?_
      refine .cons (.plain rfl (ok_callF 2 (con_natshrF V n (by omega)) rfl (.cons (.tmp 0 rfl) (.cons (.tmp 1 rfl) (.nil))))) ?_
      refine .cons (.plain rfl (ok_move (.tmp 0 rfl))) ?_
      refine .cons (.plain rfl (ok_ext30 (.tmp 0 rfl))) ?_
      refine .cons (.plain rfl (ok_ext31 (.tmp 0 rfl))) ?_
      refine .cons (.plain rfl (ok_ext32 (.tmp 0 rfl))) ?_
      refine .cons (.plain rfl (ok_assign (.tmp 0 rfl))) ?_
      refine .cons (.plain rfl (ok_assign (.tmp 0 rfl))) ?_
      refine .cons (.plain rfl (ok_assign (.tmp 0 rfl))) ?_
      exact .nil
    clear H51 a48 w48 B48
    intro a52 w52 B52 H52
    refine ops_done ?_
    refine then_normal ?_
    refine wp_seq ?_
    obtain ⟨g53, hg53, H53⟩ := St.nameF H52 0 rfl (l' := fun g53 => [(11, .val (IsHd g53 (IsC (shrNum V n)))), (951, .val (Sz m51)), (9, .val (IsHd g49 (IsC (shlNum V n)))), (905, .val (Sz m5)), (7, .val (IsHd g3 (IsC (subN V U)))), (6, .box 43 7 (A7s)), (0, .val (IsM V)), (1, .val (IsM U)), (2, .val (Lit (.int .u8 n))), (67, .val (Sz lo))]) (fun _ => rfl)
    clear H52
    replace H53 : St 67 w0 B0 a52 w52 B52 [(11, .val (IsHd g53 (IsC (shrNum V n)))), (951, .val (Sz m51)), (9, .val (IsHd g49 (IsC (shlNum V n)))), (905, .val (Sz m5)), (7, .val (IsHd g3 (IsC (subN V U)))), (6, .box 43 7 (A7s)), (0, .val (IsM V)), (1, .val (IsM U)), (2, .val (Lit (.int .u8 n))), (67, .val (Sz lo))] [6] := H53
    have hz54 : m51 ≤ w52.heap.size := H53.fc.get 1 rfl
    obtain ⟨m55, hm55, hw55, hL55, H55⟩ := St.mark H53 955
    clear H53
    clear hL55
    replace hz54 : m51 ≤ m55 := Nat.le_trans hz54 hw55
    replace hg53 : ∀ b, g53 = some b → m51 ≤ b ∧ b < m55 := fun b hb => ⟨(hg53 b hb).1, Nat.lt_of_lt_of_le (hg53 b hb).2 hw55⟩
    clear hw55
    refine flow_region (dsts := [some 47, some 48, some 49, some 50, some 46, some 51, some 52, some 53, some 14, some 15, some 16]) (refs := [[.pre 7], [.pre 9], [.res 1], [.res 0, .res 2, .pre 0], [.res 3], [.res 4], [.res 4], [.res 4], [.res 5], [.res 6], [.res 7]]) (outs := [.res 8, .pre 0, .pre 1, .pre 2, .pre 3, .pre 4, .pre 5, .pre 6, .pre 7, .pre 8, .pre 10]) (als := [false, false, false, false, false, false, false, false, false, false, false]) (posts := [.val (IsM V), .val (Lit (.int .u8 n)), .val (Lit (.int .u32 n)), .val (IsFr3 m55 (IsC (smallN V n)) (.int .u32 (if n = 0 then 0 else V % n)) (.bool (decide (n ≠ 0)))), .val (IsFr3 m55 (IsC (smallN V n)) (.int .u32 (if n = 0 then 0 else V % n)) (.bool (decide (n ≠ 0)))), .val (IsFr m55 (IsC (smallN V n))), .val (Lit (.int .u32 (if n = 0 then 0 else V % n))), .val (Lit (.bool (decide (n ≠ 0)))), .val (IsFr m55 (IsC (smallN V n))), .val (Lit (.int .u32 (if n = 0 then 0 else V % n))), .val (Lit (.bool (decide (n ≠ 0))))])
      (out := [(14, .val (IsFr m55 (IsC (smallN V n)))), (955, .val (Sz m55)), (11, .val (IsHd g53 (IsC (shrNum V n)))), (951, .val (Sz m51)), (9, .val (IsHd g49 (IsC (shlNum V n)))), (905, .val (Sz m5)), (7, .val (IsHd g3 (IsC (subN V U)))), (6, .box 43 7 (A7s)), (0, .val (IsM V)), (1, .val (IsM U)), (67, .val (Sz lo))]) (nb := []) H55 11 [] rfl (by kernel_rfl) rfl rfl ?_ ?_
    · refine .cons (.plain rfl (ok_move (.tmp 0 rfl))) ?_
      refine .cons (.plain rfl (ok_move (.tmp 0 rfl))) ?_
      refine .cons (.plain rfl (ok_conv Tryz.underlying5 Tryz.underlying44 (r := n) (.tmp 0 rfl) (w_u32 (by omega)))) ?_
      refine .cons (.plain rfl (ok_callF 2 (con_natsmallN V n hn) rfl (.cons (.tmp 0 rfl) (.cons (.tmp 1 rfl) (.nil))))) ?_
      refine .cons (.plain rfl (ok_move (.tmp 0 rfl))) ?_
      refine .cons (.plain rfl (ok_ext30 (.tmp 0 rfl))) ?_
      refine .cons (.plain rfl (ok_ext31 (.tmp 0 rfl))) ?_
      refine .cons (.plain rfl (ok_ext32 (.tmp 0 rfl))) ?_
      refine .cons (.plain rfl (ok_assign (.tmp 0 rfl))) ?_
      refine .cons (.plain rfl (ok_assign (.tmp 0 rfl))) ?_
      refine .cons (.plain rfl (ok_assign (.tmp 0 rfl))) ?_
      exact .nil
    clear H55 a52 w52 B52
    intro a56 w56 B56 H56
    refine ops_done ?_
    refine then_normal ?_
    refine wp_seq ?_
    obtain ⟨g57, hg57, H57⟩ := St.nameF H56 0 rfl (l' := fun g57 => [(14, .val (IsHd g57 (IsC (smallN V n)))), (955, .val (Sz m55)), (11, .val (IsHd g53 (IsC (shrNum V n)))), (951, .val (Sz m51)), (9, .val (IsHd g49 (IsC (shlNum V n)))), (905, .val (Sz m5)), (7, .val (IsHd g3 (IsC (subN V U)))), (6, .box 43 7 (A7s)), (0, .val (IsM V)), (1, .val (IsM U)), (67, .val (Sz lo))]) (fun _ => rfl)
    clear H56
    replace H57 : St 67 w0 B0 a56 w56 B56 [(14, .val (IsHd g57 (IsC (smallN V n)))), (955, .val (Sz m55)), (11, .val (IsHd g53 (IsC (shrNum V n)))), (951, .val (Sz m51)), (9, .val (IsHd g49 (IsC (shlNum V n)))), (905, .val (Sz m5)), (7, .val (IsHd g3 (IsC (subN V U)))), (6, .box 43 7 (A7s)), (0, .val (IsM V)), (1, .val (IsM U)), (67, .val (Sz lo))] [6] := H57
    have hz58 : m55 ≤ w56.heap.size := H57.fc.get 1 rfl
    obtain ⟨m59, hm59, hw59, hL59, H59⟩ := St.mark H57 959
    clear H57
    clear hL59
    replace hz58 : m55 ≤ m59 := Nat.le_trans hz58 hw59
    replace hg57 : ∀ b, g57 = some b → m55 ≤ b ∧ b < m59 := fun b hb => ⟨(hg57 b hb).1, Nat.lt_of_lt_of_le (hg57 b hb).2 hw59⟩
    clear hw59
    refine flow_region (dsts := [some 54, some 55]) (refs := [[.pre 9], [.res 0, .pre 0]]) (outs := [.res 1, .pre 0, .pre 1, .pre 2, .pre 3, .pre 4, .pre 5, .pre 6, .pre 7, .pre 8, .pre 9, .pre 10, .pre 11]) (als := [false, false]) (posts := [.val (IsM V), .val (IsFr m59 (IsC V))])
      (out := [(55, .val (IsFr m59 (IsC V))), (959, .val (Sz m59)), (14, .val (IsHd g57 (IsC (smallN V n)))), (955, .val (Sz m55)), (11, .val (IsHd g53 (IsC (shrNum V n)))), (951, .val (Sz m51)), (9, .val (IsHd g49 (IsC (shlNum V n)))), (905, .val (Sz m5)), (7, .val (IsHd g3 (IsC (subN V U)))), (6, .box 43 7 (A7s)), (0, .val (IsM V)), (1, .val (IsM U)), (67, .val (Sz lo))]) (nb := []) H59 2 [2, 3, 4, 5, 6, 7, 8, 9, 10, 11, 12, 13] rfl (by kernel_rfl) rfl rfl ?_ ?_
    · refine .cons (.plain rfl (ok_move (.tmp 0 rfl))) ?_
      refine .cons (.plain rfl (ok_callF 1 (con_natnormF V) rfl (.cons (.tmp 0 rfl) (.nil)))) ?_
      exact .nil
    clear H59 a56 w56 B56
    intro a60 w60 B60 H60
    obtain ⟨g61, hg61, H61⟩ := St.nameF H60 0 rfl (l' := fun g61 => [(55, .val (IsHd g61 (IsC V))), (959, .val (Sz m59)), (14, .val (IsHd g57 (IsC (smallN V n)))), (955, .val (Sz m55)), (11, .val (IsHd g53 (IsC (shrNum V n)))), (951, .val (Sz m51)), (9, .val (IsHd g49 (IsC (shlNum V n)))), (905, .val (Sz m5)), (7, .val (IsHd g3 (IsC (subN V U)))), (6, .box 43 7 (A7s)), (0, .val (IsM V)), (1, .val (IsM U)), (67, .val (Sz lo))]) (fun _ => rfl)
    clear H60
    replace H61 : St 67 w0 B0 a60 w60 B60 [(55, .val (IsHd g61 (IsC V))), (959, .val (Sz m59)), (14, .val (IsHd g57 (IsC (smallN V n)))), (955, .val (Sz m55)), (11, .val (IsHd g53 (IsC (shrNum V n)))), (951, .val (Sz m51)), (9, .val (IsHd g49 (IsC (shlNum V n)))), (905, .val (Sz m5)), (7, .val (IsHd g3 (IsC (subN V U)))), (6, .box 43 7 (A7s)), (0, .val (IsM V)), (1, .val (IsM U)), (67, .val (Sz lo))] [6] := H61
    have hz62 : m59 ≤ w60.heap.size := H61.fc.get 1 rfl
    obtain ⟨m63, hm63, hw63, hL63, H63⟩ := St.mark H61 963
    clear H61
    clear hL63
    replace hz62 : m59 ≤ m63 := Nat.le_trans hz62 hw63
    replace hg61 : ∀ b, g61 = some b → m59 ≤ b ∧ b < m63 := fun b hb => ⟨(hg61 b hb).1, Nat.lt_of_lt_of_le (hg61 b hb).2 hw63⟩
    clear hw63
    refine ops_one ?_
    refine tail_op (D := .val (IsM V)) (l' := [(56, .val (IsM V)), (963, .val (Sz m63)), (55, .val (IsHd g61 (IsC V))), (959, .val (Sz m59)), (14, .val (IsHd g57 (IsC (smallN V n)))), (955, .val (Sz m55)), (11, .val (IsHd g53 (IsC (shrNum V n)))), (951, .val (Sz m51)), (9, .val (IsHd g49 (IsC (shlNum V n)))), (905, .val (Sz m5)), (7, .val (IsHd g3 (IsC (subN V U)))), (6, .box 43 7 (A7s)), (0, .val (IsM V)), (1, .val (IsM U)), (67, .val (Sz lo))]) H63 rfl rfl rfl (.plain rfl (ok_move (.tmp 11 rfl))) rfl rfl ?_
    clear H63 a60 w60 B60
    intro a64 w64 B64 H64
    refine ops_one ?_
    refine tail_op (D := .val (IsM U)) (l' := [(57, .val (IsM U)), (56, .val (IsM V)), (963, .val (Sz m63)), (55, .val (IsHd g61 (IsC V))), (959, .val (Sz m59)), (14, .val (IsHd g57 (IsC (smallN V n)))), (955, .val (Sz m55)), (11, .val (IsHd g53 (IsC (shrNum V n)))), (951, .val (Sz m51)), (9, .val (IsHd g49 (IsC (shlNum V n)))), (905, .val (Sz m5)), (7, .val (IsHd g3 (IsC (subN V U)))), (6, .box 43 7 (A7s)), (0, .val (IsM V)), (1, .val (IsM U)), (67, .val (Sz lo))]) H64 rfl rfl rfl (.plain rfl (ok_move (.tmp 13 rfl))) rfl rfl ?_
    clear H64 a64 w64 B64
    intro a65 w65 B65 H65
    refine ops_one ?_
    refine tail_op (D := .val (IsFr m63 (IsC (V + U)))) (l' := [(58, .val (IsFr m63 (IsC (V + U)))), (57, .val (IsM U)), (56, .val (IsM V)), (963, .val (Sz m63)), (55, .val (IsHd g61 (IsC V))), (959, .val (Sz m59)), (14, .val (IsHd g57 (IsC (smallN V n)))), (955, .val (Sz m55)), (11, .val (IsHd g53 (IsC (shrNum V n)))), (951, .val (Sz m51)), (9, .val (IsHd g49 (IsC (shlNum V n)))), (905, .val (Sz m5)), (7, .val (IsHd g3 (IsC (subN V U)))), (6, .box 43 7 (A7s)), (0, .val (IsM V)), (1, .val (IsM U)), (67, .val (Sz lo))]) H65 rfl rfl rfl (.plain rfl (ok_callF 2 (con_nataddF V U hfa) rfl (.cons (.tmp 1 rfl) (.cons (.tmp 0 rfl) (.nil))))) rfl rfl ?_
    clear H65 a65 w65 B65
    intro a66 w66 B66 H66
    obtain ⟨g67, hg67, H67⟩ := St.nameF H66 0 rfl (l' := fun g67 => [(58, .val (IsHd g67 (IsC (V + U)))), (57, .val (IsM U)), (56, .val (IsM V)), (963, .val (Sz m63)), (55, .val (IsHd g61 (IsC V))), (959, .val (Sz m59)), (14, .val (IsHd g57 (IsC (smallN V n)))), (955, .val (Sz m55)), (11, .val (IsHd g53 (IsC (shrNum V n)))), (951, .val (Sz m51)), (9, .val (IsHd g49 (IsC (shlNum V n)))), (905, .val (Sz m5)), (7, .val (IsHd g3 (IsC (subN V U)))), (6, .box 43 7 (A7s)), (0, .val (IsM V)), (1, .val (IsM U)), (67, .val (Sz lo))]) (fun _ => rfl)
    clear H66
    replace H67 : St 67 w0 B0 a66 w66 B66 [(58, .val (IsHd g67 (IsC (V + U)))), (57, .val (IsM U)), (56, .val (IsM V)), (963, .val (Sz m63)), (55, .val (IsHd g61 (IsC V))), (959, .val (Sz m59)), (14, .val (IsHd g57 (IsC (smallN V n)))), (955, .val (Sz m55)), (11, .val (IsHd g53 (IsC (shrNum V n)))), (951, .val (Sz m51)), (9, .val (IsHd g49 (IsC (shlNum V n)))), (905, .val (Sz m5)), (7, .val (IsHd g3 (IsC (subN V U)))), (6, .box 43 7 (A7s)), (0, .val (IsM V)), (1, .val (IsM U)), (67, .val (Sz lo))] [6] := H67
    have hz68 : m63 ≤ w66.heap.size := H67.fc.get 3 rfl
    obtain ⟨m69, hm69, hw69, hL69, H69⟩ := St.mark H67 969
    clear H67
    clear hL69
    replace hz68 : m63 ≤ m69 := Nat.le_trans hz68 hw69
    replace hg67 : ∀ b, g67 = some b → m63 ≤ b ∧ b < m69 := fun b hb => ⟨(hg67 b hb).1, Nat.lt_of_lt_of_le (hg67 b hb).2 hw69⟩
    clear hw69
    refine ops_one ?_
    refine tail_op (D := .val (IsHd g3 (IsC (subN V U)))) (l' := [(59, .val (IsHd g3 (IsC (subN V U)))), (969, .val (Sz m69)), (58, .val (IsHd g67 (IsC (V + U)))), (57, .val (IsM U)), (56, .val (IsM V)), (963, .val (Sz m63)), (55, .val (IsHd g61 (IsC V))), (959, .val (Sz m59)), (14, .val (IsHd g57 (IsC (smallN V n)))), (955, .val (Sz m55)), (11, .val (IsHd g53 (IsC (shrNum V n)))), (951, .val (Sz m51)), (9, .val (IsHd g49 (IsC (shlNum V n)))), (905, .val (Sz m5)), (7, .val (IsHd g3 (IsC (subN V U)))), (6, .box 43 7 (A7s)), (0, .val (IsM V)), (1, .val (IsM U)), (67, .val (Sz lo))]) H69 rfl rfl rfl (.plain rfl (ok_move (.tmp 13 rfl))) rfl rfl ?_
    clear H69 a66 w66 B66
    intro a70 w70 B70 H70
    refine ops_one ?_
    refine tail_op (D := .val (IsM V)) (l' := [(60, .val (IsM V)), (59, .val (IsHd g3 (IsC (subN V U)))), (969, .val (Sz m69)), (58, .val (IsHd g67 (IsC (V + U)))), (57, .val (IsM U)), (56, .val (IsM V)), (963, .val (Sz m63)), (55, .val (IsHd g61 (IsC V))), (959, .val (Sz m59)), (14, .val (IsHd g57 (IsC (smallN V n)))), (955, .val (Sz m55)), (11, .val (IsHd g53 (IsC (shrNum V n)))), (951, .val (Sz m51)), (9, .val (IsHd g49 (IsC (shlNum V n)))), (905, .val (Sz m5)), (7, .val (IsHd g3 (IsC (subN V U)))), (6, .box 43 7 (A7s)), (0, .val (IsM V)), (1, .val (IsM U)), (67, .val (Sz lo))]) H70 rfl rfl rfl (.plain rfl (ok_move (.tmp 16 rfl))) rfl rfl ?_
    clear H70 a70 w70 B70
    intro a71 w71 B71 H71
    refine ops_one ?_
    refine tail_op (D := .val (IsM U)) (l' := [(61, .val (IsM U)), (60, .val (IsM V)), (59, .val (IsHd g3 (IsC (subN V U)))), (969, .val (Sz m69)), (58, .val (IsHd g67 (IsC (V + U)))), (57, .val (IsM U)), (56, .val (IsM V)), (963, .val (Sz m63)), (55, .val (IsHd g61 (IsC V))), (959, .val (Sz m59)), (14, .val (IsHd g57 (IsC (smallN V n)))), (955, .val (Sz m55)), (11, .val (IsHd g53 (IsC (shrNum V n)))), (951, .val (Sz m51)), (9, .val (IsHd g49 (IsC (shlNum V n)))), (905, .val (Sz m5)), (7, .val (IsHd g3 (IsC (subN V U)))), (6, .box 43 7 (A7s)), (0, .val (IsM V)), (1, .val (IsM U)), (67, .val (Sz lo))]) H71 rfl rfl rfl (.plain rfl (ok_move (.tmp 18 rfl))) rfl rfl ?_
    clear H71 a71 w71 B71
    intro a72 w72 B72 H72
    refine ops_one ?_
    refine tail_op (D := .val (IsFr m69 (IsC (V * U)))) (l' := [(62, .val (IsFr m69 (IsC (V * U)))), (61, .val (IsM U)), (60, .val (IsM V)), (59, .val (IsHd g3 (IsC (subN V U)))), (969, .val (Sz m69)), (58, .val (IsHd g67 (IsC (V + U)))), (57, .val (IsM U)), (56, .val (IsM V)), (963, .val (Sz m63)), (55, .val (IsHd g61 (IsC V))), (959, .val (Sz m59)), (14, .val (IsHd g57 (IsC (smallN V n)))), (955, .val (Sz m55)), (11, .val (IsHd g53 (IsC (shrNum V n)))), (951, .val (Sz m51)), (9, .val (IsHd g49 (IsC (shlNum V n)))), (905, .val (Sz m5)), (7, .val (IsHd g3 (IsC (subN V U)))), (6, .box 43 7 (A7s)), (0, .val (IsM V)), (1, .val (IsM U)), (67, .val (Sz lo))]) H72 rfl rfl rfl (.plain rfl (ok_callF 3 (con_natmulF V U hfm) rfl (.cons (.tmp 1 rfl) (.cons (.tmp 0 rfl) (.nil))))) rfl rfl ?_
    clear H72 a72 w72 B72
    intro a73 w73 B73 H73
    obtain ⟨g74, hg74, H74⟩ := St.nameF H73 0 rfl (l' := fun g74 => [(62, .val (IsHd g74 (IsC (V * U)))), (61, .val (IsM U)), (60, .val (IsM V)), (59, .val (IsHd g3 (IsC (subN V U)))), (969, .val (Sz m69)), (58, .val (IsHd g67 (IsC (V + U)))), (57, .val (IsM U)), (56, .val (IsM V)), (963, .val (Sz m63)), (55, .val (IsHd g61 (IsC V))), (959, .val (Sz m59)), (14, .val (IsHd g57 (IsC (smallN V n)))), (955, .val (Sz m55)), (11, .val (IsHd g53 (IsC (shrNum V n)))), (951, .val (Sz m51)), (9, .val (IsHd g49 (IsC (shlNum V n)))), (905, .val (Sz m5)), (7, .val (IsHd g3 (IsC (subN V U)))), (6, .box 43 7 (A7s)), (0, .val (IsM V)), (1, .val (IsM U)), (67, .val (Sz lo))]) (fun _ => rfl)
    clear H73
    replace H74 : St 67 w0 B0 a73 w73 B73 [(62, .val (IsHd g74 (IsC (V * U)))), (61, .val (IsM U)), (60, .val (IsM V)), (59, .val (IsHd g3 (IsC (subN V U)))), (969, .val (Sz m69)), (58, .val (IsHd g67 (IsC (V + U)))), (57, .val (IsM U)), (56, .val (IsM V)), (963, .val (Sz m63)), (55, .val (IsHd g61 (IsC V))), (959, .val (Sz m59)), (14, .val (IsHd g57 (IsC (smallN V n)))), (955, .val (Sz m55)), (11, .val (IsHd g53 (IsC (shrNum V n)))), (951, .val (Sz m51)), (9, .val (IsHd g49 (IsC (shlNum V n)))), (905, .val (Sz m5)), (7, .val (IsHd g3 (IsC (subN V U)))), (6, .box 43 7 (A7s)), (0, .val (IsM V)), (1, .val (IsM U)), (67, .val (Sz lo))] [6] := H74
    have hz75 : m69 ≤ w73.heap.size := H74.fc.get 4 rfl
    obtain ⟨m76, hm76, hw76, hL76, H76⟩ := St.mark H74 976
    clear H74
    clear hL76
    replace hz75 : m69 ≤ m76 := Nat.le_trans hz75 hw76
    replace hg74 : ∀ b, g74 = some b → m69 ≤ b ∧ b < m76 := fun b hb => ⟨(hg74 b hb).1, Nat.lt_of_lt_of_le (hg74 b hb).2 hw76⟩
    clear hw76
    refine ops_one ?_
    refine tail_op (D := .val (IsHd g49 (IsC (shlNum V n)))) (l' := [(63, .val (IsHd g49 (IsC (shlNum V n)))), (976, .val (Sz m76)), (62, .val (IsHd g74 (IsC (V * U)))), (61, .val (IsM U)), (60, .val (IsM V)), (59, .val (IsHd g3 (IsC (subN V U)))), (969, .val (Sz m69)), (58, .val (IsHd g67 (IsC (V + U)))), (57, .val (IsM U)), (56, .val (IsM V)), (963, .val (Sz m63)), (55, .val (IsHd g61 (IsC V))), (959, .val (Sz m59)), (14, .val (IsHd g57 (IsC (smallN V n)))), (955, .val (Sz m55)), (11, .val (IsHd g53 (IsC (shrNum V n)))), (951, .val (Sz m51)), (9, .val (IsHd g49 (IsC (shlNum V n)))), (905, .val (Sz m5)), (7, .val (IsHd g3 (IsC (subN V U)))), (6, .box 43 7 (A7s)), (0, .val (IsM V)), (1, .val (IsM U)), (67, .val (Sz lo))]) H76 rfl rfl rfl (.plain rfl (ok_move (.tmp 16 rfl))) rfl rfl ?_
    clear H76 a73 w73 B73
    intro a77 w77 B77 H77
    refine ops_one ?_
    refine tail_op (D := .val (IsHd g53 (IsC (shrNum V n)))) (l' := [(64, .val (IsHd g53 (IsC (shrNum V n)))), (63, .val (IsHd g49 (IsC (shlNum V n)))), (976, .val (Sz m76)), (62, .val (IsHd g74 (IsC (V * U)))), (61, .val (IsM U)), (60, .val (IsM V)), (59, .val (IsHd g3 (IsC (subN V U)))), (969, .val (Sz m69)), (58, .val (IsHd g67 (IsC (V + U)))), (57, .val (IsM U)), (56, .val (IsM V)), (963, .val (Sz m63)), (55, .val (IsHd g61 (IsC V))), (959, .val (Sz m59)), (14, .val (IsHd g57 (IsC (smallN V n)))), (955, .val (Sz m55)), (11, .val (IsHd g53 (IsC (shrNum V n)))), (951, .val (Sz m51)), (9, .val (IsHd g49 (IsC (shlNum V n)))), (905, .val (Sz m5)), (7, .val (IsHd g3 (IsC (subN V U)))), (6, .box 43 7 (A7s)), (0, .val (IsM V)), (1, .val (IsM U)), (67, .val (Sz lo))]) H77 rfl rfl rfl (.plain rfl (ok_move (.tmp 15 rfl))) rfl rfl ?_
    clear H77 a77 w77 B77
    intro a78 w78 B78 H78
    refine ops_one ?_
    refine tail_op (D := .val (IsHd g57 (IsC (smallN V n)))) (l' := [(65, .val (IsHd g57 (IsC (smallN V n)))), (64, .val (IsHd g53 (IsC (shrNum V n)))), (63, .val (IsHd g49 (IsC (shlNum V n)))), (976, .val (Sz m76)), (62, .val (IsHd g74 (IsC (V * U)))), (61, .val (IsM U)), (60, .val (IsM V)), (59, .val (IsHd g3 (IsC (subN V U)))), (969, .val (Sz m69)), (58, .val (IsHd g67 (IsC (V + U)))), (57, .val (IsM U)), (56, .val (IsM V)), (963, .val (Sz m63)), (55, .val (IsHd g61 (IsC V))), (959, .val (Sz m59)), (14, .val (IsHd g57 (IsC (smallN V n)))), (955, .val (Sz m55)), (11, .val (IsHd g53 (IsC (shrNum V n)))), (951, .val (Sz m51)), (9, .val (IsHd g49 (IsC (shlNum V n)))), (905, .val (Sz m5)), (7, .val (IsHd g3 (IsC (subN V U)))), (6, .box 43 7 (A7s)), (0, .val (IsM V)), (1, .val (IsM U)), (67, .val (Sz lo))]) H78 rfl rfl rfl (.plain rfl (ok_move (.tmp 14 rfl))) rfl rfl ?_
    clear H78 a78 w78 B78
    intro a79 w79 B79 H79
    refine ops_one ?_
    refine tail_op (D := .val (A7 ([g61, g67, g3, g74, g49, g53, g57]) ([V, V + U, subN V U, V * U, shlNum V n, shrNum V n, smallN V n]))) (l' := [(66, .val (A7 ([g61, g67, g3, g74, g49, g53, g57]) ([V, V + U, subN V U, V * U, shlNum V n, shrNum V n, smallN V n]))), (65, .val (IsHd g57 (IsC (smallN V n)))), (64, .val (IsHd g53 (IsC (shrNum V n)))), (63, .val (IsHd g49 (IsC (shlNum V n)))), (976, .val (Sz m76)), (62, .val (IsHd g74 (IsC (V * U)))), (61, .val (IsM U)), (60, .val (IsM V)), (59, .val (IsHd g3 (IsC (subN V U)))), (969, .val (Sz m69)), (58, .val (IsHd g67 (IsC (V + U)))), (57, .val (IsM U)), (56, .val (IsM V)), (963, .val (Sz m63)), (55, .val (IsHd g61 (IsC V))), (959, .val (Sz m59)), (14, .val (IsHd g57 (IsC (smallN V n)))), (955, .val (Sz m55)), (11, .val (IsHd g53 (IsC (shrNum V n)))), (951, .val (Sz m51)), (9, .val (IsHd g49 (IsC (shlNum V n)))), (905, .val (Sz m5)), (7, .val (IsHd g3 (IsC (subN V U)))), (6, .box 43 7 (A7s)), (0, .val (IsM V)), (1, .val (IsM U)), (67, .val (Sz lo))]) H79 rfl rfl rfl (.plain rfl (ok_build7 (.tmp 13 rfl) (.tmp 9 rfl) (.tmp 7 rfl) (.tmp 4 rfl) (.tmp 2 rfl) (.tmp 1 rfl) (.tmp 0 rfl))) rfl rfl ?_
    clear H79 a79 w79 B79
    intro a80 w80 B80 H80
    refine ops_one ?_
    refine store_op (l' := [(66, .val (A7 ([g61, g67, g3, g74, g49, g53, g57]) ([V, V + U, subN V U, V * U, shlNum V n, shrNum V n, smallN V n]))), (65, .val (IsHd g57 (IsC (smallN V n)))), (64, .val (IsHd g53 (IsC (shrNum V n)))), (63, .val (IsHd g49 (IsC (shlNum V n)))), (976, .val (Sz m76)), (62, .val (IsHd g74 (IsC (V * U)))), (61, .val (IsM U)), (60, .val (IsM V)), (59, .val (IsHd g3 (IsC (subN V U)))), (969, .val (Sz m69)), (58, .val (IsHd g67 (IsC (V + U)))), (57, .val (IsM U)), (56, .val (IsM V)), (963, .val (Sz m63)), (55, .val (IsHd g61 (IsC V))), (959, .val (Sz m59)), (14, .val (IsHd g57 (IsC (smallN V n)))), (955, .val (Sz m55)), (11, .val (IsHd g53 (IsC (shrNum V n)))), (951, .val (Sz m51)), (9, .val (IsHd g49 (IsC (shlNum V n)))), (905, .val (Sz m5)), (7, .val (IsHd g3 (IsC (subN V U)))), (6, .box 43 7 (A7 ([g61, g67, g3, g74, g49, g53, g57]) ([V, V + U, subN V U, V * U, shlNum V n, shrNum V n, smallN V n]))), (0, .val (IsM V)), (1, .val (IsM U)), (67, .val (Sz lo))]) 23 H80 rfl tyA7 rfl (.tmp 0 rfl) shape_7s shape_7 rfl rfl ?_
    clear H80 w80
    intro w81 H81
    refine ops_done ?_
    refine then_normal ?_
    refine wp_ret ?_
    have hlo : ∀ j b, List.getD [g61, g67, g3, g74, g49, g53, g57] j none = some b → lo ≤ b := by
      intro j b hb
      rcases j with _ | _ | _ | _ | _ | _ | _ | j
      · have := hg61 b hb; omega
      · have := hg67 b hb; omega
      · have := hg3 b hb; omega
      · have := hg74 b hb; omega
      · have := hg49 b hb; omega
      · have := hg53 b hb; omega
      · have := hg57 b hb; omega
      · cases hb
    have hap : ∀ i j b, i < 7 → j < 7 → i ≠ j → List.getD [g61, g67, g3, g74, g49, g53, g57] i none = some b → List.getD [g61, g67, g3, g74, g49, g53, g57] j none ≠ some b := by
      intro i j b hi hj hij h1 h2
      have k1 : ∀ i, i < 7 → List.getD [g61, g67, g3, g74, g49, g53, g57] i none = some b → ((i = 0 ∧ m59 ≤ b ∧ b < m63) ∨ (i = 1 ∧ m63 ≤ b ∧ b < m69) ∨ (i = 2 ∧ lo ≤ b ∧ b < m5) ∨ (i = 3 ∧ m69 ≤ b ∧ b < m76) ∨ (i = 4 ∧ m5 ≤ b ∧ b < m51) ∨ (i = 5 ∧ m51 ≤ b ∧ b < m55) ∨ (i = 6 ∧ m55 ≤ b ∧ b < m59)) := by
        intro i hi h1
        rcases i with _ | _ | _ | _ | _ | _ | _ | i
        · have := hg61 b h1; omega
        · have := hg67 b h1; omega
        · have := hg3 b h1; omega
        · have := hg74 b h1; omega
        · have := hg49 b h1; omega
        · have := hg53 b h1; omega
        · have := hg57 b h1; omega
        · omega
      have k2 := k1 i hi h1
      have k3 := k1 j hj h2
      omega
    exact f_retC H81 tyA7 rfl 23 rfl (a7v_of rfl hlo hap)
end Go.Proofs.YtbcbmkeeoognpaaGreatDoor

