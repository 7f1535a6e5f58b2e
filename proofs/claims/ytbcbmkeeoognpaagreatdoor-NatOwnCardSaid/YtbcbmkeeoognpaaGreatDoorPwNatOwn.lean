/- The law NatOwn: its walk. -/
import Derived.Test.YtbcbmkeeoognpaaGreatDoorPk2
import Derived.Test.YtbcbmkeeoognpaaGreatDoorPk42
set_option linter.unusedVariables false
set_option linter.unusedSimpArgs false
/- The law NatOwn: its walk by what the slots hold. (Printed by flownat.py.) -/
namespace Go.Proofs.YtbcbmkeeoognpaaGreatDoor
open Go Go.RowKit

set_option maxRecDepth 20000 in
set_option maxHeartbeats 16000000 in
theorem con_NatOwn (na : Nat) (xa : List Int) (nb : Nat) (xb : List Int) (n : Int) (hna : na * 4 ≤ 140737488351232) (hnb : nb * 4 ≤ 140737488351232) (hn : 0 ≤ n ∧ n < 256) : ConF Tryz.prog 3 [IsAn na xa, IsAn nb xb, Lit (.int .u8 n)] (fun _ => IsB true) := by
  refine f_enterF (N := 114) Tryz.ntmps3 (fun _ _ => by go_simp) Tryz.func3 rfl (by simp) ?_
  intro lo a0 w0 B0 H0
  replace H0 : St 114 w0 B0 a0 w0 B0 [(0, .val (IsAn na xa)), (1, .val (IsAn nb xb)), (2, .val (Lit (.int .u8 n))), (114, .val (Sz lo))] [] := H0
  obtain ⟨_, _, _, ka⟩ := H0.fc.get 0 rfl
  obtain ⟨_, _, _, kb⟩ := H0.fc.get 1 rfl
  have la := ka.rds.len
  have lb := kb.rds.len
  have da := ka.dig
  have db := kb.dig
  clear ka kb
  have H1 := St.setw H0 0 (D' := IsAb w0.heap.size na xa) rfl (fun v h => hardAn (Nat.le_refl _) v h) (l' := [(0, .val (IsAb w0.heap.size na xa)), (1, .val (IsAn nb xb)), (2, .val (Lit (.int .u8 n))), (114, .val (Sz lo))]) rfl
  clear H0
  have H2 := St.setw H1 1 (D' := IsAb w0.heap.size nb xb) rfl (fun v h => hardAn (Nat.le_refl _) v h) (l' := [(0, .val (IsAb w0.heap.size na xa)), (1, .val (IsAb w0.heap.size nb xb)), (2, .val (Lit (.int .u8 n))), (114, .val (Sz lo))]) rfl
  clear H1
  refine wp_seq ?_
  refine flow_region (dsts := [some 6]) (refs := [[]]) (outs := [.res 0, .pre 0, .pre 1, .pre 2, .pre 3]) (als := [false]) (posts := [.val (IsB false)])
    (out := [(6, .val (IsB false)), (0, .val (IsAb w0.heap.size na xa)), (1, .val (IsAb w0.heap.size nb xb)), (2, .val (Lit (.int .u8 n))), (114, .val (Sz lo))]) (nb := []) H2 1 [] rfl (by kernel_rfl) rfl rfl ?_ ?_
  · refine .cons (.plain rfl (ok_assign (.lit))) ?_
    exact .nil
  clear H2
  intro a3 w3 B3 H3
  refine ops_done ?_
  refine then_normal ?_
  refine wp_seq ?_
  refine wp_seq ?_
  refine flow_region (dsts := [some 18, some 19, some 20, some 21]) (refs := [[.pre 1], [.pre 2], [.res 0, .res 1], [.res 2]]) (outs := [.res 3, .pre 0, .pre 1, .pre 2, .pre 3, .pre 4]) (als := [false, false, false, false]) (posts := [.val (IsAb w0.heap.size na xa), .val (IsAb w0.heap.size nb xb), .val (IsNats2 na nb), .val (IsIf True True)])
    (out := [(21, .val (IsIf True True)), (6, .val (IsB false)), (0, .val (IsAb w0.heap.size na xa)), (1, .val (IsAb w0.heap.size nb xb)), (2, .val (Lit (.int .u8 n))), (114, .val (Sz lo))]) (nb := []) H3 4 [4, 5, 6, 7, 8, 9, 10, 11] rfl (by kernel_rfl) rfl rfl ?_ ?_
  · refine .cons (.plain rfl (ok_move (.tmp 0 rfl))) ?_
    refine .cons (.plain rfl (ok_move (.tmp 0 rfl))) ?_
    refine .cons (.plain rfl (ok_nats2 (.weak (.tmp 0 rfl) weakAb) (.weak (.tmp 1 rfl) weakAb))) ?_
    refine .cons (.plain rfl (ok_call (con_beyondNat2 na nb (by omega) (by omega)) (.cons (.tmp 0 rfl) (.nil)))) ?_
    exact .nil
  clear H3 a3 w3 B3
  intro a4 w4 B4 H4
  rcases St.split2 H4 0 rfl with ⟨hc5, H5⟩ | ⟨hc5, H5⟩
  · replace H5 : St 114 w0 B0 a4 w4 B4 [(21, .val (IsB true)), (6, .val (IsB false)), (0, .val (IsAb w0.heap.size na xa)), (1, .val (IsAb w0.heap.size nb xb)), (2, .val (Lit (.int .u8 n))), (114, .val (Sz lo))] [] := H5
    clear H4
    refine ops_one ?_
    refine tail_op (D := .val (IsB true)) (l' := [(22, .val (IsB true)), (21, .val (IsB true)), (6, .val (IsB false)), (0, .val (IsAb w0.heap.size na xa)), (1, .val (IsAb w0.heap.size nb xb)), (2, .val (Lit (.int .u8 n))), (114, .val (Sz lo))]) H5 rfl rfl rfl (.plain rfl (ok_move (.tmp 0 rfl))) rfl rfl ?_
    clear H5 a4 w4 B4
    intro a6 w6 B6 H6
    refine ops_one ?_
    refine tail_op (D := .val (IsUndef)) (l' := [(23, .val (IsUndef)), (22, .val (IsB true)), (21, .val (IsB true)), (6, .val (IsB false)), (0, .val (IsAb w0.heap.size na xa)), (1, .val (IsAb w0.heap.size nb xb)), (2, .val (Lit (.int .u8 n))), (114, .val (Sz lo))]) H6 rfl rfl rfl (.unwanted 4 false rfl rfl rfl 0 rfl) rfl rfl ?_
    clear H6 a6 w6 B6
    intro a7 w7 B7 H7
    refine ops_one ?_
    refine tail_op (D := .val (IsUndef)) (l' := [(24, .val (IsUndef)), (23, .val (IsUndef)), (22, .val (IsB true)), (21, .val (IsB true)), (6, .val (IsB false)), (0, .val (IsAb w0.heap.size na xa)), (1, .val (IsAb w0.heap.size nb xb)), (2, .val (Lit (.int .u8 n))), (114, .val (Sz lo))]) H7 rfl rfl rfl (.unwanted 4 false rfl rfl rfl 1 rfl) rfl rfl ?_
    clear H7 a7 w7 B7
    intro a8 w8 B8 H8
    refine ops_one ?_
    refine tail_op (D := .val (IsUndef)) (l' := [(25, .val (IsUndef)), (24, .val (IsUndef)), (23, .val (IsUndef)), (22, .val (IsB true)), (21, .val (IsB true)), (6, .val (IsB false)), (0, .val (IsAb w0.heap.size na xa)), (1, .val (IsAb w0.heap.size nb xb)), (2, .val (Lit (.int .u8 n))), (114, .val (Sz lo))]) H8 rfl rfl rfl (.unwanted 4 false rfl rfl rfl 2 rfl) rfl rfl ?_
    clear H8 a8 w8 B8
    intro a9 w9 B9 H9
    refine ops_one ?_
    refine tail_op (D := .val (IsUndef)) (l' := [(26, .val (IsUndef)), (25, .val (IsUndef)), (24, .val (IsUndef)), (23, .val (IsUndef)), (22, .val (IsB true)), (21, .val (IsB true)), (6, .val (IsB false)), (0, .val (IsAb w0.heap.size na xa)), (1, .val (IsAb w0.heap.size nb xb)), (2, .val (Lit (.int .u8 n))), (114, .val (Sz lo))]) H9 rfl rfl rfl (.unwanted 4 false rfl rfl rfl 3 rfl) rfl rfl ?_
    clear H9 a9 w9 B9
    intro a10 w10 B10 H10
    refine ops_one ?_
    refine tail_op (D := .val (IsUndef)) (l' := [(27, .val (IsUndef)), (26, .val (IsUndef)), (25, .val (IsUndef)), (24, .val (IsUndef)), (23, .val (IsUndef)), (22, .val (IsB true)), (21, .val (IsB true)), (6, .val (IsB false)), (0, .val (IsAb w0.heap.size na xa)), (1, .val (IsAb w0.heap.size nb xb)), (2, .val (Lit (.int .u8 n))), (114, .val (Sz lo))]) H10 rfl rfl rfl (.unwanted 4 false rfl rfl rfl 4 rfl) rfl rfl ?_
    clear H10 a10 w10 B10
    intro a11 w11 B11 H11
    refine ops_one ?_
    refine tail_op (D := .val (IsUndef)) (l' := [(28, .val (IsUndef)), (27, .val (IsUndef)), (26, .val (IsUndef)), (25, .val (IsUndef)), (24, .val (IsUndef)), (23, .val (IsUndef)), (22, .val (IsB true)), (21, .val (IsB true)), (6, .val (IsB false)), (0, .val (IsAb w0.heap.size na xa)), (1, .val (IsAb w0.heap.size nb xb)), (2, .val (Lit (.int .u8 n))), (114, .val (Sz lo))]) H11 rfl rfl rfl (.unwanted 4 false rfl rfl rfl 5 rfl) rfl rfl ?_
    clear H11 a11 w11 B11
    intro a12 w12 B12 H12
    refine ops_one ?_
    refine tail_op (D := .val (IsB true)) (l' := [(29, .val (IsB true)), (28, .val (IsUndef)), (27, .val (IsUndef)), (26, .val (IsUndef)), (25, .val (IsUndef)), (24, .val (IsUndef)), (23, .val (IsUndef)), (22, .val (IsB true)), (21, .val (IsB true)), (6, .val (IsB false)), (0, .val (IsAb w0.heap.size na xa)), (1, .val (IsAb w0.heap.size nb xb)), (2, .val (Lit (.int .u8 n))), (114, .val (Sz lo))]) H12 rfl rfl rfl (.plain rfl (ok_pickT (.tmp 6 rfl) (.lit))) rfl rfl ?_
    clear H12 a12 w12 B12
    intro a13 w13 B13 H13
    refine ops_done ?_
    refine then_normal ?_
    refine f_condT H13 (.tmp 0 rfl) ?_
    refine wp_seq ?_
    refine flow_region (dsts := [some 6]) (refs := [[]]) (outs := [.res 0, .pre 10, .pre 11, .pre 12, .pre 13]) (als := [false]) (posts := [.val (IsB true)])
      (out := [(6, .val (IsB true)), (0, .val (IsAb w0.heap.size na xa)), (1, .val (IsAb w0.heap.size nb xb)), (2, .val (Lit (.int .u8 n))), (114, .val (Sz lo))]) (nb := []) H13 1 [] rfl (by kernel_rfl) rfl rfl ?_ ?_
    · refine .cons (.plain rfl (ok_assign (.lit))) ?_
      exact .nil
    clear H13 a13 w13 B13
    intro a14 w14 B14 H14
    refine ops_done ?_
    refine then_normal ?_
    refine wp_ret ?_
    refine then_ret ?_
    exact f_ret H14 rfl 0 rfl (fun _ _ _ h => h)
  · replace H5 : St 114 w0 B0 a4 w4 B4 [(21, .val (IsB false)), (6, .val (IsB false)), (0, .val (IsAb w0.heap.size na xa)), (1, .val (IsAb w0.heap.size nb xb)), (2, .val (Lit (.int .u8 n))), (114, .val (Sz lo))] [] := H5
    clear H4
    refine ops_one ?_
    refine tail_op (D := .val (IsB false)) (l' := [(22, .val (IsB false)), (21, .val (IsB false)), (6, .val (IsB false)), (0, .val (IsAb w0.heap.size na xa)), (1, .val (IsAb w0.heap.size nb xb)), (2, .val (Lit (.int .u8 n))), (114, .val (Sz lo))]) H5 rfl rfl rfl (.plain rfl (ok_move (.tmp 0 rfl))) rfl rfl ?_
    clear H5 a4 w4 B4
    intro a15 w15 B15 H15
    refine ops_one ?_
    refine tail_op (D := .val (IsAb w0.heap.size na xa)) (l' := [(23, .val (IsAb w0.heap.size na xa)), (22, .val (IsB false)), (21, .val (IsB false)), (6, .val (IsB false)), (0, .val (IsAb w0.heap.size na xa)), (1, .val (IsAb w0.heap.size nb xb)), (2, .val (Lit (.int .u8 n))), (114, .val (Sz lo))]) H15 rfl rfl rfl (.wanted 4 false rfl rfl rfl 0 rfl (ok_move (.tmp 3 rfl))) rfl rfl ?_
    clear H15 a15 w15 B15
    intro a16 w16 B16 H16
    refine ops_one ?_
    refine tail_op (D := .val (Lit (.int .i64 (na : Int)))) (l' := [(24, .val (Lit (.int .i64 (na : Int)))), (23, .val (IsAb w0.heap.size na xa)), (22, .val (IsB false)), (21, .val (IsB false)), (6, .val (IsB false)), (0, .val (IsAb w0.heap.size na xa)), (1, .val (IsAb w0.heap.size nb xb)), (2, .val (Lit (.int .u8 n))), (114, .val (Sz lo))]) H16 rfl rfl rfl (.wanted 4 false rfl rfl rfl 1 rfl (ok_lenAn (.weak (.tmp 0 rfl) weakAb))) rfl rfl ?_
    clear H16 a16 w16 B16
    intro a17 w17 B17 H17
    refine ops_one ?_
    refine tail_op (D := .val (IsAb w0.heap.size nb xb)) (l' := [(25, .val (IsAb w0.heap.size nb xb)), (24, .val (Lit (.int .i64 (na : Int)))), (23, .val (IsAb w0.heap.size na xa)), (22, .val (IsB false)), (21, .val (IsB false)), (6, .val (IsB false)), (0, .val (IsAb w0.heap.size na xa)), (1, .val (IsAb w0.heap.size nb xb)), (2, .val (Lit (.int .u8 n))), (114, .val (Sz lo))]) H17 rfl rfl rfl (.wanted 4 false rfl rfl rfl 2 rfl (ok_move (.tmp 6 rfl))) rfl rfl ?_
    clear H17 a17 w17 B17
    intro a18 w18 B18 H18
    refine ops_one ?_
    refine tail_op (D := .val (Lit (.int .i64 (nb : Int)))) (l' := [(26, .val (Lit (.int .i64 (nb : Int)))), (25, .val (IsAb w0.heap.size nb xb)), (24, .val (Lit (.int .i64 (na : Int)))), (23, .val (IsAb w0.heap.size na xa)), (22, .val (IsB false)), (21, .val (IsB false)), (6, .val (IsB false)), (0, .val (IsAb w0.heap.size na xa)), (1, .val (IsAb w0.heap.size nb xb)), (2, .val (Lit (.int .u8 n))), (114, .val (Sz lo))]) H18 rfl rfl rfl (.wanted 4 false rfl rfl rfl 3 rfl (ok_lenAn (.weak (.tmp 0 rfl) weakAb))) rfl rfl ?_
    clear H18 a18 w18 B18
    intro a19 w19 B19 H19
    refine ops_one ?_
    refine tail_op (D := .val (Lit (.int .i64 ((na : Int) + (nb : Int))))) (l' := [(27, .val (Lit (.int .i64 ((na : Int) + (nb : Int))))), (26, .val (Lit (.int .i64 (nb : Int)))), (25, .val (IsAb w0.heap.size nb xb)), (24, .val (Lit (.int .i64 (na : Int)))), (23, .val (IsAb w0.heap.size na xa)), (22, .val (IsB false)), (21, .val (IsB false)), (6, .val (IsB false)), (0, .val (IsAb w0.heap.size na xa)), (1, .val (IsAb w0.heap.size nb xb)), (2, .val (Lit (.int .u8 n))), (114, .val (Sz lo))]) H19 rfl rfl rfl (.wanted 4 false rfl rfl rfl 4 rfl (ok_add (r := ((na : Int) + (nb : Int))) (.tmp 2 rfl) (.tmp 0 rfl) (w_i64 (by omega)))) rfl rfl ?_
    clear H19 a19 w19 B19
    intro a20 w20 B20 H20
    refine ops_one ?_
    refine tail_op (D := .val (IsB (decide (1024 < (na : Int) + (nb : Int))))) (l' := [(28, .val (IsB (decide (1024 < (na : Int) + (nb : Int))))), (27, .val (Lit (.int .i64 ((na : Int) + (nb : Int))))), (26, .val (Lit (.int .i64 (nb : Int)))), (25, .val (IsAb w0.heap.size nb xb)), (24, .val (Lit (.int .i64 (na : Int)))), (23, .val (IsAb w0.heap.size na xa)), (22, .val (IsB false)), (21, .val (IsB false)), (6, .val (IsB false)), (0, .val (IsAb w0.heap.size na xa)), (1, .val (IsAb w0.heap.size nb xb)), (2, .val (Lit (.int .u8 n))), (114, .val (Sz lo))]) H20 rfl rfl rfl (.wanted 4 false rfl rfl rfl 5 rfl (ok_cmp (.tmp 0 rfl) (.lit) rfl)) rfl rfl ?_
    clear H20 a20 w20 B20
    intro a21 w21 B21 H21
    refine ops_one ?_
    refine tail_op (D := .val (IsB (decide (1024 < (na : Int) + (nb : Int))))) (l' := [(29, .val (IsB (decide (1024 < (na : Int) + (nb : Int))))), (28, .val (IsB (decide (1024 < (na : Int) + (nb : Int))))), (27, .val (Lit (.int .i64 ((na : Int) + (nb : Int))))), (26, .val (Lit (.int .i64 (nb : Int)))), (25, .val (IsAb w0.heap.size nb xb)), (24, .val (Lit (.int .i64 (na : Int)))), (23, .val (IsAb w0.heap.size na xa)), (22, .val (IsB false)), (21, .val (IsB false)), (6, .val (IsB false)), (0, .val (IsAb w0.heap.size na xa)), (1, .val (IsAb w0.heap.size nb xb)), (2, .val (Lit (.int .u8 n))), (114, .val (Sz lo))]) H21 rfl rfl rfl (.plain rfl (ok_pickF (.tmp 6 rfl) (.tmp 0 rfl))) rfl rfl ?_
    clear H21 a21 w21 B21
    intro a22 w22 B22 H22
    refine ops_done ?_
    refine then_normal ?_
    refine f_cond H22 (.tmp 0 rfl) ?_ ?_
    · intro hc23
      replace hc23 := of_decide_eq_true hc23
      refine wp_seq ?_
      refine flow_region (dsts := [some 6]) (refs := [[]]) (outs := [.res 0, .pre 10, .pre 11, .pre 12, .pre 13]) (als := [false]) (posts := [.val (IsB true)])
        (out := [(6, .val (IsB true)), (0, .val (IsAb w0.heap.size na xa)), (1, .val (IsAb w0.heap.size nb xb)), (2, .val (Lit (.int .u8 n))), (114, .val (Sz lo))]) (nb := []) H22 1 [] rfl (by kernel_rfl) rfl rfl ?_ ?_
      · refine .cons (.plain rfl (ok_assign (.lit))) ?_
        exact .nil
      clear H22 a22 w22 B22
      intro a24 w24 B24 H24
      refine ops_done ?_
      refine then_normal ?_
      refine wp_ret ?_
      refine then_ret ?_
      exact f_ret H24 rfl 0 rfl (fun _ _ _ h => h)
    · intro hc23
      replace hc23 := of_decide_eq_false hc23
      refine wp_skip ?_
      refine then_normal ?_
      refine wp_seq ?_
      refine wp_seq ?_
      refine flow_region (dsts := [some 30, some 31]) (refs := [[], [.res 0]]) (outs := [.res 1, .pre 9, .pre 10, .pre 11, .pre 12, .pre 13]) (als := [false, false]) (posts := [.val (IsB true), .val (IsB false)])
        (out := [(31, .val (IsB false)), (6, .val (IsB false)), (0, .val (IsAb w0.heap.size na xa)), (1, .val (IsAb w0.heap.size nb xb)), (2, .val (Lit (.int .u8 n))), (114, .val (Sz lo))]) (nb := []) H22 2 [] rfl (by kernel_rfl) rfl rfl ?_ ?_
      · refine .cons (.plain rfl (ok_call (con_lives1) (.nil))) ?_
        refine .cons (.plain rfl (ok_not (b := true) (.tmp 0 rfl))) ?_
        exact .nil
      clear H22 a22 w22 B22
      intro a25 w25 B25 H25
      refine ops_done ?_
      refine then_normal ?_
      refine f_condF H25 (.tmp 0 rfl) ?_
      refine wp_skip ?_
      refine then_normal ?_
      refine wp_seq ?_
      have hz26 : lo ≤ w25.heap.size := H25.fc.get 5 rfl
      obtain ⟨m27, hm27, hw27, hL27, H27⟩ := St.mark H25 927
      clear H25
      clear hL27
      replace hz26 : lo ≤ m27 := Nat.le_trans hz26 hw27
      clear hw27
      refine flow_region (dsts := [some 32, some 33, some 7]) (refs := [[.pre 3], [.res 0, .pre 0], [.res 1]]) (outs := [.res 2, .pre 0, .pre 2, .pre 3, .pre 4, .pre 5, .pre 6]) (als := [false, false, false]) (posts := [.val (IsAb w0.heap.size na xa), .val (IsFr m27 (IsTN na xa)), .val (IsFr m27 (IsTN na xa))])
        (out := [(7, .val (IsFr m27 (IsTN na xa))), (927, .val (Sz m27)), (6, .val (IsB false)), (0, .val (IsAb w0.heap.size na xa)), (1, .val (IsAb w0.heap.size nb xb)), (2, .val (Lit (.int .u8 n))), (114, .val (Sz lo))]) (nb := []) H27 3 [] rfl (by kernel_rfl) rfl rfl ?_ ?_
      · refine .cons (.plain rfl (ok_move (.tmp 0 rfl))) ?_
        refine .cons (.plain rfl (ok_callF 1 (con_twinF na xa (by omega)) rfl (.cons (.weak (.tmp 0 rfl) weakAb) (.nil)))) ?_
        refine .cons (.plain rfl (ok_assign (.tmp 0 rfl))) ?_
        exact .nil
      clear H27 a25 w25 B25
      intro a28 w28 B28 H28
      refine ops_done ?_
      refine then_normal ?_
      refine wp_seq ?_
      obtain ⟨g29, hg29, H29⟩ := St.nameF H28 0 rfl (l' := fun g29 => [(7, .val (IsHd g29 (IsTN na xa))), (927, .val (Sz m27)), (6, .val (IsB false)), (0, .val (IsAb w0.heap.size na xa)), (1, .val (IsAb w0.heap.size nb xb)), (2, .val (Lit (.int .u8 n))), (114, .val (Sz lo))]) (fun _ => rfl)
      clear H28
      replace H29 : St 114 w0 B0 a28 w28 B28 [(7, .val (IsHd g29 (IsTN na xa))), (927, .val (Sz m27)), (6, .val (IsB false)), (0, .val (IsAb w0.heap.size na xa)), (1, .val (IsAb w0.heap.size nb xb)), (2, .val (Lit (.int .u8 n))), (114, .val (Sz lo))] [] := H29
      have hz30 : m27 ≤ w28.heap.size := H29.fc.get 1 rfl
      obtain ⟨m31, hm31, hw31, hL31, H31⟩ := St.mark H29 931
      clear H29
      clear hL31
      replace hz30 : m27 ≤ m31 := Nat.le_trans hz30 hw31
      replace hg29 : ∀ b, g29 = some b → m27 ≤ b ∧ b < m31 := fun b hb => ⟨(hg29 b hb).1, Nat.lt_of_lt_of_le (hg29 b hb).2 hw31⟩
      clear hw31
      refine flow_region (dsts := [some 34, some 35, some 8]) (refs := [[.pre 5], [.res 0, .pre 0], [.res 1]]) (outs := [.res 2, .pre 0, .pre 1, .pre 2, .pre 3, .pre 4, .pre 5, .pre 6, .pre 7]) (als := [false, false, false]) (posts := [.val (IsAb w0.heap.size nb xb), .val (IsFr m31 (IsTN nb xb)), .val (IsFr m31 (IsTN nb xb))])
        (out := [(8, .val (IsFr m31 (IsTN nb xb))), (931, .val (Sz m31)), (7, .val (IsHd g29 (IsTN na xa))), (927, .val (Sz m27)), (6, .val (IsB false)), (0, .val (IsAb w0.heap.size na xa)), (1, .val (IsAb w0.heap.size nb xb)), (2, .val (Lit (.int .u8 n))), (114, .val (Sz lo))]) (nb := []) H31 3 [] rfl (by kernel_rfl) rfl rfl ?_ ?_
      · refine .cons (.plain rfl (ok_move (.tmp 0 rfl))) ?_
        refine .cons (.plain rfl (ok_callF 1 (con_twinF nb xb (by omega)) rfl (.cons (.weak (.tmp 0 rfl) weakAb) (.nil)))) ?_
        refine .cons (.plain rfl (ok_assign (.tmp 0 rfl))) ?_
        exact .nil
      clear H31 a28 w28 B28
      intro a32 w32 B32 H32
      refine ops_done ?_
      refine then_normal ?_
      refine wp_seq ?_
      obtain ⟨g33, hg33, H33⟩ := St.nameF H32 0 rfl (l' := fun g33 => [(8, .val (IsHd g33 (IsTN nb xb))), (931, .val (Sz m31)), (7, .val (IsHd g29 (IsTN na xa))), (927, .val (Sz m27)), (6, .val (IsB false)), (0, .val (IsAb w0.heap.size na xa)), (1, .val (IsAb w0.heap.size nb xb)), (2, .val (Lit (.int .u8 n))), (114, .val (Sz lo))]) (fun _ => rfl)
      clear H32
      replace H33 : St 114 w0 B0 a32 w32 B32 [(8, .val (IsHd g33 (IsTN nb xb))), (931, .val (Sz m31)), (7, .val (IsHd g29 (IsTN na xa))), (927, .val (Sz m27)), (6, .val (IsB false)), (0, .val (IsAb w0.heap.size na xa)), (1, .val (IsAb w0.heap.size nb xb)), (2, .val (Lit (.int .u8 n))), (114, .val (Sz lo))] [] := H33
      have hz34 : m31 ≤ w32.heap.size := H33.fc.get 1 rfl
      obtain ⟨m35, hm35, hw35, hL35, H35⟩ := St.mark H33 935
      clear H33
      clear hL35
      replace hz34 : m31 ≤ m35 := Nat.le_trans hz34 hw35
      replace hg33 : ∀ b, g33 = some b → m31 ≤ b ∧ b < m35 := fun b hb => ⟨(hg33 b hb).1, Nat.lt_of_lt_of_le (hg33 b hb).2 hw35⟩
      clear hw35
      refine flow_region (dsts := [some 9]) (refs := [[]]) (outs := [.res 0, .pre 0, .pre 1, .pre 2, .pre 3, .pre 4, .pre 5, .pre 6, .pre 7, .pre 8, .pre 9]) (als := [true]) (posts := [.box 42 15 (IsBook w0.heap.size (fun _ => True) 0 0 ([]) 0)])
        (out := [(9, .box 42 15 (IsBook w0.heap.size (fun _ => True) 0 0 ([]) 0)), (935, .val (Sz m35)), (8, .val (IsHd g33 (IsTN nb xb))), (931, .val (Sz m31)), (7, .val (IsHd g29 (IsTN na xa))), (927, .val (Sz m27)), (6, .val (IsB false)), (0, .val (IsAb w0.heap.size na xa)), (1, .val (IsAb w0.heap.size nb xb)), (2, .val (Lit (.int .u8 n))), (114, .val (Sz lo))]) (nb := [9]) H35 1 [] rfl (by kernel_rfl) rfl rfl ?_ ?_
      · refine .cons (.plain rfl (ok_allocBook)) ?_
        exact .nil
      clear H35 a32 w32 B32
      intro a36 w36 B36 H36
      simp only [List.cons_append, List.nil_append] at H36
      refine ops_done ?_
      refine then_normal ?_
      refine wp_seq ?_
      refine flow_region (dsts := [some 10]) (refs := [[]]) (outs := [.res 0, .pre 0, .pre 1, .pre 2, .pre 3, .pre 4, .pre 5, .pre 6, .pre 7, .pre 8, .pre 9, .pre 10]) (als := [true]) (posts := [.box 43 7 (A7s)])
        (out := [(10, .box 43 7 (A7s)), (9, .box 42 15 (IsBook w0.heap.size (fun _ => True) 0 0 ([]) 0)), (935, .val (Sz m35)), (8, .val (IsHd g33 (IsTN nb xb))), (931, .val (Sz m31)), (7, .val (IsHd g29 (IsTN na xa))), (927, .val (Sz m27)), (6, .val (IsB false)), (0, .val (IsAb w0.heap.size na xa)), (1, .val (IsAb w0.heap.size nb xb)), (2, .val (Lit (.int .u8 n))), (114, .val (Sz lo))]) (nb := [10]) H36 1 [] rfl (by kernel_rfl) rfl rfl ?_ ?_
      · refine .cons (.plain rfl (ok_alloc7s)) ?_
        exact .nil
      clear H36 a36 w36 B36
      intro a37 w37 B37 H37
      simp only [List.cons_append, List.nil_append] at H37
      refine ops_done ?_
      refine then_normal ?_
      refine wp_seq ?_
      refine wp_seq ?_
      have H38 := St.setwB H37 1 (D' := IsBook w0.heap.size (fun _ => True) m35 m35 ([]) 0) rfl (fun v h => book_empty v h) (l' := [(10, .box 43 7 (A7s)), (9, .box 42 15 (IsBook w0.heap.size (fun _ => True) m35 m35 ([]) 0)), (935, .val (Sz m35)), (8, .val (IsHd g33 (IsTN nb xb))), (931, .val (Sz m31)), (7, .val (IsHd g29 (IsTN na xa))), (927, .val (Sz m27)), (6, .val (IsB false)), (0, .val (IsAb w0.heap.size na xa)), (1, .val (IsAb w0.heap.size nb xb)), (2, .val (Lit (.int .u8 n))), (114, .val (Sz lo))]) rfl
      clear H37
      refine flow_region (dsts := [some 11]) (refs := [[]]) (outs := [.res 0, .pre 0, .pre 1, .pre 2, .pre 3, .pre 4, .pre 5, .pre 6, .pre 7, .pre 8, .pre 9, .pre 10, .pre 11]) (als := [false]) (posts := [.val (Lit (.int .i64 0))])
        (out := [(11, .val (Lit (.int .i64 0))), (10, .box 43 7 (A7s)), (9, .box 42 15 (IsBook w0.heap.size (fun _ => True) m35 m35 ([]) 0)), (935, .val (Sz m35)), (8, .val (IsHd g33 (IsTN nb xb))), (931, .val (Sz m31)), (7, .val (IsHd g29 (IsTN na xa))), (927, .val (Sz m27)), (6, .val (IsB false)), (0, .val (IsAb w0.heap.size na xa)), (1, .val (IsAb w0.heap.size nb xb)), (2, .val (Lit (.int .u8 n))), (114, .val (Sz lo))]) (nb := []) H38 1 [] rfl (by kernel_rfl) rfl rfl ?_ ?_
      · refine .cons (.plain rfl (ok_assign (.lit))) ?_
        exact .nil
      clear H38 a37 w37 B37
      intro a39 w39 B39 H39
      refine ops_done ?_
      refine then_normal ?_
      refine wp_block ?_
      refine wp_loop_rounds 5 ?_
      rw [rounds_succ]
      refine wp_seq ?_
      refine wp_seq ?_
      refine flow_region (dsts := [some 36, some 37]) (refs := [[.pre 0], [.res 0]]) (outs := [.res 1, .pre 0, .pre 1, .pre 2, .pre 3, .pre 4, .pre 5, .pre 6, .pre 7, .pre 8, .pre 9, .pre 10, .pre 11, .pre 12]) (als := [false, false]) (posts := [.val (Lit (.int .i64 0)), .val (IsB true)])
        (out := [(37, .val (IsB true)), (11, .val (Lit (.int .i64 0))), (10, .box 43 7 (A7s)), (9, .box 42 15 (IsBook w0.heap.size (fun _ => True) m35 m35 ([]) 0)), (935, .val (Sz m35)), (8, .val (IsHd g33 (IsTN nb xb))), (931, .val (Sz m31)), (7, .val (IsHd g29 (IsTN na xa))), (927, .val (Sz m27)), (6, .val (IsB false)), (0, .val (IsAb w0.heap.size na xa)), (1, .val (IsAb w0.heap.size nb xb)), (2, .val (Lit (.int .u8 n))), (114, .val (Sz lo))]) (nb := []) H39 2 [] rfl (by kernel_rfl) rfl rfl ?_ ?_
      · refine .cons (.plain rfl (ok_move (.tmp 0 rfl))) ?_
        refine .cons (.plain rfl (ok_cmp (b := true) (.tmp 0 rfl) (.lit) (by decide))) ?_
        exact .nil
      clear H39 a39 w39 B39
      intro a41 w41 B41 H41
      refine ops_done ?_
      refine then_normal ?_
      refine f_condT H41 (.tmp 0 rfl) ?_
      refine wp_skip ?_
      refine then_normal ?_
      refine wp_seq ?_
      refine wp_block ?_
      refine wp_seq ?_
      refine wp_seq ?_
      refine flow_region (dsts := [some 40, some 41]) (refs := [[.pre 1], [.res 0]]) (outs := [.res 1, .pre 1, .pre 2, .pre 3, .pre 4, .pre 5, .pre 6, .pre 7, .pre 8, .pre 9, .pre 10, .pre 11, .pre 12, .pre 13]) (als := [false, false]) (posts := [.val (Lit (.int .i64 0)), .val (IsB false)])
        (out := [(41, .val (IsB false)), (11, .val (Lit (.int .i64 0))), (10, .box 43 7 (A7s)), (9, .box 42 15 (IsBook w0.heap.size (fun _ => True) m35 m35 ([]) 0)), (935, .val (Sz m35)), (8, .val (IsHd g33 (IsTN nb xb))), (931, .val (Sz m31)), (7, .val (IsHd g29 (IsTN na xa))), (927, .val (Sz m27)), (6, .val (IsB false)), (0, .val (IsAb w0.heap.size na xa)), (1, .val (IsAb w0.heap.size nb xb)), (2, .val (Lit (.int .u8 n))), (114, .val (Sz lo))]) (nb := []) H41 2 [] rfl (by kernel_rfl) rfl rfl ?_ ?_
      · refine .cons (.plain rfl (ok_move (.tmp 0 rfl))) ?_
        refine .cons (.plain rfl (ok_cmp (b := false) (.tmp 0 rfl) (.lit) (by decide))) ?_
        exact .nil
      clear H41 a41 w41 B41
      intro a42 w42 B42 H42
      refine ops_done ?_
      refine then_normal ?_
      refine f_condF H42 (.tmp 0 rfl) ?_
      refine wp_skip ?_
      refine then_normal ?_
      refine wp_seq ?_
      refine flow_region (dsts := [some 54, some 55, some 56, some 57, some 13]) (refs := [[.pre 7], [.pre 5], [.pre 12], [.res 0, .res 1, .res 2, .pre 4], []]) (outs := [.res 3, .res 4, .pre 1, .pre 2, .pre 3, .pre 4, .pre 5, .pre 6, .pre 7, .pre 8, .pre 9, .pre 10, .pre 11, .pre 12, .pre 13]) (als := [false, false, false, false, true]) (posts := [.val (IsHd g29 (IsTN na xa)), .val (IsHd g33 (IsTN nb xb)), .val (Lit (.int .u8 n)), .val (A7v m35 (ansL (val 4294967296 xa) (val 4294967296 xb) n)), .box 43 7 (A7s)])
        (out := [(57, .val (A7v m35 (ansL (val 4294967296 xa) (val 4294967296 xb) n))), (13, .box 43 7 (A7s)), (11, .val (Lit (.int .i64 0))), (10, .box 43 7 (A7s)), (9, .box 42 15 (IsBook w0.heap.size (fun _ => True) m35 m35 ([]) 0)), (935, .val (Sz m35)), (8, .val (IsHd g33 (IsTN nb xb))), (931, .val (Sz m31)), (7, .val (IsHd g29 (IsTN na xa))), (927, .val (Sz m27)), (6, .val (IsB false)), (0, .val (IsAb w0.heap.size na xa)), (1, .val (IsAb w0.heap.size nb xb)), (2, .val (Lit (.int .u8 n))), (114, .val (Sz lo))]) (nb := [13]) H42 5 [5] rfl (by kernel_rfl) rfl rfl ?_ ?_
      · refine .cons (.plain rfl (ok_move (.tmp 0 rfl))) ?_
        refine .cons (.plain rfl (ok_move (.tmp 0 rfl))) ?_
        refine .cons (.plain rfl (ok_move (.tmp 0 rfl))) ?_
        refine .cons (.plain rfl (ok_callF 3 (con_answersF (val 4294967296 xa) (val 4294967296 xb) n (fit_listN la da (by omega)) (fit_listN lb db (by omega)) (by omega)) rfl (.cons (.weak (.weak (.weak (.tmp 0 rfl) weakHd) weakTNAn) (weakAnM (by omega))) (.cons (.weak (.weak (.weak (.tmp 1 rfl) weakHd) weakTNAn) (weakAnM (by omega))) (.cons (.tmp 2 rfl) (.nil)))))) ?_
        refine .cons (.plain rfl (ok_alloc7s)) ?_
        exact .nil
      clear H42 a42 w42 B42
      intro a43 w43 B43 H43
      simp only [List.cons_append, List.nil_append] at H43
      refine ops_one ?_
      refine store_op (l' := [(57, .val (A7v m35 (ansL (val 4294967296 xa) (val 4294967296 xb) n))), (13, .box 43 7 (A7v m35 (ansL (val 4294967296 xa) (val 4294967296 xb) n))), (11, .val (Lit (.int .i64 0))), (10, .box 43 7 (A7s)), (9, .box 42 15 (IsBook w0.heap.size (fun _ => True) m35 m35 ([]) 0)), (935, .val (Sz m35)), (8, .val (IsHd g33 (IsTN nb xb))), (931, .val (Sz m31)), (7, .val (IsHd g29 (IsTN na xa))), (927, .val (Sz m27)), (6, .val (IsB false)), (0, .val (IsAb w0.heap.size na xa)), (1, .val (IsAb w0.heap.size nb xb)), (2, .val (Lit (.int .u8 n))), (114, .val (Sz lo))]) 1 H43 rfl tyA7 rfl (.tmp 0 rfl) shape_7s shape_7v rfl rfl ?_
      clear H43 w43
      intro w44 H44
      refine ops_done ?_
      refine then_normal ?_
      refine wp_seq ?_
      refine wp_seq ?_
      obtain ⟨gs45, hgs45, H45⟩ := St.name7 H44 1 rfl (l' := fun gs45 => [(57, .val (A7v m35 (ansL (val 4294967296 xa) (val 4294967296 xb) n))), (13, .box 43 7 (A7 gs45 (ansL (val 4294967296 xa) (val 4294967296 xb) n))), (11, .val (Lit (.int .i64 0))), (10, .box 43 7 (A7s)), (9, .box 42 15 (IsBook w0.heap.size (fun _ => True) m35 m35 ([]) 0)), (935, .val (Sz m35)), (8, .val (IsHd g33 (IsTN nb xb))), (931, .val (Sz m31)), (7, .val (IsHd g29 (IsTN na xa))), (927, .val (Sz m27)), (6, .val (IsB false)), (0, .val (IsAb w0.heap.size na xa)), (1, .val (IsAb w0.heap.size nb xb)), (2, .val (Lit (.int .u8 n))), (114, .val (Sz lo))]) (fun _ => rfl)
      clear H44
      replace H45 : St 114 w0 B0 a43 w44 B43 [(57, .val (A7v m35 (ansL (val 4294967296 xa) (val 4294967296 xb) n))), (13, .box 43 7 (A7 gs45 (ansL (val 4294967296 xa) (val 4294967296 xb) n))), (11, .val (Lit (.int .i64 0))), (10, .box 43 7 (A7s)), (9, .box 42 15 (IsBook w0.heap.size (fun _ => True) m35 m35 ([]) 0)), (935, .val (Sz m35)), (8, .val (IsHd g33 (IsTN nb xb))), (931, .val (Sz m31)), (7, .val (IsHd g29 (IsTN na xa))), (927, .val (Sz m27)), (6, .val (IsB false)), (0, .val (IsAb w0.heap.size na xa)), (1, .val (IsAb w0.heap.size nb xb)), (2, .val (Lit (.int .u8 n))), (114, .val (Sz lo))] [13, 10, 9] := H45
      have hz46 : m35 ≤ w44.heap.size := H45.fc.get 5 rfl
      obtain ⟨m47, hm47, hw47, hL47, H47⟩ := St.mark H45 947
      clear H45
      clear hL47
      replace hz46 : m35 ≤ m47 := Nat.le_trans hz46 hw47
      replace hgs45 := hgs45.mono hw47
      clear hw47
      refine flow_region (dsts := [some 58, some 59]) (refs := [[.pre 3], [.res 0]]) (outs := [.res 1, .pre 0, .pre 2, .pre 3, .pre 4, .pre 5, .pre 6, .pre 7, .pre 8, .pre 9, .pre 10, .pre 11, .pre 12, .pre 13, .pre 14, .pre 15]) (als := [false, false]) (posts := [.val (Lit (.int .i64 0)), .val (IsB true)])
        (out := [(59, .val (IsB true)), (947, .val (Sz m47)), (13, .box 43 7 (A7 gs45 (ansL (val 4294967296 xa) (val 4294967296 xb) n))), (11, .val (Lit (.int .i64 0))), (10, .box 43 7 (A7s)), (9, .box 42 15 (IsBook w0.heap.size (fun _ => True) m35 m35 ([]) 0)), (935, .val (Sz m35)), (8, .val (IsHd g33 (IsTN nb xb))), (931, .val (Sz m31)), (7, .val (IsHd g29 (IsTN na xa))), (927, .val (Sz m27)), (6, .val (IsB false)), (0, .val (IsAb w0.heap.size na xa)), (1, .val (IsAb w0.heap.size nb xb)), (2, .val (Lit (.int .u8 n))), (114, .val (Sz lo))]) (nb := []) H47 2 [] rfl (by kernel_rfl) rfl rfl ?_ ?_
      · refine .cons (.plain rfl (ok_move (.tmp 0 rfl))) ?_
        refine .cons (.plain rfl (ok_cmp (b := true) (.tmp 0 rfl) (.lit) (by decide))) ?_
        exact .nil
      clear H47 a43 w44 B43
      intro a48 w48 B48 H48
      refine ops_done ?_
      refine then_normal ?_
      refine f_condT H48 (.tmp 0 rfl) ?_
      refine wp_seq ?_
      have H49 := St.setwB H48 4 (D' := A7e m47 (ansL (val 4294967296 xa) (val 4294967296 xb) n) 0) rfl (fun v h => a7e_zero v h) (l' := [(59, .val (IsB true)), (947, .val (Sz m47)), (13, .box 43 7 (A7 gs45 (ansL (val 4294967296 xa) (val 4294967296 xb) n))), (11, .val (Lit (.int .i64 0))), (10, .box 43 7 (A7e m47 (ansL (val 4294967296 xa) (val 4294967296 xb) n) 0)), (9, .box 42 15 (IsBook w0.heap.size (fun _ => True) m35 m35 ([]) 0)), (935, .val (Sz m35)), (8, .val (IsHd g33 (IsTN nb xb))), (931, .val (Sz m31)), (7, .val (IsHd g29 (IsTN na xa))), (927, .val (Sz m27)), (6, .val (IsB false)), (0, .val (IsAb w0.heap.size na xa)), (1, .val (IsAb w0.heap.size nb xb)), (2, .val (Lit (.int .u8 n))), (114, .val (Sz lo))]) rfl
      clear H48
      refine flow_region (dsts := [some 14]) (refs := [[]]) (outs := [.res 0, .pre 1, .pre 2, .pre 3, .pre 4, .pre 5, .pre 6, .pre 7, .pre 8, .pre 9, .pre 10, .pre 11, .pre 12, .pre 13, .pre 14, .pre 15]) (als := [false]) (posts := [.val (Lit (.int .i64 0))])
        (out := [(14, .val (Lit (.int .i64 0))), (947, .val (Sz m47)), (13, .box 43 7 (A7 gs45 (ansL (val 4294967296 xa) (val 4294967296 xb) n))), (11, .val (Lit (.int .i64 0))), (10, .box 43 7 (A7e m47 (ansL (val 4294967296 xa) (val 4294967296 xb) n) 0)), (9, .box 42 15 (IsBook w0.heap.size (fun _ => True) m35 m35 ([]) 0)), (935, .val (Sz m35)), (8, .val (IsHd g33 (IsTN nb xb))), (931, .val (Sz m31)), (7, .val (IsHd g29 (IsTN na xa))), (927, .val (Sz m27)), (6, .val (IsB false)), (0, .val (IsAb w0.heap.size na xa)), (1, .val (IsAb w0.heap.size nb xb)), (2, .val (Lit (.int .u8 n))), (114, .val (Sz lo))]) (nb := []) H49 1 [] rfl (by kernel_rfl) rfl rfl ?_ ?_
      · refine .cons (.plain rfl (ok_assign (.lit))) ?_
        exact .nil
      clear H49 a48 w48 B48
      intro a50 w50 B50 H50
      refine ops_done ?_
      refine then_normal ?_
      refine wp_block ?_
      refine f_loop (fun (j51 : Int) => [(14, .val (Lit (.int .i64 j51))), (947, .val (Sz m47)), (13, .box 43 7 (A7 gs45 (ansL (val 4294967296 xa) (val 4294967296 xb) n))), (11, .val (Lit (.int .i64 0))), (10, .box 43 7 (A7e m47 (ansL (val 4294967296 xa) (val 4294967296 xb) n) j51.toNat)), (9, .box 42 15 (IsBook w0.heap.size (fun _ => True) m35 m35 ([]) 0)), (935, .val (Sz m35)), (8, .val (IsHd g33 (IsTN nb xb))), (931, .val (Sz m31)), (7, .val (IsHd g29 (IsTN na xa))), (927, .val (Sz m27)), (6, .val (IsB false)), (0, .val (IsAb w0.heap.size na xa)), (1, .val (IsAb w0.heap.size nb xb)), (2, .val (Lit (.int .u8 n))), (114, .val (Sz lo))]) (fun (j51 : Int) => 0 ≤ j51 ∧ j51 ≤ 7) (fun (j51 : Int) => (7 - j51).toNat) (0) (St.pick H50 [0, 1, 2, 3, 4, 5, 6, 7, 8, 9, 10, 11, 12, 13, 14, 15] rfl) (by exact ⟨by omega, by omega⟩) ?_
      clear H50 a50 w50 B50
      rintro j51 a52 w52 B52 hI52 H52
      replace hI52 : 0 ≤ j51 ∧ j51 ≤ 7 := hI52
      replace H52 : St 114 w0 B0 a52 w52 B52 [(14, .val (Lit (.int .i64 j51))), (947, .val (Sz m47)), (13, .box 43 7 (A7 gs45 (ansL (val 4294967296 xa) (val 4294967296 xb) n))), (11, .val (Lit (.int .i64 0))), (10, .box 43 7 (A7e m47 (ansL (val 4294967296 xa) (val 4294967296 xb) n) j51.toNat)), (9, .box 42 15 (IsBook w0.heap.size (fun _ => True) m35 m35 ([]) 0)), (935, .val (Sz m35)), (8, .val (IsHd g33 (IsTN nb xb))), (931, .val (Sz m31)), (7, .val (IsHd g29 (IsTN na xa))), (927, .val (Sz m27)), (6, .val (IsB false)), (0, .val (IsAb w0.heap.size na xa)), (1, .val (IsAb w0.heap.size nb xb)), (2, .val (Lit (.int .u8 n))), (114, .val (Sz lo))] [13, 10, 9] := H52
      refine wp_seq ?_
      refine wp_seq ?_
      refine flow_region (dsts := [some 60, some 61]) (refs := [[.pre 0], [.res 0]]) (outs := [.res 1, .pre 0, .pre 1, .pre 2, .pre 3, .pre 4, .pre 5, .pre 6, .pre 7, .pre 8, .pre 9, .pre 10, .pre 11, .pre 12, .pre 13, .pre 14, .pre 15]) (als := [false, false]) (posts := [.val (Lit (.int .i64 j51)), .val (IsB (decide (j51 < 7)))])
        (out := [(61, .val (IsB (decide (j51 < 7)))), (14, .val (Lit (.int .i64 j51))), (947, .val (Sz m47)), (13, .box 43 7 (A7 gs45 (ansL (val 4294967296 xa) (val 4294967296 xb) n))), (11, .val (Lit (.int .i64 0))), (10, .box 43 7 (A7e m47 (ansL (val 4294967296 xa) (val 4294967296 xb) n) j51.toNat)), (9, .box 42 15 (IsBook w0.heap.size (fun _ => True) m35 m35 ([]) 0)), (935, .val (Sz m35)), (8, .val (IsHd g33 (IsTN nb xb))), (931, .val (Sz m31)), (7, .val (IsHd g29 (IsTN na xa))), (927, .val (Sz m27)), (6, .val (IsB false)), (0, .val (IsAb w0.heap.size na xa)), (1, .val (IsAb w0.heap.size nb xb)), (2, .val (Lit (.int .u8 n))), (114, .val (Sz lo))]) (nb := []) H52 2 [] rfl (by kernel_rfl) rfl rfl ?_ ?_
      · refine .cons (.plain rfl (ok_move (.tmp 0 rfl))) ?_
        refine .cons (.plain rfl (ok_cmp (.tmp 0 rfl) (.lit) rfl)) ?_
        exact .nil
      clear H52 a52 w52 B52
      intro a53 w53 B53 H53
      refine ops_done ?_
      refine then_normal ?_
      refine f_cond H53 (.tmp 0 rfl) ?_ ?_
      · intro hc54
        replace hc54 := of_decide_eq_true hc54
        refine wp_skip ?_
        refine then_normal ?_
        refine wp_seq ?_
        refine wp_block ?_
        refine flow_region (dsts := [some 64, some 65, some 66, some 67, some 68]) (refs := [[.pre 1], [.pre 1], [.pre 3, .res 1], [.res 2], [.res 3, .pre 2]]) (outs := [.res 0, .res 4, .pre 1, .pre 2, .pre 3, .pre 4, .pre 5, .pre 6, .pre 7, .pre 8, .pre 9, .pre 10, .pre 11, .pre 12, .pre 13, .pre 14, .pre 15, .pre 16]) (als := [false, false, false, false, false]) (posts := [.val (Lit (.int .i64 j51)), .val (Lit (.int .i64 j51)), .ptr 43 7 (A7 gs45 (ansL (val 4294967296 xa) (val 4294967296 xb) n)) (j51.toNat), .val (IsHd (List.getD gs45 j51.toNat none) (IsC (List.getD (ansL (val 4294967296 xa) (val 4294967296 xb) n) j51.toNat 0))), .val (IsFr m47 (IsC (List.getD (ansL (val 4294967296 xa) (val 4294967296 xb) n) j51.toNat 0)))])
          (out := [(64, .val (Lit (.int .i64 j51))), (68, .val (IsFr m47 (IsC (List.getD (ansL (val 4294967296 xa) (val 4294967296 xb) n) j51.toNat 0)))), (14, .val (Lit (.int .i64 j51))), (947, .val (Sz m47)), (13, .box 43 7 (A7 gs45 (ansL (val 4294967296 xa) (val 4294967296 xb) n))), (11, .val (Lit (.int .i64 0))), (10, .box 43 7 (A7e m47 (ansL (val 4294967296 xa) (val 4294967296 xb) n) j51.toNat)), (9, .box 42 15 (IsBook w0.heap.size (fun _ => True) m35 m35 ([]) 0)), (935, .val (Sz m35)), (8, .val (IsHd g33 (IsTN nb xb))), (931, .val (Sz m31)), (7, .val (IsHd g29 (IsTN na xa))), (927, .val (Sz m27)), (6, .val (IsB false)), (0, .val (IsAb w0.heap.size na xa)), (1, .val (IsAb w0.heap.size nb xb)), (2, .val (Lit (.int .u8 n))), (114, .val (Sz lo))]) (nb := []) H53 5 [5, 6] rfl (by kernel_rfl) rfl rfl ?_ ?_
        · refine .cons (.plain rfl (ok_move (.tmp 0 rfl))) ?_
          refine .cons (.plain rfl (ok_move (.tmp 0 rfl))) ?_
          refine .cons (.plain rfl (ok_idx7 j51.toNat (by omega) (by omega) (.tmp 0 rfl) (.tmp 1 rfl))) ?_
          refine .cons (.plain rfl (ok_load7 (by omega) (.tmp 0 rfl))) ?_
          refine .cons (.plain rfl (ok_callF 1 (con_twinC (List.getD (ansL (val 4294967296 xa) (val 4294967296 xb) n) j51.toNat 0)) rfl (.cons (.weak (.tmp 0 rfl) weakHd) (.nil)))) ?_
          exact .nil
        clear H53 a53 w53 B53
        intro a55 w55 B55 H55
        refine elem_store (i := 5) (j := 6) (off := j51.toNat) (D' := A7e m47 (ansL (val 4294967296 xa) (val 4294967296 xb) n) (j51.toNat + 1)) (E := IsFr m47 (IsC (List.getD (ansL (val 4294967296 xa) (val 4294967296 xb) n) j51.toNat 0))) (l' := [(64, .val (Lit (.int .i64 j51))), (68, .val (IsFr m47 (IsC (List.getD (ansL (val 4294967296 xa) (val 4294967296 xb) n) j51.toNat 0)))), (14, .val (Lit (.int .i64 j51))), (947, .val (Sz m47)), (13, .box 43 7 (A7 gs45 (ansL (val 4294967296 xa) (val 4294967296 xb) n))), (11, .val (Lit (.int .i64 0))), (10, .box 43 7 (A7e m47 (ansL (val 4294967296 xa) (val 4294967296 xb) n) (j51.toNat + 1))), (9, .box 42 15 (IsBook w0.heap.size (fun _ => True) m35 m35 ([]) 0)), (935, .val (Sz m35)), (8, .val (IsHd g33 (IsTN nb xb))), (931, .val (Sz m31)), (7, .val (IsHd g29 (IsTN na xa))), (927, .val (Sz m27)), (6, .val (IsB false)), (0, .val (IsAb w0.heap.size na xa)), (1, .val (IsAb w0.heap.size nb xb)), (2, .val (Lit (.int .u8 n))), (114, .val (Sz lo))]) 6 1 0 rfl H55 rfl rfl (by kernel_rfl) rfl (by omega) rfl rfl fr_slice shape_7e (by omega) (set_7e (by omega)) (by kernel_rfl) rfl ?_
        clear H55 a55 w55
        intro a56 w56 H56
        obtain ⟨B56, hB56⟩ : ∃ B : Bx, B = B55 := ⟨_, rfl⟩
        rw [← hB56] at H56
        clear hB56 B55
        refine ops_done ?_
        refine block_normal ?_
        refine then_normal ?_
        refine flow_region (dsts := [some 62, some 63]) (refs := [[.pre 2], [.res 0]]) (outs := [.res 1, .pre 2, .pre 3, .pre 4, .pre 5, .pre 6, .pre 7, .pre 8, .pre 9, .pre 10, .pre 11, .pre 12, .pre 13, .pre 14, .pre 15, .pre 16, .pre 17]) (als := [false, false]) (posts := [.val (Lit (.int .i64 j51)), .val (Lit (.int .i64 (j51 + 1)))])
          (out := [(63, .val (Lit (.int .i64 (j51 + 1)))), (14, .val (Lit (.int .i64 j51))), (947, .val (Sz m47)), (13, .box 43 7 (A7 gs45 (ansL (val 4294967296 xa) (val 4294967296 xb) n))), (11, .val (Lit (.int .i64 0))), (10, .box 43 7 (A7e m47 (ansL (val 4294967296 xa) (val 4294967296 xb) n) (j51.toNat + 1))), (9, .box 42 15 (IsBook w0.heap.size (fun _ => True) m35 m35 ([]) 0)), (935, .val (Sz m35)), (8, .val (IsHd g33 (IsTN nb xb))), (931, .val (Sz m31)), (7, .val (IsHd g29 (IsTN na xa))), (927, .val (Sz m27)), (6, .val (IsB false)), (0, .val (IsAb w0.heap.size na xa)), (1, .val (IsAb w0.heap.size nb xb)), (2, .val (Lit (.int .u8 n))), (114, .val (Sz lo))]) (nb := []) H56 2 [2] rfl (by kernel_rfl) rfl rfl ?_ ?_
        · refine .cons (.plain rfl (ok_move (.tmp 0 rfl))) ?_
          refine .cons (.plain rfl (ok_add (r := (j51 + 1)) (.tmp 0 rfl) (.lit) (w_i64 (by omega)))) ?_
          exact .nil
        clear H56 a56 w56 B56
        intro a57 w57 B57 H57
        refine ops_one ?_
        refine tail_op (D := .val (Lit (.int .i64 (j51 + 1)))) (l' := [(14, .val (Lit (.int .i64 (j51 + 1)))), (63, .val (Lit (.int .i64 (j51 + 1)))), (947, .val (Sz m47)), (13, .box 43 7 (A7 gs45 (ansL (val 4294967296 xa) (val 4294967296 xb) n))), (11, .val (Lit (.int .i64 0))), (10, .box 43 7 (A7e m47 (ansL (val 4294967296 xa) (val 4294967296 xb) n) (j51.toNat + 1))), (9, .box 42 15 (IsBook w0.heap.size (fun _ => True) m35 m35 ([]) 0)), (935, .val (Sz m35)), (8, .val (IsHd g33 (IsTN nb xb))), (931, .val (Sz m31)), (7, .val (IsHd g29 (IsTN na xa))), (927, .val (Sz m27)), (6, .val (IsB false)), (0, .val (IsAb w0.heap.size na xa)), (1, .val (IsAb w0.heap.size nb xb)), (2, .val (Lit (.int .u8 n))), (114, .val (Sz lo))]) H57 rfl rfl rfl (.plain rfl (ok_assign (.tmp 0 rfl))) rfl rfl ?_
        clear H57 a57 w57 B57
        intro a58 w58 B58 H58
        refine ops_done ?_
        have H59 := St.setwB H58 5 (D' := A7e m47 (ansL (val 4294967296 xa) (val 4294967296 xb) n) ((j51 + 1).toNat)) rfl (fun v h => by rw [show (j51 + 1).toNat = j51.toNat + 1 by omega]; exact h) (l' := [(14, .val (Lit (.int .i64 (j51 + 1)))), (63, .val (Lit (.int .i64 (j51 + 1)))), (947, .val (Sz m47)), (13, .box 43 7 (A7 gs45 (ansL (val 4294967296 xa) (val 4294967296 xb) n))), (11, .val (Lit (.int .i64 0))), (10, .box 43 7 (A7e m47 (ansL (val 4294967296 xa) (val 4294967296 xb) n) ((j51 + 1).toNat))), (9, .box 42 15 (IsBook w0.heap.size (fun _ => True) m35 m35 ([]) 0)), (935, .val (Sz m35)), (8, .val (IsHd g33 (IsTN nb xb))), (931, .val (Sz m31)), (7, .val (IsHd g29 (IsTN na xa))), (927, .val (Sz m27)), (6, .val (IsB false)), (0, .val (IsAb w0.heap.size na xa)), (1, .val (IsAb w0.heap.size nb xb)), (2, .val (Lit (.int .u8 n))), (114, .val (Sz lo))]) rfl
        clear H58
        exact ⟨j51 + 1, B58, by exact ⟨by omega, by omega⟩, St.pick H59 [0, 2, 3, 4, 5, 6, 7, 8, 9, 10, 11, 12, 13, 14, 15, 16] rfl, by show (7 - (j51 + 1)).toNat < (7 - j51).toNat; omega⟩
      · intro hc54
        replace hc54 := of_decide_eq_false hc54
        refine wp_exit ?_
        refine then_exit ?_
        refine then_exit ?_
        refine block_exit ?_
        refine then_normal ?_
        refine wp_seq ?_
        refine wp_seq ?_
        refine flow_region (dsts := [some 70, some 71]) (refs := [[.pre 4], [.res 0]]) (outs := [.res 1, .pre 1, .pre 2, .pre 3, .pre 4, .pre 5, .pre 6, .pre 7, .pre 8, .pre 9, .pre 10, .pre 11, .pre 12, .pre 13, .pre 14, .pre 15, .pre 16]) (als := [false, false]) (posts := [.val (Lit (.int .i64 0)), .val (IsB false)])
          (out := [(71, .val (IsB false)), (14, .val (Lit (.int .i64 j51))), (947, .val (Sz m47)), (13, .box 43 7 (A7 gs45 (ansL (val 4294967296 xa) (val 4294967296 xb) n))), (11, .val (Lit (.int .i64 0))), (10, .box 43 7 (A7e m47 (ansL (val 4294967296 xa) (val 4294967296 xb) n) j51.toNat)), (9, .box 42 15 (IsBook w0.heap.size (fun _ => True) m35 m35 ([]) 0)), (935, .val (Sz m35)), (8, .val (IsHd g33 (IsTN nb xb))), (931, .val (Sz m31)), (7, .val (IsHd g29 (IsTN na xa))), (927, .val (Sz m27)), (6, .val (IsB false)), (0, .val (IsAb w0.heap.size na xa)), (1, .val (IsAb w0.heap.size nb xb)), (2, .val (Lit (.int .u8 n))), (114, .val (Sz lo))]) (nb := []) H53 2 [] rfl (by kernel_rfl) rfl rfl ?_ ?_
        · refine .cons (.plain rfl (ok_move (.tmp 0 rfl))) ?_
          refine .cons (.plain rfl (ok_cmp (b := false) (.tmp 0 rfl) (.lit) (by decide))) ?_
          exact .nil
        clear H53 a53 w53 B53
        intro a60 w60 B60 H60
        refine ops_done ?_
        refine then_normal ?_
        refine f_condF H60 (.tmp 0 rfl) ?_
        refine wp_skip ?_
        refine then_normal ?_
        refine wp_seq ?_
        refine wp_seq ?_
        refine flow_region (dsts := [some 15]) (refs := [[]]) (outs := [.res 0, .pre 1, .pre 2, .pre 3, .pre 4, .pre 5, .pre 6, .pre 7, .pre 8, .pre 9, .pre 10, .pre 11, .pre 12, .pre 13, .pre 14, .pre 15, .pre 16]) (als := [false]) (posts := [.val (Lit (.int .i64 0))])
          (out := [(15, .val (Lit (.int .i64 0))), (14, .val (Lit (.int .i64 j51))), (947, .val (Sz m47)), (13, .box 43 7 (A7 gs45 (ansL (val 4294967296 xa) (val 4294967296 xb) n))), (11, .val (Lit (.int .i64 0))), (10, .box 43 7 (A7e m47 (ansL (val 4294967296 xa) (val 4294967296 xb) n) j51.toNat)), (9, .box 42 15 (IsBook w0.heap.size (fun _ => True) m35 m35 ([]) 0)), (935, .val (Sz m35)), (8, .val (IsHd g33 (IsTN nb xb))), (931, .val (Sz m31)), (7, .val (IsHd g29 (IsTN na xa))), (927, .val (Sz m27)), (6, .val (IsB false)), (0, .val (IsAb w0.heap.size na xa)), (1, .val (IsAb w0.heap.size nb xb)), (2, .val (Lit (.int .u8 n))), (114, .val (Sz lo))]) (nb := []) H60 1 [] rfl (by kernel_rfl) rfl rfl ?_ ?_
        · refine .cons (.plain rfl (ok_assign (.lit))) ?_
          exact .nil
        clear H60 a60 w60 B60
        intro a61 w61 B61 H61
        refine ops_done ?_
        refine then_normal ?_
        refine wp_block ?_
        have H63 := St.fewerF H61 [0, 1, 2, 3, 4, 5, 6, 7, 8, 9, 10, 11, 12, 13, 14, 15, 16] (l' := [(15, .val (Lit (.int .i64 0))), (14, .val (Lit (.int .i64 j51))), (947, .val (Sz m47)), (13, .box 43 7 (A7 gs45 (ansL (val 4294967296 xa) (val 4294967296 xb) n))), (11, .val (Lit (.int .i64 0))), (10, .box 43 7 (A7e m47 (ansL (val 4294967296 xa) (val 4294967296 xb) n) j51.toNat)), (9, .box 42 15 (IsBook w0.heap.size (fun _ => True) m35 m35 ([]) 0)), (935, .val (Sz m35)), (8, .val (IsHd g33 (IsTN nb xb))), (931, .val (Sz m31)), (7, .val (IsHd g29 (IsTN na xa))), (927, .val (Sz m27)), (6, .val (IsB false)), (0, .val (IsAb w0.heap.size na xa)), (1, .val (IsAb w0.heap.size nb xb)), (2, .val (Lit (.int .u8 n))), (114, .val (Sz lo))]) rfl
        clear H61
        refine f_loop (fun (j62 : Int) => [(15, .val (Lit (.int .i64 j62))), (14, .val (Lit (.int .i64 j51))), (947, .val (Sz m47)), (13, .box 43 7 (A7 gs45 (ansL (val 4294967296 xa) (val 4294967296 xb) n))), (11, .val (Lit (.int .i64 0))), (10, .box 43 7 (A7e m47 (ansL (val 4294967296 xa) (val 4294967296 xb) n) j51.toNat)), (9, .box 42 15 (IsBook w0.heap.size (fun _ => True) m35 m35 (List.reverse (List.take j62.toNat gs45)) (0 + j62.toNat))), (935, .val (Sz m35)), (8, .val (IsHd g33 (IsTN nb xb))), (931, .val (Sz m31)), (7, .val (IsHd g29 (IsTN na xa))), (927, .val (Sz m27)), (0, .val (IsAb w0.heap.size na xa)), (1, .val (IsAb w0.heap.size nb xb)), (2, .val (Lit (.int .u8 n))), (114, .val (Sz lo))]) (fun (j62 : Int) => 0 ≤ j62 ∧ j62 ≤ 7) (fun (j62 : Int) => (7 - j62).toNat) (0) (St.pick H63 [0, 1, 2, 3, 4, 5, 6, 7, 8, 9, 10, 11, 13, 14, 15, 16] rfl) (by exact ⟨by omega, by omega⟩) ?_
        clear H63 a61 w61 B61
        rintro j62 a64 w64 B64 hI64 H64
        replace hI64 : 0 ≤ j62 ∧ j62 ≤ 7 := hI64
        replace H64 : St 114 w0 B0 a64 w64 B64 [(15, .val (Lit (.int .i64 j62))), (14, .val (Lit (.int .i64 j51))), (947, .val (Sz m47)), (13, .box 43 7 (A7 gs45 (ansL (val 4294967296 xa) (val 4294967296 xb) n))), (11, .val (Lit (.int .i64 0))), (10, .box 43 7 (A7e m47 (ansL (val 4294967296 xa) (val 4294967296 xb) n) j51.toNat)), (9, .box 42 15 (IsBook w0.heap.size (fun _ => True) m35 m35 (List.reverse (List.take j62.toNat gs45)) (0 + j62.toNat))), (935, .val (Sz m35)), (8, .val (IsHd g33 (IsTN nb xb))), (931, .val (Sz m31)), (7, .val (IsHd g29 (IsTN na xa))), (927, .val (Sz m27)), (0, .val (IsAb w0.heap.size na xa)), (1, .val (IsAb w0.heap.size nb xb)), (2, .val (Lit (.int .u8 n))), (114, .val (Sz lo))] [13, 10, 9] := H64
        refine wp_seq ?_
        refine wp_seq ?_
        refine flow_region (dsts := [some 78, some 79]) (refs := [[.pre 0], [.res 0]]) (outs := [.res 1, .pre 0, .pre 1, .pre 2, .pre 3, .pre 4, .pre 5, .pre 6, .pre 7, .pre 8, .pre 9, .pre 10, .pre 11, .pre 12, .pre 13, .pre 14, .pre 15]) (als := [false, false]) (posts := [.val (Lit (.int .i64 j62)), .val (IsB (decide (j62 < 7)))])
          (out := [(79, .val (IsB (decide (j62 < 7)))), (15, .val (Lit (.int .i64 j62))), (14, .val (Lit (.int .i64 j51))), (947, .val (Sz m47)), (13, .box 43 7 (A7 gs45 (ansL (val 4294967296 xa) (val 4294967296 xb) n))), (11, .val (Lit (.int .i64 0))), (10, .box 43 7 (A7e m47 (ansL (val 4294967296 xa) (val 4294967296 xb) n) j51.toNat)), (9, .box 42 15 (IsBook w0.heap.size (fun _ => True) m35 m35 (List.reverse (List.take j62.toNat gs45)) (0 + j62.toNat))), (935, .val (Sz m35)), (8, .val (IsHd g33 (IsTN nb xb))), (931, .val (Sz m31)), (7, .val (IsHd g29 (IsTN na xa))), (927, .val (Sz m27)), (0, .val (IsAb w0.heap.size na xa)), (1, .val (IsAb w0.heap.size nb xb)), (2, .val (Lit (.int .u8 n))), (114, .val (Sz lo))]) (nb := []) H64 2 [] rfl (by kernel_rfl) rfl rfl ?_ ?_
        · refine .cons (.plain rfl (ok_move (.tmp 0 rfl))) ?_
          refine .cons (.plain rfl (ok_cmp (.tmp 0 rfl) (.lit) rfl)) ?_
          exact .nil
        clear H64 a64 w64 B64
        intro a65 w65 B65 H65
        refine ops_done ?_
        refine then_normal ?_
        refine f_cond H65 (.tmp 0 rfl) ?_ ?_
        · intro hc66
          replace hc66 := of_decide_eq_true hc66
          refine wp_skip ?_
          refine then_normal ?_
          refine wp_seq ?_
          refine wp_block ?_
          refine wp_seq ?_
          refine wp_seq ?_
          refine flow_drawT (dsts := [some 82, some 83, some 84, some 85, some 86, some 87, some 88, some 89]) (refs := [[.pre 1], [.pre 4, .res 0], [.res 1], [.pre 1], [.pre 6, .res 3], [.res 4], [.res 2, .res 5], [.res 6]]) (outs := [.res 7, .pre 1, .pre 2, .pre 3, .pre 4, .pre 5, .pre 6, .pre 7, .pre 8, .pre 9, .pre 10, .pre 11, .pre 12, .pre 13, .pre 14, .pre 15, .pre 16]) (als := [false, false, false, false, false, false, false, false]) (posts := [.val (Lit (.int .i64 j62)), .ptr 43 7 (A7 gs45 (ansL (val 4294967296 xa) (val 4294967296 xb) n)) (j62.toNat), .val (IsHd (List.getD gs45 j62.toNat none) (IsC (List.getD (ansL (val 4294967296 xa) (val 4294967296 xb) n) j62.toNat 0))), .val (Lit (.int .i64 j62)), .ptr 43 7 (A7e m47 (ansL (val 4294967296 xa) (val 4294967296 xb) n) j51.toNat) (j62.toNat), .val (IsFr m47 (IsC (List.getD (ansL (val 4294967296 xa) (val 4294967296 xb) n) j62.toNat 0))), .val (IsB true), .val (IsB false)])
            (out := [(89, .val (IsB false)), (15, .val (Lit (.int .i64 j62))), (14, .val (Lit (.int .i64 j51))), (947, .val (Sz m47)), (13, .box 43 7 (A7 gs45 (ansL (val 4294967296 xa) (val 4294967296 xb) n))), (11, .val (Lit (.int .i64 0))), (10, .box 43 7 (A7e m47 (ansL (val 4294967296 xa) (val 4294967296 xb) n) j51.toNat)), (9, .box 42 15 (IsBook w0.heap.size (fun _ => True) m35 m35 (List.reverse (List.take j62.toNat gs45)) (0 + j62.toNat))), (935, .val (Sz m35)), (8, .val (IsHd g33 (IsTN nb xb))), (931, .val (Sz m31)), (7, .val (IsHd g29 (IsTN na xa))), (927, .val (Sz m27)), (0, .val (IsAb w0.heap.size na xa)), (1, .val (IsAb w0.heap.size nb xb)), (2, .val (Lit (.int .u8 n))), (114, .val (Sz lo))]) (nb := []) H65 (by kernel_rfl) 8 0 #[true, true, true, true, true, true, true, true] (by kernel_rfl) (by kernel_rfl) rfl rfl ?_ ?_
          · refine .cons (.plain rfl (ok_move (.tmp 0 rfl))) ?_
            refine .cons (.plain rfl (ok_idx7 j62.toNat (by omega) (by omega) (.tmp 0 rfl) (.tmp 1 rfl))) ?_
            refine .cons (.plain rfl (ok_load7 (by omega) (.tmp 0 rfl))) ?_
            refine .cons (.plain rfl (ok_move (.tmp 0 rfl))) ?_
            refine .cons (.plain rfl (ok_idx7 j62.toNat (by omega) (by omega) (.tmp 0 rfl) (.tmp 1 rfl))) ?_
            refine .cons (.plain rfl (ok_load7e (by omega) (by omega) (.tmp 0 rfl))) ?_
            refine .cons (.plain rfl (ok_call (con_sameC (List.getD (ansL (val 4294967296 xa) (val 4294967296 xb) n) j62.toNat 0)) (.cons (.weak (.tmp 0 rfl) weakHd) (.cons (.weak (.tmp 1 rfl) weakFr) (.nil))))) ?_
            refine .cons (.plain rfl (ok_not (b := true) (.tmp 0 rfl))) ?_
            exact .nil
          clear H65 a65 w65 B65
          intro a67 w67 B67 H67
          refine any_done (by kernel_rfl) ?_
          refine then_normal ?_
          refine f_condF H67 (.tmp 0 rfl) ?_
          refine wp_skip ?_
          refine then_normal ?_
          refine flow_region (dsts := [some 90, some 91, some 92]) (refs := [[.pre 1], [.pre 4, .res 0], [.res 1]]) (outs := [.res 2, .pre 1, .pre 2, .pre 3, .pre 4, .pre 5, .pre 6, .pre 7, .pre 8, .pre 9, .pre 10, .pre 11, .pre 12, .pre 13, .pre 14, .pre 15, .pre 16]) (als := [false, false, false]) (posts := [.val (Lit (.int .i64 j62)), .ptr 43 7 (A7 gs45 (ansL (val 4294967296 xa) (val 4294967296 xb) n)) (j62.toNat), .val (IsHd (List.getD gs45 j62.toNat none) (IsC (List.getD (ansL (val 4294967296 xa) (val 4294967296 xb) n) j62.toNat 0)))])
            (out := [(92, .val (IsHd (List.getD gs45 j62.toNat none) (IsC (List.getD (ansL (val 4294967296 xa) (val 4294967296 xb) n) j62.toNat 0)))), (15, .val (Lit (.int .i64 j62))), (14, .val (Lit (.int .i64 j51))), (947, .val (Sz m47)), (13, .box 43 7 (A7 gs45 (ansL (val 4294967296 xa) (val 4294967296 xb) n))), (11, .val (Lit (.int .i64 0))), (10, .box 43 7 (A7e m47 (ansL (val 4294967296 xa) (val 4294967296 xb) n) j51.toNat)), (9, .box 42 15 (IsBook w0.heap.size (fun _ => True) m35 m35 (List.reverse (List.take j62.toNat gs45)) (0 + j62.toNat))), (935, .val (Sz m35)), (8, .val (IsHd g33 (IsTN nb xb))), (931, .val (Sz m31)), (7, .val (IsHd g29 (IsTN na xa))), (927, .val (Sz m27)), (0, .val (IsAb w0.heap.size na xa)), (1, .val (IsAb w0.heap.size nb xb)), (2, .val (Lit (.int .u8 n))), (114, .val (Sz lo))]) (nb := []) H67 3 [3] rfl (by kernel_rfl) rfl rfl ?_ ?_
          · refine .cons (.plain rfl (ok_move (.tmp 0 rfl))) ?_
            refine .cons (.plain rfl (ok_idx7 j62.toNat (by omega) (by omega) (.tmp 0 rfl) (.tmp 1 rfl))) ?_
            refine .cons (.plain rfl (ok_load7 (by omega) (.tmp 0 rfl))) ?_
            exact .nil
          clear H67 a67 w67 B67
          intro a68 w68 B68 H68
          refine ops_one ?_
          have hk69 : ∀ b, (List.getD gs45 j62.toNat none) = some b → w0.heap.size ≤ b ∧ ¬ (m35 ≤ b ∧ b < m35) ∧ some b ∉ (List.reverse (List.take j62.toNat gs45)) := fun b hb => ⟨by have := hgs45.lo _ b hb; omega, fun hx => by have := hgs45.lo _ b hb; omega, hgs45.notin (by omega) hb⟩
          refine keep_op (cnt := 0 + j62.toNat) (ks := [(92, .val (IsHd (List.getD gs45 j62.toNat none) (IsC (List.getD (ansL (val 4294967296 xa) (val 4294967296 xb) n) j62.toNat 0)))), (15, .val (Lit (.int .i64 j62))), (14, .val (Lit (.int .i64 j51))), (947, .val (Sz m47)), (13, .box 43 7 (A7 gs45 (ansL (val 4294967296 xa) (val 4294967296 xb) n))), (11, .val (Lit (.int .i64 0))), (10, .box 43 7 (A7e m47 (ansL (val 4294967296 xa) (val 4294967296 xb) n) j51.toNat)), (935, .val (Sz m35)), (8, .val (IsHd g33 (IsTN nb xb))), (931, .val (Sz m31)), (7, .val (IsHd g29 (IsTN na xa))), (927, .val (Sz m27)), (0, .val (IsAb w0.heap.size na xa)), (1, .val (IsAb w0.heap.size nb xb)), (2, .val (Lit (.int .u8 n))), (114, .val (Sz lo))]) (l' := [(9, .box 42 15 (IsBook w0.heap.size (fun _ => True) m35 m35 ((List.getD gs45 j62.toNat none) :: (List.reverse (List.take j62.toNat gs45))) (0 + j62.toNat + 1))), (92, .val (IsHd (List.getD gs45 j62.toNat none) (IsC (List.getD (ansL (val 4294967296 xa) (val 4294967296 xb) n) j62.toNat 0)))), (15, .val (Lit (.int .i64 j62))), (14, .val (Lit (.int .i64 j51))), (947, .val (Sz m47)), (13, .box 43 7 (A7 gs45 (ansL (val 4294967296 xa) (val 4294967296 xb) n))), (11, .val (Lit (.int .i64 0))), (10, .box 43 7 (A7e m47 (ansL (val 4294967296 xa) (val 4294967296 xb) n) j51.toNat)), (935, .val (Sz m35)), (8, .val (IsHd g33 (IsTN nb xb))), (931, .val (Sz m31)), (7, .val (IsHd g29 (IsTN na xa))), (927, .val (Sz m27)), (0, .val (IsAb w0.heap.size na xa)), (1, .val (IsAb w0.heap.size nb xb)), (2, .val (Lit (.int .u8 n))), (114, .val (Sz lo))]) 7 [0, 1, 2, 3, 4, 5, 6, 8, 9, 10, 11, 12, 13, 14, 15, 16] H68 rfl (fun _ _ => by go_simp) keep_nat rfl (rfl) (.tmp 0 rfl) (by omega) (fun _ _ => trivial) hk69 rfl (by kernel_rfl) (.cons (keptB_hd loc_C) (.cons (keptB_lit) (.cons (keptB_lit) (.cons (keptB_sz) (.cons (keptB_box (by decide) keptB_7) (.cons (keptB_lit) (.cons (keptB_box (by decide) keptB_7e) (.cons (keptB_sz) (.cons (keptB_hd loc_TN) (.cons (keptB_sz) (.cons (keptB_hd loc_TN) (.cons (keptB_sz) (.cons (keptB_ab (Nat.le_refl _)) (.cons (keptB_ab (Nat.le_refl _)) (.cons (keptB_lit) (.cons (keptB_sz) (.nil))))))))))))))))) (by decide) rfl ?_
          clear H68 hk69 a68 w68 B68
          intro a69 w69 B69 H69
          refine ops_done ?_
          refine block_normal ?_
          refine then_normal ?_
          refine flow_region (dsts := [some 80, some 81]) (refs := [[.pre 2], [.res 0]]) (outs := [.res 1, .pre 0, .pre 2, .pre 3, .pre 4, .pre 5, .pre 6, .pre 7, .pre 8, .pre 9, .pre 10, .pre 11, .pre 12, .pre 13, .pre 14, .pre 15, .pre 16]) (als := [false, false]) (posts := [.val (Lit (.int .i64 j62)), .val (Lit (.int .i64 (j62 + 1)))])
            (out := [(81, .val (Lit (.int .i64 (j62 + 1)))), (9, .box 42 15 (IsBook w0.heap.size (fun _ => True) m35 m35 ((List.getD gs45 j62.toNat none) :: (List.reverse (List.take j62.toNat gs45))) (0 + j62.toNat + 1))), (15, .val (Lit (.int .i64 j62))), (14, .val (Lit (.int .i64 j51))), (947, .val (Sz m47)), (13, .box 43 7 (A7 gs45 (ansL (val 4294967296 xa) (val 4294967296 xb) n))), (11, .val (Lit (.int .i64 0))), (10, .box 43 7 (A7e m47 (ansL (val 4294967296 xa) (val 4294967296 xb) n) j51.toNat)), (935, .val (Sz m35)), (8, .val (IsHd g33 (IsTN nb xb))), (931, .val (Sz m31)), (7, .val (IsHd g29 (IsTN na xa))), (927, .val (Sz m27)), (0, .val (IsAb w0.heap.size na xa)), (1, .val (IsAb w0.heap.size nb xb)), (2, .val (Lit (.int .u8 n))), (114, .val (Sz lo))]) (nb := []) H69 2 [2] rfl (by kernel_rfl) rfl rfl ?_ ?_
          · refine .cons (.plain rfl (ok_move (.tmp 0 rfl))) ?_
            refine .cons (.plain rfl (ok_add (r := (j62 + 1)) (.tmp 0 rfl) (.lit) (w_i64 (by omega)))) ?_
            exact .nil
          clear H69 a69 w69 B69
          intro a70 w70 B70 H70
          refine ops_one ?_
          refine tail_op (D := .val (Lit (.int .i64 (j62 + 1)))) (l' := [(15, .val (Lit (.int .i64 (j62 + 1)))), (81, .val (Lit (.int .i64 (j62 + 1)))), (9, .box 42 15 (IsBook w0.heap.size (fun _ => True) m35 m35 ((List.getD gs45 j62.toNat none) :: (List.reverse (List.take j62.toNat gs45))) (0 + j62.toNat + 1))), (14, .val (Lit (.int .i64 j51))), (947, .val (Sz m47)), (13, .box 43 7 (A7 gs45 (ansL (val 4294967296 xa) (val 4294967296 xb) n))), (11, .val (Lit (.int .i64 0))), (10, .box 43 7 (A7e m47 (ansL (val 4294967296 xa) (val 4294967296 xb) n) j51.toNat)), (935, .val (Sz m35)), (8, .val (IsHd g33 (IsTN nb xb))), (931, .val (Sz m31)), (7, .val (IsHd g29 (IsTN na xa))), (927, .val (Sz m27)), (0, .val (IsAb w0.heap.size na xa)), (1, .val (IsAb w0.heap.size nb xb)), (2, .val (Lit (.int .u8 n))), (114, .val (Sz lo))]) H70 rfl rfl rfl (.plain rfl (ok_assign (.tmp 0 rfl))) rfl rfl ?_
          clear H70 a70 w70 B70
          intro a71 w71 B71 H71
          refine ops_done ?_
          have H72 := St.setwB H71 2 (D' := IsBook w0.heap.size (fun _ => True) m35 m35 (List.reverse (List.take (j62 + 1).toNat gs45)) (0 + (j62 + 1).toNat)) rfl (fun v h => book_cnt (by omega) (by rw [show (j62 + 1).toNat = j62.toNat + 1 by omega]; exact take_next _ _ (by rw [hgs45.len]; omega)) v h) (l' := [(15, .val (Lit (.int .i64 (j62 + 1)))), (81, .val (Lit (.int .i64 (j62 + 1)))), (9, .box 42 15 (IsBook w0.heap.size (fun _ => True) m35 m35 (List.reverse (List.take (j62 + 1).toNat gs45)) (0 + (j62 + 1).toNat))), (14, .val (Lit (.int .i64 j51))), (947, .val (Sz m47)), (13, .box 43 7 (A7 gs45 (ansL (val 4294967296 xa) (val 4294967296 xb) n))), (11, .val (Lit (.int .i64 0))), (10, .box 43 7 (A7e m47 (ansL (val 4294967296 xa) (val 4294967296 xb) n) j51.toNat)), (935, .val (Sz m35)), (8, .val (IsHd g33 (IsTN nb xb))), (931, .val (Sz m31)), (7, .val (IsHd g29 (IsTN na xa))), (927, .val (Sz m27)), (0, .val (IsAb w0.heap.size na xa)), (1, .val (IsAb w0.heap.size nb xb)), (2, .val (Lit (.int .u8 n))), (114, .val (Sz lo))]) rfl
          clear H71
          exact ⟨j62 + 1, B71, by exact ⟨by omega, by omega⟩, St.pick H72 [0, 3, 4, 5, 6, 7, 2, 8, 9, 10, 11, 12, 13, 14, 15, 16] rfl, by show (7 - (j62 + 1)).toNat < (7 - j62).toNat; omega⟩
        · intro hc66
          replace hc66 := of_decide_eq_false hc66
          refine wp_exit ?_
          refine then_exit ?_
          refine then_exit ?_
          refine block_exit ?_
          refine then_normal ?_
          refine wp_seq ?_
          have hz73 : m47 ≤ w65.heap.size := H65.fc.get 3 rfl
          obtain ⟨m74, hm74, hw74, hL74, H74⟩ := St.mark H65 974
          clear H65
          clear hL74
          replace hz73 : m47 ≤ m74 := Nat.le_trans hz73 hw74
          have H75 := St.rebook H74 8 rfl hw74 (by intro b hb; have := hgs45.ex hb; omega) (l' := [(974, .val (Sz m74)), (79, .val (IsB (decide (j62 < 7)))), (15, .val (Lit (.int .i64 j62))), (14, .val (Lit (.int .i64 j51))), (947, .val (Sz m47)), (13, .box 43 7 (A7 gs45 (ansL (val 4294967296 xa) (val 4294967296 xb) n))), (11, .val (Lit (.int .i64 0))), (10, .box 43 7 (A7e m47 (ansL (val 4294967296 xa) (val 4294967296 xb) n) j51.toNat)), (9, .box 42 15 (IsBook w0.heap.size (fun _ => True) m35 m74 ([]) (0 + j62.toNat))), (935, .val (Sz m35)), (8, .val (IsHd g33 (IsTN nb xb))), (931, .val (Sz m31)), (7, .val (IsHd g29 (IsTN na xa))), (927, .val (Sz m27)), (0, .val (IsAb w0.heap.size na xa)), (1, .val (IsAb w0.heap.size nb xb)), (2, .val (Lit (.int .u8 n))), (114, .val (Sz lo))]) rfl
          clear H74 hw74
          have H76 := St.setwB H75 8 (D' := IsBook w0.heap.size (fun _ => True) m35 m74 ([]) 7) rfl (fun v h => book_cnt (by omega) rfl v h) (l' := [(974, .val (Sz m74)), (79, .val (IsB (decide (j62 < 7)))), (15, .val (Lit (.int .i64 j62))), (14, .val (Lit (.int .i64 j51))), (947, .val (Sz m47)), (13, .box 43 7 (A7 gs45 (ansL (val 4294967296 xa) (val 4294967296 xb) n))), (11, .val (Lit (.int .i64 0))), (10, .box 43 7 (A7e m47 (ansL (val 4294967296 xa) (val 4294967296 xb) n) j51.toNat)), (9, .box 42 15 (IsBook w0.heap.size (fun _ => True) m35 m74 ([]) 7)), (935, .val (Sz m35)), (8, .val (IsHd g33 (IsTN nb xb))), (931, .val (Sz m31)), (7, .val (IsHd g29 (IsTN na xa))), (927, .val (Sz m27)), (0, .val (IsAb w0.heap.size na xa)), (1, .val (IsAb w0.heap.size nb xb)), (2, .val (Lit (.int .u8 n))), (114, .val (Sz lo))]) rfl
          clear H75
          refine flow_region (dsts := [some 94, some 95]) (refs := [[.pre 6], [.res 0]]) (outs := [.res 1, .pre 0, .pre 2, .pre 3, .pre 4, .pre 5, .pre 6, .pre 7, .pre 8, .pre 9, .pre 10, .pre 11, .pre 12, .pre 13, .pre 14, .pre 15, .pre 16, .pre 17]) (als := [false, false]) (posts := [.val (Lit (.int .i64 0)), .val (IsB false)])
            (out := [(95, .val (IsB false)), (974, .val (Sz m74)), (15, .val (Lit (.int .i64 j62))), (14, .val (Lit (.int .i64 j51))), (947, .val (Sz m47)), (13, .box 43 7 (A7 gs45 (ansL (val 4294967296 xa) (val 4294967296 xb) n))), (11, .val (Lit (.int .i64 0))), (10, .box 43 7 (A7e m47 (ansL (val 4294967296 xa) (val 4294967296 xb) n) j51.toNat)), (9, .box 42 15 (IsBook w0.heap.size (fun _ => True) m35 m74 ([]) 7)), (935, .val (Sz m35)), (8, .val (IsHd g33 (IsTN nb xb))), (931, .val (Sz m31)), (7, .val (IsHd g29 (IsTN na xa))), (927, .val (Sz m27)), (0, .val (IsAb w0.heap.size na xa)), (1, .val (IsAb w0.heap.size nb xb)), (2, .val (Lit (.int .u8 n))), (114, .val (Sz lo))]) (nb := []) H76 2 [] rfl (by kernel_rfl) rfl rfl ?_ ?_
          · refine .cons (.plain rfl (ok_move (.tmp 0 rfl))) ?_
            refine .cons (.plain rfl (ok_cmp (b := false) (.tmp 0 rfl) (.lit) (by decide))) ?_
            exact .nil
          clear H76 a65 w65 B65
          intro a77 w77 B77 H77
          refine ops_done ?_
          refine then_normal ?_
          refine f_condF H77 (.tmp 0 rfl) ?_
          refine wp_skip ?_
          refine block_normal ?_
          refine then_normal ?_
          refine flow_region (dsts := [some 38, some 39]) (refs := [[.pre 6], [.res 0]]) (outs := [.res 1, .pre 1, .pre 2, .pre 3, .pre 4, .pre 5, .pre 6, .pre 7, .pre 8, .pre 9, .pre 10, .pre 11, .pre 12, .pre 13, .pre 14, .pre 15, .pre 16, .pre 17]) (als := [false, false]) (posts := [.val (Lit (.int .i64 0)), .val (Lit (.int .i64 1))])
            (out := [(39, .val (Lit (.int .i64 1))), (974, .val (Sz m74)), (15, .val (Lit (.int .i64 j62))), (14, .val (Lit (.int .i64 j51))), (947, .val (Sz m47)), (13, .box 43 7 (A7 gs45 (ansL (val 4294967296 xa) (val 4294967296 xb) n))), (11, .val (Lit (.int .i64 0))), (10, .box 43 7 (A7e m47 (ansL (val 4294967296 xa) (val 4294967296 xb) n) j51.toNat)), (9, .box 42 15 (IsBook w0.heap.size (fun _ => True) m35 m74 ([]) 7)), (935, .val (Sz m35)), (8, .val (IsHd g33 (IsTN nb xb))), (931, .val (Sz m31)), (7, .val (IsHd g29 (IsTN na xa))), (927, .val (Sz m27)), (0, .val (IsAb w0.heap.size na xa)), (1, .val (IsAb w0.heap.size nb xb)), (2, .val (Lit (.int .u8 n))), (114, .val (Sz lo))]) (nb := []) H77 2 [2] rfl (by kernel_rfl) rfl rfl ?_ ?_
          · refine .cons (.plain rfl (ok_move (.tmp 0 rfl))) ?_
            refine .cons (.plain rfl (ok_add (r := 1) (.tmp 0 rfl) (.lit) (by decide))) ?_
            exact .nil
          clear H77 a77 w77 B77
          intro a78 w78 B78 H78
          refine ops_one ?_
          refine tail_op (D := .val (Lit (.int .i64 1))) (l' := [(11, .val (Lit (.int .i64 1))), (39, .val (Lit (.int .i64 1))), (974, .val (Sz m74)), (15, .val (Lit (.int .i64 j62))), (14, .val (Lit (.int .i64 j51))), (947, .val (Sz m47)), (13, .box 43 7 (A7 gs45 (ansL (val 4294967296 xa) (val 4294967296 xb) n))), (10, .box 43 7 (A7e m47 (ansL (val 4294967296 xa) (val 4294967296 xb) n) j51.toNat)), (9, .box 42 15 (IsBook w0.heap.size (fun _ => True) m35 m74 ([]) 7)), (935, .val (Sz m35)), (8, .val (IsHd g33 (IsTN nb xb))), (931, .val (Sz m31)), (7, .val (IsHd g29 (IsTN na xa))), (927, .val (Sz m27)), (0, .val (IsAb w0.heap.size na xa)), (1, .val (IsAb w0.heap.size nb xb)), (2, .val (Lit (.int .u8 n))), (114, .val (Sz lo))]) H78 rfl rfl rfl (.plain rfl (ok_assign (.tmp 0 rfl))) rfl rfl ?_
          clear H78 a78 w78 B78
          intro a79 w79 B79 H79
          refine ops_done ?_
          refine then_normal ?_
          rw [rounds_succ]
          refine wp_seq ?_
          refine wp_seq ?_
          refine flow_region (dsts := [some 36, some 37]) (refs := [[.pre 0], [.res 0]]) (outs := [.res 1, .pre 0, .pre 1, .pre 2, .pre 3, .pre 4, .pre 5, .pre 6, .pre 7, .pre 8, .pre 9, .pre 10, .pre 11, .pre 12, .pre 13, .pre 14, .pre 15, .pre 16, .pre 17]) (als := [false, false]) (posts := [.val (Lit (.int .i64 1)), .val (IsB true)])
            (out := [(37, .val (IsB true)), (11, .val (Lit (.int .i64 1))), (39, .val (Lit (.int .i64 1))), (974, .val (Sz m74)), (15, .val (Lit (.int .i64 j62))), (14, .val (Lit (.int .i64 j51))), (947, .val (Sz m47)), (13, .box 43 7 (A7 gs45 (ansL (val 4294967296 xa) (val 4294967296 xb) n))), (10, .box 43 7 (A7e m47 (ansL (val 4294967296 xa) (val 4294967296 xb) n) j51.toNat)), (9, .box 42 15 (IsBook w0.heap.size (fun _ => True) m35 m74 ([]) 7)), (935, .val (Sz m35)), (8, .val (IsHd g33 (IsTN nb xb))), (931, .val (Sz m31)), (7, .val (IsHd g29 (IsTN na xa))), (927, .val (Sz m27)), (0, .val (IsAb w0.heap.size na xa)), (1, .val (IsAb w0.heap.size nb xb)), (2, .val (Lit (.int .u8 n))), (114, .val (Sz lo))]) (nb := []) H79 2 [] rfl (by kernel_rfl) rfl rfl ?_ ?_
          · refine .cons (.plain rfl (ok_move (.tmp 0 rfl))) ?_
            refine .cons (.plain rfl (ok_cmp (b := true) (.tmp 0 rfl) (.lit) (by decide))) ?_
            exact .nil
          clear H79 a79 w79 B79
          intro a80 w80 B80 H80
          refine ops_done ?_
          refine then_normal ?_
          refine f_condT H80 (.tmp 0 rfl) ?_
          refine wp_skip ?_
          refine then_normal ?_
          refine wp_seq ?_
          refine wp_block ?_
          refine wp_seq ?_
          refine wp_seq ?_
          refine flow_region (dsts := [some 40, some 41]) (refs := [[.pre 1], [.res 0]]) (outs := [.res 1, .pre 1, .pre 2, .pre 3, .pre 4, .pre 5, .pre 6, .pre 7, .pre 8, .pre 9, .pre 10, .pre 11, .pre 12, .pre 13, .pre 14, .pre 15, .pre 16, .pre 17, .pre 18]) (als := [false, false]) (posts := [.val (Lit (.int .i64 1)), .val (IsB false)])
            (out := [(41, .val (IsB false)), (11, .val (Lit (.int .i64 1))), (39, .val (Lit (.int .i64 1))), (974, .val (Sz m74)), (15, .val (Lit (.int .i64 j62))), (14, .val (Lit (.int .i64 j51))), (947, .val (Sz m47)), (13, .box 43 7 (A7 gs45 (ansL (val 4294967296 xa) (val 4294967296 xb) n))), (10, .box 43 7 (A7e m47 (ansL (val 4294967296 xa) (val 4294967296 xb) n) j51.toNat)), (9, .box 42 15 (IsBook w0.heap.size (fun _ => True) m35 m74 ([]) 7)), (935, .val (Sz m35)), (8, .val (IsHd g33 (IsTN nb xb))), (931, .val (Sz m31)), (7, .val (IsHd g29 (IsTN na xa))), (927, .val (Sz m27)), (0, .val (IsAb w0.heap.size na xa)), (1, .val (IsAb w0.heap.size nb xb)), (2, .val (Lit (.int .u8 n))), (114, .val (Sz lo))]) (nb := []) H80 2 [] rfl (by kernel_rfl) rfl rfl ?_ ?_
          · refine .cons (.plain rfl (ok_move (.tmp 0 rfl))) ?_
            refine .cons (.plain rfl (ok_cmp (b := false) (.tmp 0 rfl) (.lit) (by decide))) ?_
            exact .nil
          clear H80 a80 w80 B80
          intro a81 w81 B81 H81
          refine ops_done ?_
          refine then_normal ?_
          refine f_condF H81 (.tmp 0 rfl) ?_
          refine wp_skip ?_
          refine then_normal ?_
          refine wp_seq ?_
          have H82 := St.fewerN H81 [0, 1, 2, 3, 4, 5, 6, 8, 9, 10, 11, 12, 13, 14, 15, 16, 17, 18] (l' := [(41, .val (IsB false)), (11, .val (Lit (.int .i64 1))), (39, .val (Lit (.int .i64 1))), (974, .val (Sz m74)), (15, .val (Lit (.int .i64 j62))), (14, .val (Lit (.int .i64 j51))), (947, .val (Sz m47)), (10, .box 43 7 (A7e m47 (ansL (val 4294967296 xa) (val 4294967296 xb) n) j51.toNat)), (9, .box 42 15 (IsBook w0.heap.size (fun _ => True) m35 m74 ([]) 7)), (935, .val (Sz m35)), (8, .val (IsHd g33 (IsTN nb xb))), (931, .val (Sz m31)), (7, .val (IsHd g29 (IsTN na xa))), (927, .val (Sz m27)), (0, .val (IsAb w0.heap.size na xa)), (1, .val (IsAb w0.heap.size nb xb)), (2, .val (Lit (.int .u8 n))), (114, .val (Sz lo))]) (bxs' := [10, 9]) rfl rfl
          clear H81
          refine flow_region (dsts := [some 54, some 55, some 56, some 57, some 13]) (refs := [[.pre 12], [.pre 10], [.pre 16], [.res 0, .res 1, .res 2, .pre 3], []]) (outs := [.res 3, .res 4, .pre 1, .pre 2, .pre 3, .pre 4, .pre 5, .pre 6, .pre 7, .pre 8, .pre 9, .pre 10, .pre 11, .pre 12, .pre 13, .pre 14, .pre 15, .pre 16, .pre 17]) (als := [false, false, false, false, true]) (posts := [.val (IsHd g29 (IsTN na xa)), .val (IsHd g33 (IsTN nb xb)), .val (Lit (.int .u8 n)), .val (A7v m74 (ansL (val 4294967296 xa) (val 4294967296 xb) n)), .box 43 7 (A7s)])
            (out := [(57, .val (A7v m74 (ansL (val 4294967296 xa) (val 4294967296 xb) n))), (13, .box 43 7 (A7s)), (11, .val (Lit (.int .i64 1))), (39, .val (Lit (.int .i64 1))), (974, .val (Sz m74)), (15, .val (Lit (.int .i64 j62))), (14, .val (Lit (.int .i64 j51))), (947, .val (Sz m47)), (10, .box 43 7 (A7e m47 (ansL (val 4294967296 xa) (val 4294967296 xb) n) j51.toNat)), (9, .box 42 15 (IsBook w0.heap.size (fun _ => True) m35 m74 ([]) 7)), (935, .val (Sz m35)), (8, .val (IsHd g33 (IsTN nb xb))), (931, .val (Sz m31)), (7, .val (IsHd g29 (IsTN na xa))), (927, .val (Sz m27)), (0, .val (IsAb w0.heap.size na xa)), (1, .val (IsAb w0.heap.size nb xb)), (2, .val (Lit (.int .u8 n))), (114, .val (Sz lo))]) (nb := [13]) H82 5 [5] rfl (by kernel_rfl) rfl rfl ?_ ?_
          · refine .cons (.plain rfl (ok_move (.tmp 0 rfl))) ?_
            refine .cons (.plain rfl (ok_move (.tmp 0 rfl))) ?_
            refine .cons (.plain rfl (ok_move (.tmp 0 rfl))) ?_
            refine .cons (.plain rfl (ok_callF 3 (con_answersF (val 4294967296 xa) (val 4294967296 xb) n (fit_listN la da (by omega)) (fit_listN lb db (by omega)) (by omega)) rfl (.cons (.weak (.weak (.weak (.tmp 0 rfl) weakHd) weakTNAn) (weakAnM (by omega))) (.cons (.weak (.weak (.weak (.tmp 1 rfl) weakHd) weakTNAn) (weakAnM (by omega))) (.cons (.tmp 2 rfl) (.nil)))))) ?_
            refine .cons (.plain rfl (ok_alloc7s)) ?_
            exact .nil
          clear H82 a81 w81 B81
          intro a83 w83 B83 H83
          simp only [List.cons_append, List.nil_append] at H83
          refine ops_one ?_
          refine store_op (l' := [(57, .val (A7v m74 (ansL (val 4294967296 xa) (val 4294967296 xb) n))), (13, .box 43 7 (A7v m74 (ansL (val 4294967296 xa) (val 4294967296 xb) n))), (11, .val (Lit (.int .i64 1))), (39, .val (Lit (.int .i64 1))), (974, .val (Sz m74)), (15, .val (Lit (.int .i64 j62))), (14, .val (Lit (.int .i64 j51))), (947, .val (Sz m47)), (10, .box 43 7 (A7e m47 (ansL (val 4294967296 xa) (val 4294967296 xb) n) j51.toNat)), (9, .box 42 15 (IsBook w0.heap.size (fun _ => True) m35 m74 ([]) 7)), (935, .val (Sz m35)), (8, .val (IsHd g33 (IsTN nb xb))), (931, .val (Sz m31)), (7, .val (IsHd g29 (IsTN na xa))), (927, .val (Sz m27)), (0, .val (IsAb w0.heap.size na xa)), (1, .val (IsAb w0.heap.size nb xb)), (2, .val (Lit (.int .u8 n))), (114, .val (Sz lo))]) 1 H83 rfl tyA7 rfl (.tmp 0 rfl) shape_7s shape_7v rfl rfl ?_
          clear H83 w83
          intro w84 H84
          refine ops_done ?_
          refine then_normal ?_
          refine wp_seq ?_
          refine wp_seq ?_
          obtain ⟨gs85, hgs85, H85⟩ := St.name7 H84 1 rfl (l' := fun gs85 => [(57, .val (A7v m74 (ansL (val 4294967296 xa) (val 4294967296 xb) n))), (13, .box 43 7 (A7 gs85 (ansL (val 4294967296 xa) (val 4294967296 xb) n))), (11, .val (Lit (.int .i64 1))), (39, .val (Lit (.int .i64 1))), (974, .val (Sz m74)), (15, .val (Lit (.int .i64 j62))), (14, .val (Lit (.int .i64 j51))), (947, .val (Sz m47)), (10, .box 43 7 (A7e m47 (ansL (val 4294967296 xa) (val 4294967296 xb) n) j51.toNat)), (9, .box 42 15 (IsBook w0.heap.size (fun _ => True) m35 m74 ([]) 7)), (935, .val (Sz m35)), (8, .val (IsHd g33 (IsTN nb xb))), (931, .val (Sz m31)), (7, .val (IsHd g29 (IsTN na xa))), (927, .val (Sz m27)), (0, .val (IsAb w0.heap.size na xa)), (1, .val (IsAb w0.heap.size nb xb)), (2, .val (Lit (.int .u8 n))), (114, .val (Sz lo))]) (fun _ => rfl)
          clear H84
          replace H85 : St 114 w0 B0 a83 w84 B83 [(57, .val (A7v m74 (ansL (val 4294967296 xa) (val 4294967296 xb) n))), (13, .box 43 7 (A7 gs85 (ansL (val 4294967296 xa) (val 4294967296 xb) n))), (11, .val (Lit (.int .i64 1))), (39, .val (Lit (.int .i64 1))), (974, .val (Sz m74)), (15, .val (Lit (.int .i64 j62))), (14, .val (Lit (.int .i64 j51))), (947, .val (Sz m47)), (10, .box 43 7 (A7e m47 (ansL (val 4294967296 xa) (val 4294967296 xb) n) j51.toNat)), (9, .box 42 15 (IsBook w0.heap.size (fun _ => True) m35 m74 ([]) 7)), (935, .val (Sz m35)), (8, .val (IsHd g33 (IsTN nb xb))), (931, .val (Sz m31)), (7, .val (IsHd g29 (IsTN na xa))), (927, .val (Sz m27)), (0, .val (IsAb w0.heap.size na xa)), (1, .val (IsAb w0.heap.size nb xb)), (2, .val (Lit (.int .u8 n))), (114, .val (Sz lo))] [13, 10, 9] := H85
          have hz86 : m74 ≤ w84.heap.size := H85.fc.get 4 rfl
          obtain ⟨m87, hm87, hw87, hL87, H87⟩ := St.mark H85 987
          clear H85
          clear hL87
          replace hz86 : m74 ≤ m87 := Nat.le_trans hz86 hw87
          replace hgs85 := hgs85.mono hw87
          clear hw87
          refine flow_region (dsts := [some 58, some 59]) (refs := [[.pre 3], [.res 0]]) (outs := [.res 1, .pre 0, .pre 2, .pre 3, .pre 4, .pre 5, .pre 6, .pre 7, .pre 8, .pre 9, .pre 10, .pre 11, .pre 12, .pre 13, .pre 14, .pre 15, .pre 16, .pre 17, .pre 18, .pre 19]) (als := [false, false]) (posts := [.val (Lit (.int .i64 1)), .val (IsB false)])
            (out := [(59, .val (IsB false)), (987, .val (Sz m87)), (13, .box 43 7 (A7 gs85 (ansL (val 4294967296 xa) (val 4294967296 xb) n))), (11, .val (Lit (.int .i64 1))), (39, .val (Lit (.int .i64 1))), (974, .val (Sz m74)), (15, .val (Lit (.int .i64 j62))), (14, .val (Lit (.int .i64 j51))), (947, .val (Sz m47)), (10, .box 43 7 (A7e m47 (ansL (val 4294967296 xa) (val 4294967296 xb) n) j51.toNat)), (9, .box 42 15 (IsBook w0.heap.size (fun _ => True) m35 m74 ([]) 7)), (935, .val (Sz m35)), (8, .val (IsHd g33 (IsTN nb xb))), (931, .val (Sz m31)), (7, .val (IsHd g29 (IsTN na xa))), (927, .val (Sz m27)), (0, .val (IsAb w0.heap.size na xa)), (1, .val (IsAb w0.heap.size nb xb)), (2, .val (Lit (.int .u8 n))), (114, .val (Sz lo))]) (nb := []) H87 2 [] rfl (by kernel_rfl) rfl rfl ?_ ?_
          · refine .cons (.plain rfl (ok_move (.tmp 0 rfl))) ?_
            refine .cons (.plain rfl (ok_cmp (b := false) (.tmp 0 rfl) (.lit) (by decide))) ?_
            exact .nil
          clear H87 a83 w84 B83
          intro a88 w88 B88 H88
          refine ops_done ?_
          refine then_normal ?_
          refine f_condF H88 (.tmp 0 rfl) ?_
          refine wp_skip ?_
          refine then_normal ?_
          refine wp_seq ?_
          refine wp_seq ?_
          refine flow_region (dsts := [some 70, some 71]) (refs := [[.pre 3], [.res 0]]) (outs := [.res 1, .pre 1, .pre 2, .pre 3, .pre 4, .pre 5, .pre 6, .pre 7, .pre 8, .pre 9, .pre 10, .pre 11, .pre 12, .pre 13, .pre 14, .pre 15, .pre 16, .pre 17, .pre 18, .pre 19]) (als := [false, false]) (posts := [.val (Lit (.int .i64 1)), .val (IsB false)])
            (out := [(71, .val (IsB false)), (987, .val (Sz m87)), (13, .box 43 7 (A7 gs85 (ansL (val 4294967296 xa) (val 4294967296 xb) n))), (11, .val (Lit (.int .i64 1))), (39, .val (Lit (.int .i64 1))), (974, .val (Sz m74)), (15, .val (Lit (.int .i64 j62))), (14, .val (Lit (.int .i64 j51))), (947, .val (Sz m47)), (10, .box 43 7 (A7e m47 (ansL (val 4294967296 xa) (val 4294967296 xb) n) j51.toNat)), (9, .box 42 15 (IsBook w0.heap.size (fun _ => True) m35 m74 ([]) 7)), (935, .val (Sz m35)), (8, .val (IsHd g33 (IsTN nb xb))), (931, .val (Sz m31)), (7, .val (IsHd g29 (IsTN na xa))), (927, .val (Sz m27)), (0, .val (IsAb w0.heap.size na xa)), (1, .val (IsAb w0.heap.size nb xb)), (2, .val (Lit (.int .u8 n))), (114, .val (Sz lo))]) (nb := []) H88 2 [] rfl (by kernel_rfl) rfl rfl ?_ ?_
          · refine .cons (.plain rfl (ok_move (.tmp 0 rfl))) ?_
            refine .cons (.plain rfl (ok_cmp (b := false) (.tmp 0 rfl) (.lit) (by decide))) ?_
            exact .nil
          clear H88 a88 w88 B88
          intro a89 w89 B89 H89
          refine ops_done ?_
          refine then_normal ?_
          refine f_condF H89 (.tmp 0 rfl) ?_
          refine wp_skip ?_
          refine then_normal ?_
          refine wp_seq ?_
          refine wp_seq ?_
          refine flow_region (dsts := [some 15]) (refs := [[]]) (outs := [.res 0, .pre 1, .pre 2, .pre 3, .pre 4, .pre 5, .pre 7, .pre 8, .pre 9, .pre 10, .pre 11, .pre 12, .pre 13, .pre 14, .pre 15, .pre 16, .pre 17, .pre 18, .pre 19]) (als := [false]) (posts := [.val (Lit (.int .i64 0))])
            (out := [(15, .val (Lit (.int .i64 0))), (987, .val (Sz m87)), (13, .box 43 7 (A7 gs85 (ansL (val 4294967296 xa) (val 4294967296 xb) n))), (11, .val (Lit (.int .i64 1))), (39, .val (Lit (.int .i64 1))), (974, .val (Sz m74)), (14, .val (Lit (.int .i64 j51))), (947, .val (Sz m47)), (10, .box 43 7 (A7e m47 (ansL (val 4294967296 xa) (val 4294967296 xb) n) j51.toNat)), (9, .box 42 15 (IsBook w0.heap.size (fun _ => True) m35 m74 ([]) 7)), (935, .val (Sz m35)), (8, .val (IsHd g33 (IsTN nb xb))), (931, .val (Sz m31)), (7, .val (IsHd g29 (IsTN na xa))), (927, .val (Sz m27)), (0, .val (IsAb w0.heap.size na xa)), (1, .val (IsAb w0.heap.size nb xb)), (2, .val (Lit (.int .u8 n))), (114, .val (Sz lo))]) (nb := []) H89 1 [] rfl (by kernel_rfl) rfl rfl ?_ ?_
          · refine .cons (.plain rfl (ok_assign (.lit))) ?_
            exact .nil
          clear H89 a89 w89 B89
          intro a90 w90 B90 H90
          refine ops_done ?_
          refine then_normal ?_
          refine wp_block ?_
          have H92 := St.fewerF H90 [0, 1, 2, 3, 4, 5, 6, 7, 8, 9, 10, 11, 12, 13, 14, 15, 16, 17, 18] (l' := [(15, .val (Lit (.int .i64 0))), (987, .val (Sz m87)), (13, .box 43 7 (A7 gs85 (ansL (val 4294967296 xa) (val 4294967296 xb) n))), (11, .val (Lit (.int .i64 1))), (39, .val (Lit (.int .i64 1))), (974, .val (Sz m74)), (14, .val (Lit (.int .i64 j51))), (947, .val (Sz m47)), (10, .box 43 7 (A7e m47 (ansL (val 4294967296 xa) (val 4294967296 xb) n) j51.toNat)), (9, .box 42 15 (IsBook w0.heap.size (fun _ => True) m35 m74 ([]) 7)), (935, .val (Sz m35)), (8, .val (IsHd g33 (IsTN nb xb))), (931, .val (Sz m31)), (7, .val (IsHd g29 (IsTN na xa))), (927, .val (Sz m27)), (0, .val (IsAb w0.heap.size na xa)), (1, .val (IsAb w0.heap.size nb xb)), (2, .val (Lit (.int .u8 n))), (114, .val (Sz lo))]) rfl
          clear H90
          refine f_loop (fun (j91 : Int) => [(15, .val (Lit (.int .i64 j91))), (987, .val (Sz m87)), (13, .box 43 7 (A7 gs85 (ansL (val 4294967296 xa) (val 4294967296 xb) n))), (11, .val (Lit (.int .i64 1))), (39, .val (Lit (.int .i64 1))), (974, .val (Sz m74)), (14, .val (Lit (.int .i64 j51))), (947, .val (Sz m47)), (10, .box 43 7 (A7e m47 (ansL (val 4294967296 xa) (val 4294967296 xb) n) j51.toNat)), (9, .box 42 15 (IsBook w0.heap.size (fun _ => True) m35 m74 (List.reverse (List.take j91.toNat gs85)) (7 + j91.toNat))), (935, .val (Sz m35)), (8, .val (IsHd g33 (IsTN nb xb))), (931, .val (Sz m31)), (7, .val (IsHd g29 (IsTN na xa))), (927, .val (Sz m27)), (0, .val (IsAb w0.heap.size na xa)), (1, .val (IsAb w0.heap.size nb xb)), (2, .val (Lit (.int .u8 n))), (114, .val (Sz lo))]) (fun (j91 : Int) => 0 ≤ j91 ∧ j91 ≤ 7) (fun (j91 : Int) => (7 - j91).toNat) (0) (St.pick H92 [0, 1, 2, 3, 4, 5, 6, 7, 8, 9, 10, 11, 12, 13, 14, 15, 16, 17, 18] rfl) (by exact ⟨by omega, by omega⟩) ?_
          clear H92 a90 w90 B90
          rintro j91 a93 w93 B93 hI93 H93
          replace hI93 : 0 ≤ j91 ∧ j91 ≤ 7 := hI93
          replace H93 : St 114 w0 B0 a93 w93 B93 [(15, .val (Lit (.int .i64 j91))), (987, .val (Sz m87)), (13, .box 43 7 (A7 gs85 (ansL (val 4294967296 xa) (val 4294967296 xb) n))), (11, .val (Lit (.int .i64 1))), (39, .val (Lit (.int .i64 1))), (974, .val (Sz m74)), (14, .val (Lit (.int .i64 j51))), (947, .val (Sz m47)), (10, .box 43 7 (A7e m47 (ansL (val 4294967296 xa) (val 4294967296 xb) n) j51.toNat)), (9, .box 42 15 (IsBook w0.heap.size (fun _ => True) m35 m74 (List.reverse (List.take j91.toNat gs85)) (7 + j91.toNat))), (935, .val (Sz m35)), (8, .val (IsHd g33 (IsTN nb xb))), (931, .val (Sz m31)), (7, .val (IsHd g29 (IsTN na xa))), (927, .val (Sz m27)), (0, .val (IsAb w0.heap.size na xa)), (1, .val (IsAb w0.heap.size nb xb)), (2, .val (Lit (.int .u8 n))), (114, .val (Sz lo))] [13, 10, 9] := H93
          refine wp_seq ?_
          refine wp_seq ?_
          refine flow_region (dsts := [some 78, some 79]) (refs := [[.pre 0], [.res 0]]) (outs := [.res 1, .pre 0, .pre 1, .pre 2, .pre 3, .pre 4, .pre 5, .pre 6, .pre 7, .pre 8, .pre 9, .pre 10, .pre 11, .pre 12, .pre 13, .pre 14, .pre 15, .pre 16, .pre 17, .pre 18]) (als := [false, false]) (posts := [.val (Lit (.int .i64 j91)), .val (IsB (decide (j91 < 7)))])
            (out := [(79, .val (IsB (decide (j91 < 7)))), (15, .val (Lit (.int .i64 j91))), (987, .val (Sz m87)), (13, .box 43 7 (A7 gs85 (ansL (val 4294967296 xa) (val 4294967296 xb) n))), (11, .val (Lit (.int .i64 1))), (39, .val (Lit (.int .i64 1))), (974, .val (Sz m74)), (14, .val (Lit (.int .i64 j51))), (947, .val (Sz m47)), (10, .box 43 7 (A7e m47 (ansL (val 4294967296 xa) (val 4294967296 xb) n) j51.toNat)), (9, .box 42 15 (IsBook w0.heap.size (fun _ => True) m35 m74 (List.reverse (List.take j91.toNat gs85)) (7 + j91.toNat))), (935, .val (Sz m35)), (8, .val (IsHd g33 (IsTN nb xb))), (931, .val (Sz m31)), (7, .val (IsHd g29 (IsTN na xa))), (927, .val (Sz m27)), (0, .val (IsAb w0.heap.size na xa)), (1, .val (IsAb w0.heap.size nb xb)), (2, .val (Lit (.int .u8 n))), (114, .val (Sz lo))]) (nb := []) H93 2 [] rfl (by kernel_rfl) rfl rfl ?_ ?_
          · refine .cons (.plain rfl (ok_move (.tmp 0 rfl))) ?_
            refine .cons (.plain rfl (ok_cmp (.tmp 0 rfl) (.lit) rfl)) ?_
            exact .nil
          clear H93 a93 w93 B93
          intro a94 w94 B94 H94
          refine ops_done ?_
          refine then_normal ?_
          refine f_cond H94 (.tmp 0 rfl) ?_ ?_
          · intro hc95
            replace hc95 := of_decide_eq_true hc95
            refine wp_skip ?_
            refine then_normal ?_
            refine wp_seq ?_
            refine wp_block ?_
            refine wp_seq ?_
            refine wp_seq ?_
            refine flow_drawT (dsts := [some 82, some 83, some 84, some 85, some 86, some 87, some 88, some 89]) (refs := [[.pre 1], [.pre 3, .res 0], [.res 1], [.pre 1], [.pre 9, .res 3], [.res 4], [.res 2, .res 5], [.res 6]]) (outs := [.res 7, .pre 1, .pre 2, .pre 3, .pre 4, .pre 5, .pre 6, .pre 7, .pre 8, .pre 9, .pre 10, .pre 11, .pre 12, .pre 13, .pre 14, .pre 15, .pre 16, .pre 17, .pre 18, .pre 19]) (als := [false, false, false, false, false, false, false, false]) (posts := [.val (Lit (.int .i64 j91)), .ptr 43 7 (A7 gs85 (ansL (val 4294967296 xa) (val 4294967296 xb) n)) (j91.toNat), .val (IsHd (List.getD gs85 j91.toNat none) (IsC (List.getD (ansL (val 4294967296 xa) (val 4294967296 xb) n) j91.toNat 0))), .val (Lit (.int .i64 j91)), .ptr 43 7 (A7e m47 (ansL (val 4294967296 xa) (val 4294967296 xb) n) j51.toNat) (j91.toNat), .val (IsFr m47 (IsC (List.getD (ansL (val 4294967296 xa) (val 4294967296 xb) n) j91.toNat 0))), .val (IsB true), .val (IsB false)])
              (out := [(89, .val (IsB false)), (15, .val (Lit (.int .i64 j91))), (987, .val (Sz m87)), (13, .box 43 7 (A7 gs85 (ansL (val 4294967296 xa) (val 4294967296 xb) n))), (11, .val (Lit (.int .i64 1))), (39, .val (Lit (.int .i64 1))), (974, .val (Sz m74)), (14, .val (Lit (.int .i64 j51))), (947, .val (Sz m47)), (10, .box 43 7 (A7e m47 (ansL (val 4294967296 xa) (val 4294967296 xb) n) j51.toNat)), (9, .box 42 15 (IsBook w0.heap.size (fun _ => True) m35 m74 (List.reverse (List.take j91.toNat gs85)) (7 + j91.toNat))), (935, .val (Sz m35)), (8, .val (IsHd g33 (IsTN nb xb))), (931, .val (Sz m31)), (7, .val (IsHd g29 (IsTN na xa))), (927, .val (Sz m27)), (0, .val (IsAb w0.heap.size na xa)), (1, .val (IsAb w0.heap.size nb xb)), (2, .val (Lit (.int .u8 n))), (114, .val (Sz lo))]) (nb := []) H94 (by kernel_rfl) 8 0 #[true, true, true, true, true, true, true, true] (by kernel_rfl) (by kernel_rfl) rfl rfl ?_ ?_
            · refine .cons (.plain rfl (ok_move (.tmp 0 rfl))) ?_
              refine .cons (.plain rfl (ok_idx7 j91.toNat (by omega) (by omega) (.tmp 0 rfl) (.tmp 1 rfl))) ?_
              refine .cons (.plain rfl (ok_load7 (by omega) (.tmp 0 rfl))) ?_
              refine .cons (.plain rfl (ok_move (.tmp 0 rfl))) ?_
              refine .cons (.plain rfl (ok_idx7 j91.toNat (by omega) (by omega) (.tmp 0 rfl) (.tmp 1 rfl))) ?_
              refine .cons (.plain rfl (ok_load7e (by omega) (by omega) (.tmp 0 rfl))) ?_
              refine .cons (.plain rfl (ok_call (con_sameC (List.getD (ansL (val 4294967296 xa) (val 4294967296 xb) n) j91.toNat 0)) (.cons (.weak (.tmp 0 rfl) weakHd) (.cons (.weak (.tmp 1 rfl) weakFr) (.nil))))) ?_
              refine .cons (.plain rfl (ok_not (b := true) (.tmp 0 rfl))) ?_
              exact .nil
            clear H94 a94 w94 B94
            intro a96 w96 B96 H96
            refine any_done (by kernel_rfl) ?_
            refine then_normal ?_
            refine f_condF H96 (.tmp 0 rfl) ?_
            refine wp_skip ?_
            refine then_normal ?_
            refine flow_region (dsts := [some 90, some 91, some 92]) (refs := [[.pre 1], [.pre 3, .res 0], [.res 1]]) (outs := [.res 2, .pre 1, .pre 2, .pre 3, .pre 4, .pre 5, .pre 6, .pre 7, .pre 8, .pre 9, .pre 10, .pre 11, .pre 12, .pre 13, .pre 14, .pre 15, .pre 16, .pre 17, .pre 18, .pre 19]) (als := [false, false, false]) (posts := [.val (Lit (.int .i64 j91)), .ptr 43 7 (A7 gs85 (ansL (val 4294967296 xa) (val 4294967296 xb) n)) (j91.toNat), .val (IsHd (List.getD gs85 j91.toNat none) (IsC (List.getD (ansL (val 4294967296 xa) (val 4294967296 xb) n) j91.toNat 0)))])
              (out := [(92, .val (IsHd (List.getD gs85 j91.toNat none) (IsC (List.getD (ansL (val 4294967296 xa) (val 4294967296 xb) n) j91.toNat 0)))), (15, .val (Lit (.int .i64 j91))), (987, .val (Sz m87)), (13, .box 43 7 (A7 gs85 (ansL (val 4294967296 xa) (val 4294967296 xb) n))), (11, .val (Lit (.int .i64 1))), (39, .val (Lit (.int .i64 1))), (974, .val (Sz m74)), (14, .val (Lit (.int .i64 j51))), (947, .val (Sz m47)), (10, .box 43 7 (A7e m47 (ansL (val 4294967296 xa) (val 4294967296 xb) n) j51.toNat)), (9, .box 42 15 (IsBook w0.heap.size (fun _ => True) m35 m74 (List.reverse (List.take j91.toNat gs85)) (7 + j91.toNat))), (935, .val (Sz m35)), (8, .val (IsHd g33 (IsTN nb xb))), (931, .val (Sz m31)), (7, .val (IsHd g29 (IsTN na xa))), (927, .val (Sz m27)), (0, .val (IsAb w0.heap.size na xa)), (1, .val (IsAb w0.heap.size nb xb)), (2, .val (Lit (.int .u8 n))), (114, .val (Sz lo))]) (nb := []) H96 3 [3] rfl (by kernel_rfl) rfl rfl ?_ ?_
            · refine .cons (.plain rfl (ok_move (.tmp 0 rfl))) ?_
              refine .cons (.plain rfl (ok_idx7 j91.toNat (by omega) (by omega) (.tmp 0 rfl) (.tmp 1 rfl))) ?_
              refine .cons (.plain rfl (ok_load7 (by omega) (.tmp 0 rfl))) ?_
              exact .nil
            clear H96 a96 w96 B96
            intro a97 w97 B97 H97
            refine ops_one ?_
            have hk98 : ∀ b, (List.getD gs85 j91.toNat none) = some b → w0.heap.size ≤ b ∧ ¬ (m35 ≤ b ∧ b < m74) ∧ some b ∉ (List.reverse (List.take j91.toNat gs85)) := fun b hb => ⟨by have := hgs85.lo _ b hb; omega, fun hx => by have := hgs85.lo _ b hb; omega, hgs85.notin (by omega) hb⟩
            refine keep_op (cnt := 7 + j91.toNat) (ks := [(92, .val (IsHd (List.getD gs85 j91.toNat none) (IsC (List.getD (ansL (val 4294967296 xa) (val 4294967296 xb) n) j91.toNat 0)))), (15, .val (Lit (.int .i64 j91))), (987, .val (Sz m87)), (13, .box 43 7 (A7 gs85 (ansL (val 4294967296 xa) (val 4294967296 xb) n))), (11, .val (Lit (.int .i64 1))), (39, .val (Lit (.int .i64 1))), (974, .val (Sz m74)), (14, .val (Lit (.int .i64 j51))), (947, .val (Sz m47)), (10, .box 43 7 (A7e m47 (ansL (val 4294967296 xa) (val 4294967296 xb) n) j51.toNat)), (935, .val (Sz m35)), (8, .val (IsHd g33 (IsTN nb xb))), (931, .val (Sz m31)), (7, .val (IsHd g29 (IsTN na xa))), (927, .val (Sz m27)), (0, .val (IsAb w0.heap.size na xa)), (1, .val (IsAb w0.heap.size nb xb)), (2, .val (Lit (.int .u8 n))), (114, .val (Sz lo))]) (l' := [(9, .box 42 15 (IsBook w0.heap.size (fun _ => True) m35 m74 ((List.getD gs85 j91.toNat none) :: (List.reverse (List.take j91.toNat gs85))) (7 + j91.toNat + 1))), (92, .val (IsHd (List.getD gs85 j91.toNat none) (IsC (List.getD (ansL (val 4294967296 xa) (val 4294967296 xb) n) j91.toNat 0)))), (15, .val (Lit (.int .i64 j91))), (987, .val (Sz m87)), (13, .box 43 7 (A7 gs85 (ansL (val 4294967296 xa) (val 4294967296 xb) n))), (11, .val (Lit (.int .i64 1))), (39, .val (Lit (.int .i64 1))), (974, .val (Sz m74)), (14, .val (Lit (.int .i64 j51))), (947, .val (Sz m47)), (10, .box 43 7 (A7e m47 (ansL (val 4294967296 xa) (val 4294967296 xb) n) j51.toNat)), (935, .val (Sz m35)), (8, .val (IsHd g33 (IsTN nb xb))), (931, .val (Sz m31)), (7, .val (IsHd g29 (IsTN na xa))), (927, .val (Sz m27)), (0, .val (IsAb w0.heap.size na xa)), (1, .val (IsAb w0.heap.size nb xb)), (2, .val (Lit (.int .u8 n))), (114, .val (Sz lo))]) 10 [0, 1, 2, 3, 4, 5, 6, 7, 8, 9, 11, 12, 13, 14, 15, 16, 17, 18, 19] H97 rfl (fun _ _ => by go_simp) keep_nat rfl (rfl) (.tmp 0 rfl) (by omega) (fun _ _ => trivial) hk98 rfl (by kernel_rfl) (.cons (keptB_hd loc_C) (.cons (keptB_lit) (.cons (keptB_sz) (.cons (keptB_box (by decide) keptB_7) (.cons (keptB_lit) (.cons (keptB_lit) (.cons (keptB_sz) (.cons (keptB_lit) (.cons (keptB_sz) (.cons (keptB_box (by decide) keptB_7e) (.cons (keptB_sz) (.cons (keptB_hd loc_TN) (.cons (keptB_sz) (.cons (keptB_hd loc_TN) (.cons (keptB_sz) (.cons (keptB_ab (Nat.le_refl _)) (.cons (keptB_ab (Nat.le_refl _)) (.cons (keptB_lit) (.cons (keptB_sz) (.nil)))))))))))))))))))) (by decide) rfl ?_
            clear H97 hk98 a97 w97 B97
            intro a98 w98 B98 H98
            refine ops_done ?_
            refine block_normal ?_
            refine then_normal ?_
            refine flow_region (dsts := [some 80, some 81]) (refs := [[.pre 2], [.res 0]]) (outs := [.res 1, .pre 0, .pre 2, .pre 3, .pre 4, .pre 5, .pre 6, .pre 7, .pre 8, .pre 9, .pre 10, .pre 11, .pre 12, .pre 13, .pre 14, .pre 15, .pre 16, .pre 17, .pre 18, .pre 19]) (als := [false, false]) (posts := [.val (Lit (.int .i64 j91)), .val (Lit (.int .i64 (j91 + 1)))])
              (out := [(81, .val (Lit (.int .i64 (j91 + 1)))), (9, .box 42 15 (IsBook w0.heap.size (fun _ => True) m35 m74 ((List.getD gs85 j91.toNat none) :: (List.reverse (List.take j91.toNat gs85))) (7 + j91.toNat + 1))), (15, .val (Lit (.int .i64 j91))), (987, .val (Sz m87)), (13, .box 43 7 (A7 gs85 (ansL (val 4294967296 xa) (val 4294967296 xb) n))), (11, .val (Lit (.int .i64 1))), (39, .val (Lit (.int .i64 1))), (974, .val (Sz m74)), (14, .val (Lit (.int .i64 j51))), (947, .val (Sz m47)), (10, .box 43 7 (A7e m47 (ansL (val 4294967296 xa) (val 4294967296 xb) n) j51.toNat)), (935, .val (Sz m35)), (8, .val (IsHd g33 (IsTN nb xb))), (931, .val (Sz m31)), (7, .val (IsHd g29 (IsTN na xa))), (927, .val (Sz m27)), (0, .val (IsAb w0.heap.size na xa)), (1, .val (IsAb w0.heap.size nb xb)), (2, .val (Lit (.int .u8 n))), (114, .val (Sz lo))]) (nb := []) H98 2 [2] rfl (by kernel_rfl) rfl rfl ?_ ?_
            · refine .cons (.plain rfl (ok_move (.tmp 0 rfl))) ?_
              refine .cons (.plain rfl (ok_add (r := (j91 + 1)) (.tmp 0 rfl) (.lit) (w_i64 (by omega)))) ?_
              exact .nil
            clear H98 a98 w98 B98
            intro a99 w99 B99 H99
            refine ops_one ?_
            refine tail_op (D := .val (Lit (.int .i64 (j91 + 1)))) (l' := [(15, .val (Lit (.int .i64 (j91 + 1)))), (81, .val (Lit (.int .i64 (j91 + 1)))), (9, .box 42 15 (IsBook w0.heap.size (fun _ => True) m35 m74 ((List.getD gs85 j91.toNat none) :: (List.reverse (List.take j91.toNat gs85))) (7 + j91.toNat + 1))), (987, .val (Sz m87)), (13, .box 43 7 (A7 gs85 (ansL (val 4294967296 xa) (val 4294967296 xb) n))), (11, .val (Lit (.int .i64 1))), (39, .val (Lit (.int .i64 1))), (974, .val (Sz m74)), (14, .val (Lit (.int .i64 j51))), (947, .val (Sz m47)), (10, .box 43 7 (A7e m47 (ansL (val 4294967296 xa) (val 4294967296 xb) n) j51.toNat)), (935, .val (Sz m35)), (8, .val (IsHd g33 (IsTN nb xb))), (931, .val (Sz m31)), (7, .val (IsHd g29 (IsTN na xa))), (927, .val (Sz m27)), (0, .val (IsAb w0.heap.size na xa)), (1, .val (IsAb w0.heap.size nb xb)), (2, .val (Lit (.int .u8 n))), (114, .val (Sz lo))]) H99 rfl rfl rfl (.plain rfl (ok_assign (.tmp 0 rfl))) rfl rfl ?_
            clear H99 a99 w99 B99
            intro a100 w100 B100 H100
            refine ops_done ?_
            have H101 := St.setwB H100 2 (D' := IsBook w0.heap.size (fun _ => True) m35 m74 (List.reverse (List.take (j91 + 1).toNat gs85)) (7 + (j91 + 1).toNat)) rfl (fun v h => book_cnt (by omega) (by rw [show (j91 + 1).toNat = j91.toNat + 1 by omega]; exact take_next _ _ (by rw [hgs85.len]; omega)) v h) (l' := [(15, .val (Lit (.int .i64 (j91 + 1)))), (81, .val (Lit (.int .i64 (j91 + 1)))), (9, .box 42 15 (IsBook w0.heap.size (fun _ => True) m35 m74 (List.reverse (List.take (j91 + 1).toNat gs85)) (7 + (j91 + 1).toNat))), (987, .val (Sz m87)), (13, .box 43 7 (A7 gs85 (ansL (val 4294967296 xa) (val 4294967296 xb) n))), (11, .val (Lit (.int .i64 1))), (39, .val (Lit (.int .i64 1))), (974, .val (Sz m74)), (14, .val (Lit (.int .i64 j51))), (947, .val (Sz m47)), (10, .box 43 7 (A7e m47 (ansL (val 4294967296 xa) (val 4294967296 xb) n) j51.toNat)), (935, .val (Sz m35)), (8, .val (IsHd g33 (IsTN nb xb))), (931, .val (Sz m31)), (7, .val (IsHd g29 (IsTN na xa))), (927, .val (Sz m27)), (0, .val (IsAb w0.heap.size na xa)), (1, .val (IsAb w0.heap.size nb xb)), (2, .val (Lit (.int .u8 n))), (114, .val (Sz lo))]) rfl
            clear H100
            exact ⟨j91 + 1, B100, by exact ⟨by omega, by omega⟩, St.pick H101 [0, 3, 4, 5, 6, 7, 8, 9, 10, 2, 11, 12, 13, 14, 15, 16, 17, 18, 19] rfl, by show (7 - (j91 + 1)).toNat < (7 - j91).toNat; omega⟩
          · intro hc95
            replace hc95 := of_decide_eq_false hc95
            refine wp_exit ?_
            refine then_exit ?_
            refine then_exit ?_
            refine block_exit ?_
            refine then_normal ?_
            refine wp_seq ?_
            have hz102 : m87 ≤ w94.heap.size := H94.fc.get 2 rfl
            obtain ⟨m103, hm103, hw103, hL103, H103⟩ := St.mark H94 1003
            clear H94
            clear hL103
            replace hz102 : m87 ≤ m103 := Nat.le_trans hz102 hw103
            have H104 := St.rebook H103 11 rfl hw103 (by intro b hb; have := hgs85.ex hb; omega) (l' := [(1003, .val (Sz m103)), (79, .val (IsB (decide (j91 < 7)))), (15, .val (Lit (.int .i64 j91))), (987, .val (Sz m87)), (13, .box 43 7 (A7 gs85 (ansL (val 4294967296 xa) (val 4294967296 xb) n))), (11, .val (Lit (.int .i64 1))), (39, .val (Lit (.int .i64 1))), (974, .val (Sz m74)), (14, .val (Lit (.int .i64 j51))), (947, .val (Sz m47)), (10, .box 43 7 (A7e m47 (ansL (val 4294967296 xa) (val 4294967296 xb) n) j51.toNat)), (9, .box 42 15 (IsBook w0.heap.size (fun _ => True) m35 m103 ([]) (7 + j91.toNat))), (935, .val (Sz m35)), (8, .val (IsHd g33 (IsTN nb xb))), (931, .val (Sz m31)), (7, .val (IsHd g29 (IsTN na xa))), (927, .val (Sz m27)), (0, .val (IsAb w0.heap.size na xa)), (1, .val (IsAb w0.heap.size nb xb)), (2, .val (Lit (.int .u8 n))), (114, .val (Sz lo))]) rfl
            clear H103 hw103
            have H105 := St.setwB H104 11 (D' := IsBook w0.heap.size (fun _ => True) m35 m103 ([]) 14) rfl (fun v h => book_cnt (by omega) rfl v h) (l' := [(1003, .val (Sz m103)), (79, .val (IsB (decide (j91 < 7)))), (15, .val (Lit (.int .i64 j91))), (987, .val (Sz m87)), (13, .box 43 7 (A7 gs85 (ansL (val 4294967296 xa) (val 4294967296 xb) n))), (11, .val (Lit (.int .i64 1))), (39, .val (Lit (.int .i64 1))), (974, .val (Sz m74)), (14, .val (Lit (.int .i64 j51))), (947, .val (Sz m47)), (10, .box 43 7 (A7e m47 (ansL (val 4294967296 xa) (val 4294967296 xb) n) j51.toNat)), (9, .box 42 15 (IsBook w0.heap.size (fun _ => True) m35 m103 ([]) 14)), (935, .val (Sz m35)), (8, .val (IsHd g33 (IsTN nb xb))), (931, .val (Sz m31)), (7, .val (IsHd g29 (IsTN na xa))), (927, .val (Sz m27)), (0, .val (IsAb w0.heap.size na xa)), (1, .val (IsAb w0.heap.size nb xb)), (2, .val (Lit (.int .u8 n))), (114, .val (Sz lo))]) rfl
            clear H104
            refine flow_region (dsts := [some 94, some 95]) (refs := [[.pre 5], [.res 0]]) (outs := [.res 1, .pre 0, .pre 2, .pre 3, .pre 4, .pre 5, .pre 6, .pre 7, .pre 8, .pre 9, .pre 10, .pre 11, .pre 12, .pre 13, .pre 14, .pre 15, .pre 16, .pre 17, .pre 18, .pre 19, .pre 20]) (als := [false, false]) (posts := [.val (Lit (.int .i64 1)), .val (IsB true)])
              (out := [(95, .val (IsB true)), (1003, .val (Sz m103)), (15, .val (Lit (.int .i64 j91))), (987, .val (Sz m87)), (13, .box 43 7 (A7 gs85 (ansL (val 4294967296 xa) (val 4294967296 xb) n))), (11, .val (Lit (.int .i64 1))), (39, .val (Lit (.int .i64 1))), (974, .val (Sz m74)), (14, .val (Lit (.int .i64 j51))), (947, .val (Sz m47)), (10, .box 43 7 (A7e m47 (ansL (val 4294967296 xa) (val 4294967296 xb) n) j51.toNat)), (9, .box 42 15 (IsBook w0.heap.size (fun _ => True) m35 m103 ([]) 14)), (935, .val (Sz m35)), (8, .val (IsHd g33 (IsTN nb xb))), (931, .val (Sz m31)), (7, .val (IsHd g29 (IsTN na xa))), (927, .val (Sz m27)), (0, .val (IsAb w0.heap.size na xa)), (1, .val (IsAb w0.heap.size nb xb)), (2, .val (Lit (.int .u8 n))), (114, .val (Sz lo))]) (nb := []) H105 2 [] rfl (by kernel_rfl) rfl rfl ?_ ?_
            · refine .cons (.plain rfl (ok_move (.tmp 0 rfl))) ?_
              refine .cons (.plain rfl (ok_cmp (b := true) (.tmp 0 rfl) (.lit) (by decide))) ?_
              exact .nil
            clear H105 a94 w94 B94
            intro a106 w106 B106 H106
            refine ops_done ?_
            refine then_normal ?_
            refine f_condT H106 (.tmp 0 rfl) ?_
            refine wp_seq ?_
            refine flow_region (dsts := [some 96, some 97, some 98, some 99, some 100, some 16]) (refs := [[.pre 13], [.pre 15], [.pre 19], [.res 2], [.res 0, .res 1, .res 3, .pre 1], []]) (outs := [.res 4, .res 5, .pre 1, .pre 2, .pre 3, .pre 4, .pre 5, .pre 6, .pre 7, .pre 8, .pre 9, .pre 10, .pre 11, .pre 12, .pre 13, .pre 14, .pre 15, .pre 16, .pre 17, .pre 18, .pre 19, .pre 20]) (als := [false, false, false, false, false, true]) (posts := [.val (IsHd g33 (IsTN nb xb)), .val (IsHd g29 (IsTN na xa)), .val (Lit (.int .u8 n)), .val (Lit (.int .u8 ((n + 1) % 256))), .val (A7v m103 (ansL (val 4294967296 xb) (val 4294967296 xa) ((n + 1) % 256))), .box 43 7 (A7s)])
              (out := [(100, .val (A7v m103 (ansL (val 4294967296 xb) (val 4294967296 xa) ((n + 1) % 256)))), (16, .box 43 7 (A7s)), (1003, .val (Sz m103)), (15, .val (Lit (.int .i64 j91))), (987, .val (Sz m87)), (13, .box 43 7 (A7 gs85 (ansL (val 4294967296 xa) (val 4294967296 xb) n))), (11, .val (Lit (.int .i64 1))), (39, .val (Lit (.int .i64 1))), (974, .val (Sz m74)), (14, .val (Lit (.int .i64 j51))), (947, .val (Sz m47)), (10, .box 43 7 (A7e m47 (ansL (val 4294967296 xa) (val 4294967296 xb) n) j51.toNat)), (9, .box 42 15 (IsBook w0.heap.size (fun _ => True) m35 m103 ([]) 14)), (935, .val (Sz m35)), (8, .val (IsHd g33 (IsTN nb xb))), (931, .val (Sz m31)), (7, .val (IsHd g29 (IsTN na xa))), (927, .val (Sz m27)), (0, .val (IsAb w0.heap.size na xa)), (1, .val (IsAb w0.heap.size nb xb)), (2, .val (Lit (.int .u8 n))), (114, .val (Sz lo))]) (nb := [16]) H106 6 [6] rfl (by kernel_rfl) rfl rfl ?_ ?_
            · refine .cons (.plain rfl (ok_move (.tmp 0 rfl))) ?_
              refine .cons (.plain rfl (ok_move (.tmp 0 rfl))) ?_
              refine .cons (.plain rfl (ok_move (.tmp 0 rfl))) ?_
              refine .cons (.plain rfl (ok_add (r := ((n + 1) % 256)) (.tmp 0 rfl) (.lit) (IntKind.wrap_u8 _))) ?_
              refine .cons (.plain rfl (ok_callF 3 (con_answersF (val 4294967296 xb) (val 4294967296 xa) ((n + 1) % 256) (fit_listN lb db (by omega)) (fit_listN la da (by omega)) (by omega)) rfl (.cons (.weak (.weak (.weak (.tmp 0 rfl) weakHd) weakTNAn) (weakAnM (by omega))) (.cons (.weak (.weak (.weak (.tmp 1 rfl) weakHd) weakTNAn) (weakAnM (by omega))) (.cons (.tmp 2 rfl) (.nil)))))) ?_
              refine .cons (.plain rfl (ok_alloc7s)) ?_
              exact .nil
            clear H106 a106 w106 B106
            intro a107 w107 B107 H107
            simp only [List.cons_append, List.nil_append] at H107
            refine ops_one ?_
            refine store_op (l' := [(100, .val (A7v m103 (ansL (val 4294967296 xb) (val 4294967296 xa) ((n + 1) % 256)))), (16, .box 43 7 (A7v m103 (ansL (val 4294967296 xb) (val 4294967296 xa) ((n + 1) % 256)))), (1003, .val (Sz m103)), (15, .val (Lit (.int .i64 j91))), (987, .val (Sz m87)), (13, .box 43 7 (A7 gs85 (ansL (val 4294967296 xa) (val 4294967296 xb) n))), (11, .val (Lit (.int .i64 1))), (39, .val (Lit (.int .i64 1))), (974, .val (Sz m74)), (14, .val (Lit (.int .i64 j51))), (947, .val (Sz m47)), (10, .box 43 7 (A7e m47 (ansL (val 4294967296 xa) (val 4294967296 xb) n) j51.toNat)), (9, .box 42 15 (IsBook w0.heap.size (fun _ => True) m35 m103 ([]) 14)), (935, .val (Sz m35)), (8, .val (IsHd g33 (IsTN nb xb))), (931, .val (Sz m31)), (7, .val (IsHd g29 (IsTN na xa))), (927, .val (Sz m27)), (0, .val (IsAb w0.heap.size na xa)), (1, .val (IsAb w0.heap.size nb xb)), (2, .val (Lit (.int .u8 n))), (114, .val (Sz lo))]) 1 H107 rfl tyA7 rfl (.tmp 0 rfl) shape_7s shape_7v rfl rfl ?_
            clear H107 w107
            intro w108 H108
            refine ops_done ?_
            refine then_normal ?_
            refine wp_seq ?_
            obtain ⟨gs109, hgs109, H109⟩ := St.name7 H108 1 rfl (l' := fun gs109 => [(100, .val (A7v m103 (ansL (val 4294967296 xb) (val 4294967296 xa) ((n + 1) % 256)))), (16, .box 43 7 (A7 gs109 (ansL (val 4294967296 xb) (val 4294967296 xa) ((n + 1) % 256)))), (1003, .val (Sz m103)), (15, .val (Lit (.int .i64 j91))), (987, .val (Sz m87)), (13, .box 43 7 (A7 gs85 (ansL (val 4294967296 xa) (val 4294967296 xb) n))), (11, .val (Lit (.int .i64 1))), (39, .val (Lit (.int .i64 1))), (974, .val (Sz m74)), (14, .val (Lit (.int .i64 j51))), (947, .val (Sz m47)), (10, .box 43 7 (A7e m47 (ansL (val 4294967296 xa) (val 4294967296 xb) n) j51.toNat)), (9, .box 42 15 (IsBook w0.heap.size (fun _ => True) m35 m103 ([]) 14)), (935, .val (Sz m35)), (8, .val (IsHd g33 (IsTN nb xb))), (931, .val (Sz m31)), (7, .val (IsHd g29 (IsTN na xa))), (927, .val (Sz m27)), (0, .val (IsAb w0.heap.size na xa)), (1, .val (IsAb w0.heap.size nb xb)), (2, .val (Lit (.int .u8 n))), (114, .val (Sz lo))]) (fun _ => rfl)
            clear H108
            replace H109 : St 114 w0 B0 a107 w108 B107 [(100, .val (A7v m103 (ansL (val 4294967296 xb) (val 4294967296 xa) ((n + 1) % 256)))), (16, .box 43 7 (A7 gs109 (ansL (val 4294967296 xb) (val 4294967296 xa) ((n + 1) % 256)))), (1003, .val (Sz m103)), (15, .val (Lit (.int .i64 j91))), (987, .val (Sz m87)), (13, .box 43 7 (A7 gs85 (ansL (val 4294967296 xa) (val 4294967296 xb) n))), (11, .val (Lit (.int .i64 1))), (39, .val (Lit (.int .i64 1))), (974, .val (Sz m74)), (14, .val (Lit (.int .i64 j51))), (947, .val (Sz m47)), (10, .box 43 7 (A7e m47 (ansL (val 4294967296 xa) (val 4294967296 xb) n) j51.toNat)), (9, .box 42 15 (IsBook w0.heap.size (fun _ => True) m35 m103 ([]) 14)), (935, .val (Sz m35)), (8, .val (IsHd g33 (IsTN nb xb))), (931, .val (Sz m31)), (7, .val (IsHd g29 (IsTN na xa))), (927, .val (Sz m27)), (0, .val (IsAb w0.heap.size na xa)), (1, .val (IsAb w0.heap.size nb xb)), (2, .val (Lit (.int .u8 n))), (114, .val (Sz lo))] [16, 13, 10, 9] := H109
            have hz110 : m103 ≤ w108.heap.size := H109.fc.get 2 rfl
            obtain ⟨m111, hm111, hw111, hL111, H111⟩ := St.mark H109 1011
            clear H109
            clear hL111
            replace hz110 : m103 ≤ m111 := Nat.le_trans hz110 hw111
            replace hgs109 := hgs109.mono hw111
            clear hw111
            refine flow_region (dsts := [some 17]) (refs := [[]]) (outs := [.res 0, .pre 0, .pre 2, .pre 3, .pre 4, .pre 5, .pre 6, .pre 7, .pre 8, .pre 9, .pre 10, .pre 11, .pre 12, .pre 13, .pre 14, .pre 15, .pre 16, .pre 17, .pre 18, .pre 19, .pre 20, .pre 21, .pre 22]) (als := [false]) (posts := [.val (Lit (.int .i64 0))])
              (out := [(17, .val (Lit (.int .i64 0))), (1011, .val (Sz m111)), (16, .box 43 7 (A7 gs109 (ansL (val 4294967296 xb) (val 4294967296 xa) ((n + 1) % 256)))), (1003, .val (Sz m103)), (15, .val (Lit (.int .i64 j91))), (987, .val (Sz m87)), (13, .box 43 7 (A7 gs85 (ansL (val 4294967296 xa) (val 4294967296 xb) n))), (11, .val (Lit (.int .i64 1))), (39, .val (Lit (.int .i64 1))), (974, .val (Sz m74)), (14, .val (Lit (.int .i64 j51))), (947, .val (Sz m47)), (10, .box 43 7 (A7e m47 (ansL (val 4294967296 xa) (val 4294967296 xb) n) j51.toNat)), (9, .box 42 15 (IsBook w0.heap.size (fun _ => True) m35 m103 ([]) 14)), (935, .val (Sz m35)), (8, .val (IsHd g33 (IsTN nb xb))), (931, .val (Sz m31)), (7, .val (IsHd g29 (IsTN na xa))), (927, .val (Sz m27)), (0, .val (IsAb w0.heap.size na xa)), (1, .val (IsAb w0.heap.size nb xb)), (2, .val (Lit (.int .u8 n))), (114, .val (Sz lo))]) (nb := []) H111 1 [] rfl (by kernel_rfl) rfl rfl ?_ ?_
            · refine .cons (.plain rfl (ok_assign (.lit))) ?_
              exact .nil
            clear H111 a107 w108 B107
            intro a112 w112 B112 H112
            refine ops_done ?_
            refine then_normal ?_
            refine wp_block ?_
            have H114 := St.fewerF H112 [0, 1, 2, 3, 4, 5, 6, 7, 8, 9, 10, 11, 12, 13, 14, 15, 16, 17, 18, 19, 20, 21, 22] (l' := [(17, .val (Lit (.int .i64 0))), (1011, .val (Sz m111)), (16, .box 43 7 (A7 gs109 (ansL (val 4294967296 xb) (val 4294967296 xa) ((n + 1) % 256)))), (1003, .val (Sz m103)), (15, .val (Lit (.int .i64 j91))), (987, .val (Sz m87)), (13, .box 43 7 (A7 gs85 (ansL (val 4294967296 xa) (val 4294967296 xb) n))), (11, .val (Lit (.int .i64 1))), (39, .val (Lit (.int .i64 1))), (974, .val (Sz m74)), (14, .val (Lit (.int .i64 j51))), (947, .val (Sz m47)), (10, .box 43 7 (A7e m47 (ansL (val 4294967296 xa) (val 4294967296 xb) n) j51.toNat)), (9, .box 42 15 (IsBook w0.heap.size (fun _ => True) m35 m103 ([]) 14)), (935, .val (Sz m35)), (8, .val (IsHd g33 (IsTN nb xb))), (931, .val (Sz m31)), (7, .val (IsHd g29 (IsTN na xa))), (927, .val (Sz m27)), (0, .val (IsAb w0.heap.size na xa)), (1, .val (IsAb w0.heap.size nb xb)), (2, .val (Lit (.int .u8 n))), (114, .val (Sz lo))]) rfl
            clear H112
            refine f_loop (fun (j113 : Int) => [(17, .val (Lit (.int .i64 j113))), (1011, .val (Sz m111)), (16, .box 43 7 (A7 gs109 (ansL (val 4294967296 xb) (val 4294967296 xa) ((n + 1) % 256)))), (1003, .val (Sz m103)), (15, .val (Lit (.int .i64 j91))), (987, .val (Sz m87)), (13, .box 43 7 (A7 gs85 (ansL (val 4294967296 xa) (val 4294967296 xb) n))), (11, .val (Lit (.int .i64 1))), (39, .val (Lit (.int .i64 1))), (974, .val (Sz m74)), (14, .val (Lit (.int .i64 j51))), (947, .val (Sz m47)), (10, .box 43 7 (A7e m47 (ansL (val 4294967296 xa) (val 4294967296 xb) n) j51.toNat)), (9, .box 42 15 (IsBook w0.heap.size (fun _ => True) m35 m103 (List.reverse (List.take j113.toNat gs109)) (14 + j113.toNat))), (935, .val (Sz m35)), (8, .val (IsHd g33 (IsTN nb xb))), (931, .val (Sz m31)), (7, .val (IsHd g29 (IsTN na xa))), (927, .val (Sz m27)), (0, .val (IsAb w0.heap.size na xa)), (1, .val (IsAb w0.heap.size nb xb)), (2, .val (Lit (.int .u8 n))), (114, .val (Sz lo))]) (fun (j113 : Int) => 0 ≤ j113 ∧ j113 ≤ 7) (fun (j113 : Int) => (7 - j113).toNat) (0) (St.pick H114 [0, 1, 2, 3, 4, 5, 6, 7, 8, 9, 10, 11, 12, 13, 14, 15, 16, 17, 18, 19, 20, 21, 22] rfl) (by exact ⟨by omega, by omega⟩) ?_
            clear H114 a112 w112 B112
            rintro j113 a115 w115 B115 hI115 H115
            replace hI115 : 0 ≤ j113 ∧ j113 ≤ 7 := hI115
            replace H115 : St 114 w0 B0 a115 w115 B115 [(17, .val (Lit (.int .i64 j113))), (1011, .val (Sz m111)), (16, .box 43 7 (A7 gs109 (ansL (val 4294967296 xb) (val 4294967296 xa) ((n + 1) % 256)))), (1003, .val (Sz m103)), (15, .val (Lit (.int .i64 j91))), (987, .val (Sz m87)), (13, .box 43 7 (A7 gs85 (ansL (val 4294967296 xa) (val 4294967296 xb) n))), (11, .val (Lit (.int .i64 1))), (39, .val (Lit (.int .i64 1))), (974, .val (Sz m74)), (14, .val (Lit (.int .i64 j51))), (947, .val (Sz m47)), (10, .box 43 7 (A7e m47 (ansL (val 4294967296 xa) (val 4294967296 xb) n) j51.toNat)), (9, .box 42 15 (IsBook w0.heap.size (fun _ => True) m35 m103 (List.reverse (List.take j113.toNat gs109)) (14 + j113.toNat))), (935, .val (Sz m35)), (8, .val (IsHd g33 (IsTN nb xb))), (931, .val (Sz m31)), (7, .val (IsHd g29 (IsTN na xa))), (927, .val (Sz m27)), (0, .val (IsAb w0.heap.size na xa)), (1, .val (IsAb w0.heap.size nb xb)), (2, .val (Lit (.int .u8 n))), (114, .val (Sz lo))] [16, 13, 10, 9] := H115
            refine wp_seq ?_
            refine wp_seq ?_
            refine flow_region (dsts := [some 101, some 102]) (refs := [[.pre 0], [.res 0]]) (outs := [.res 1, .pre 0, .pre 1, .pre 2, .pre 3, .pre 4, .pre 5, .pre 6, .pre 7, .pre 8, .pre 9, .pre 10, .pre 11, .pre 12, .pre 13, .pre 14, .pre 15, .pre 16, .pre 17, .pre 18, .pre 19, .pre 20, .pre 21, .pre 22]) (als := [false, false]) (posts := [.val (Lit (.int .i64 j113)), .val (IsB (decide (j113 < 7)))])
              (out := [(102, .val (IsB (decide (j113 < 7)))), (17, .val (Lit (.int .i64 j113))), (1011, .val (Sz m111)), (16, .box 43 7 (A7 gs109 (ansL (val 4294967296 xb) (val 4294967296 xa) ((n + 1) % 256)))), (1003, .val (Sz m103)), (15, .val (Lit (.int .i64 j91))), (987, .val (Sz m87)), (13, .box 43 7 (A7 gs85 (ansL (val 4294967296 xa) (val 4294967296 xb) n))), (11, .val (Lit (.int .i64 1))), (39, .val (Lit (.int .i64 1))), (974, .val (Sz m74)), (14, .val (Lit (.int .i64 j51))), (947, .val (Sz m47)), (10, .box 43 7 (A7e m47 (ansL (val 4294967296 xa) (val 4294967296 xb) n) j51.toNat)), (9, .box 42 15 (IsBook w0.heap.size (fun _ => True) m35 m103 (List.reverse (List.take j113.toNat gs109)) (14 + j113.toNat))), (935, .val (Sz m35)), (8, .val (IsHd g33 (IsTN nb xb))), (931, .val (Sz m31)), (7, .val (IsHd g29 (IsTN na xa))), (927, .val (Sz m27)), (0, .val (IsAb w0.heap.size na xa)), (1, .val (IsAb w0.heap.size nb xb)), (2, .val (Lit (.int .u8 n))), (114, .val (Sz lo))]) (nb := []) H115 2 [] rfl (by kernel_rfl) rfl rfl ?_ ?_
            · refine .cons (.plain rfl (ok_move (.tmp 0 rfl))) ?_
              refine .cons (.plain rfl (ok_cmp (.tmp 0 rfl) (.lit) rfl)) ?_
              exact .nil
            clear H115 a115 w115 B115
            intro a116 w116 B116 H116
            refine ops_done ?_
            refine then_normal ?_
            refine f_cond H116 (.tmp 0 rfl) ?_ ?_
            · intro hc117
              replace hc117 := of_decide_eq_true hc117
              refine wp_skip ?_
              refine then_normal ?_
              refine wp_seq ?_
              refine wp_block ?_
              refine flow_region (dsts := [some 105, some 106, some 107]) (refs := [[.pre 1], [.pre 3, .res 0], [.res 1]]) (outs := [.res 2, .pre 1, .pre 2, .pre 3, .pre 4, .pre 5, .pre 6, .pre 7, .pre 8, .pre 9, .pre 10, .pre 11, .pre 12, .pre 13, .pre 14, .pre 15, .pre 16, .pre 17, .pre 18, .pre 19, .pre 20, .pre 21, .pre 22, .pre 23]) (als := [false, false, false]) (posts := [.val (Lit (.int .i64 j113)), .ptr 43 7 (A7 gs109 (ansL (val 4294967296 xb) (val 4294967296 xa) ((n + 1) % 256))) (j113.toNat), .val (IsHd (List.getD gs109 j113.toNat none) (IsC (List.getD (ansL (val 4294967296 xb) (val 4294967296 xa) ((n + 1) % 256)) j113.toNat 0)))])
                (out := [(107, .val (IsHd (List.getD gs109 j113.toNat none) (IsC (List.getD (ansL (val 4294967296 xb) (val 4294967296 xa) ((n + 1) % 256)) j113.toNat 0)))), (17, .val (Lit (.int .i64 j113))), (1011, .val (Sz m111)), (16, .box 43 7 (A7 gs109 (ansL (val 4294967296 xb) (val 4294967296 xa) ((n + 1) % 256)))), (1003, .val (Sz m103)), (15, .val (Lit (.int .i64 j91))), (987, .val (Sz m87)), (13, .box 43 7 (A7 gs85 (ansL (val 4294967296 xa) (val 4294967296 xb) n))), (11, .val (Lit (.int .i64 1))), (39, .val (Lit (.int .i64 1))), (974, .val (Sz m74)), (14, .val (Lit (.int .i64 j51))), (947, .val (Sz m47)), (10, .box 43 7 (A7e m47 (ansL (val 4294967296 xa) (val 4294967296 xb) n) j51.toNat)), (9, .box 42 15 (IsBook w0.heap.size (fun _ => True) m35 m103 (List.reverse (List.take j113.toNat gs109)) (14 + j113.toNat))), (935, .val (Sz m35)), (8, .val (IsHd g33 (IsTN nb xb))), (931, .val (Sz m31)), (7, .val (IsHd g29 (IsTN na xa))), (927, .val (Sz m27)), (0, .val (IsAb w0.heap.size na xa)), (1, .val (IsAb w0.heap.size nb xb)), (2, .val (Lit (.int .u8 n))), (114, .val (Sz lo))]) (nb := []) H116 3 [3] rfl (by kernel_rfl) rfl rfl ?_ ?_
              · refine .cons (.plain rfl (ok_move (.tmp 0 rfl))) ?_
                refine .cons (.plain rfl (ok_idx7 j113.toNat (by omega) (by omega) (.tmp 0 rfl) (.tmp 1 rfl))) ?_
                refine .cons (.plain rfl (ok_load7 (by omega) (.tmp 0 rfl))) ?_
                exact .nil
              clear H116 a116 w116 B116
              intro a118 w118 B118 H118
              refine ops_one ?_
              have hk119 : ∀ b, (List.getD gs109 j113.toNat none) = some b → w0.heap.size ≤ b ∧ ¬ (m35 ≤ b ∧ b < m103) ∧ some b ∉ (List.reverse (List.take j113.toNat gs109)) := fun b hb => ⟨by have := hgs109.lo _ b hb; omega, fun hx => by have := hgs109.lo _ b hb; omega, hgs109.notin (by omega) hb⟩
              refine keep_op (cnt := 14 + j113.toNat) (ks := [(107, .val (IsHd (List.getD gs109 j113.toNat none) (IsC (List.getD (ansL (val 4294967296 xb) (val 4294967296 xa) ((n + 1) % 256)) j113.toNat 0)))), (17, .val (Lit (.int .i64 j113))), (1011, .val (Sz m111)), (16, .box 43 7 (A7 gs109 (ansL (val 4294967296 xb) (val 4294967296 xa) ((n + 1) % 256)))), (1003, .val (Sz m103)), (15, .val (Lit (.int .i64 j91))), (987, .val (Sz m87)), (13, .box 43 7 (A7 gs85 (ansL (val 4294967296 xa) (val 4294967296 xb) n))), (11, .val (Lit (.int .i64 1))), (39, .val (Lit (.int .i64 1))), (974, .val (Sz m74)), (14, .val (Lit (.int .i64 j51))), (947, .val (Sz m47)), (10, .box 43 7 (A7e m47 (ansL (val 4294967296 xa) (val 4294967296 xb) n) j51.toNat)), (935, .val (Sz m35)), (8, .val (IsHd g33 (IsTN nb xb))), (931, .val (Sz m31)), (7, .val (IsHd g29 (IsTN na xa))), (927, .val (Sz m27)), (0, .val (IsAb w0.heap.size na xa)), (1, .val (IsAb w0.heap.size nb xb)), (2, .val (Lit (.int .u8 n))), (114, .val (Sz lo))]) (l' := [(9, .box 42 15 (IsBook w0.heap.size (fun _ => True) m35 m103 ((List.getD gs109 j113.toNat none) :: (List.reverse (List.take j113.toNat gs109))) (14 + j113.toNat + 1))), (107, .val (IsHd (List.getD gs109 j113.toNat none) (IsC (List.getD (ansL (val 4294967296 xb) (val 4294967296 xa) ((n + 1) % 256)) j113.toNat 0)))), (17, .val (Lit (.int .i64 j113))), (1011, .val (Sz m111)), (16, .box 43 7 (A7 gs109 (ansL (val 4294967296 xb) (val 4294967296 xa) ((n + 1) % 256)))), (1003, .val (Sz m103)), (15, .val (Lit (.int .i64 j91))), (987, .val (Sz m87)), (13, .box 43 7 (A7 gs85 (ansL (val 4294967296 xa) (val 4294967296 xb) n))), (11, .val (Lit (.int .i64 1))), (39, .val (Lit (.int .i64 1))), (974, .val (Sz m74)), (14, .val (Lit (.int .i64 j51))), (947, .val (Sz m47)), (10, .box 43 7 (A7e m47 (ansL (val 4294967296 xa) (val 4294967296 xb) n) j51.toNat)), (935, .val (Sz m35)), (8, .val (IsHd g33 (IsTN nb xb))), (931, .val (Sz m31)), (7, .val (IsHd g29 (IsTN na xa))), (927, .val (Sz m27)), (0, .val (IsAb w0.heap.size na xa)), (1, .val (IsAb w0.heap.size nb xb)), (2, .val (Lit (.int .u8 n))), (114, .val (Sz lo))]) 14 [0, 1, 2, 3, 4, 5, 6, 7, 8, 9, 10, 11, 12, 13, 15, 16, 17, 18, 19, 20, 21, 22, 23] H118 rfl (fun _ _ => by go_simp) keep_nat rfl (rfl) (.tmp 0 rfl) (by omega) (fun _ _ => trivial) hk119 rfl (by kernel_rfl) (.cons (keptB_hd loc_C) (.cons (keptB_lit) (.cons (keptB_sz) (.cons (keptB_box (by decide) keptB_7) (.cons (keptB_sz) (.cons (keptB_lit) (.cons (keptB_sz) (.cons (keptB_box (by decide) keptB_7) (.cons (keptB_lit) (.cons (keptB_lit) (.cons (keptB_sz) (.cons (keptB_lit) (.cons (keptB_sz) (.cons (keptB_box (by decide) keptB_7e) (.cons (keptB_sz) (.cons (keptB_hd loc_TN) (.cons (keptB_sz) (.cons (keptB_hd loc_TN) (.cons (keptB_sz) (.cons (keptB_ab (Nat.le_refl _)) (.cons (keptB_ab (Nat.le_refl _)) (.cons (keptB_lit) (.cons (keptB_sz) (.nil)))))))))))))))))))))))) (by decide) rfl ?_
              clear H118 hk119 a118 w118 B118
              intro a119 w119 B119 H119
              refine ops_done ?_
              refine block_normal ?_
              refine then_normal ?_
              refine flow_region (dsts := [some 103, some 104]) (refs := [[.pre 2], [.res 0]]) (outs := [.res 1, .pre 0, .pre 2, .pre 3, .pre 4, .pre 5, .pre 6, .pre 7, .pre 8, .pre 9, .pre 10, .pre 11, .pre 12, .pre 13, .pre 14, .pre 15, .pre 16, .pre 17, .pre 18, .pre 19, .pre 20, .pre 21, .pre 22, .pre 23]) (als := [false, false]) (posts := [.val (Lit (.int .i64 j113)), .val (Lit (.int .i64 (j113 + 1)))])
                (out := [(104, .val (Lit (.int .i64 (j113 + 1)))), (9, .box 42 15 (IsBook w0.heap.size (fun _ => True) m35 m103 ((List.getD gs109 j113.toNat none) :: (List.reverse (List.take j113.toNat gs109))) (14 + j113.toNat + 1))), (17, .val (Lit (.int .i64 j113))), (1011, .val (Sz m111)), (16, .box 43 7 (A7 gs109 (ansL (val 4294967296 xb) (val 4294967296 xa) ((n + 1) % 256)))), (1003, .val (Sz m103)), (15, .val (Lit (.int .i64 j91))), (987, .val (Sz m87)), (13, .box 43 7 (A7 gs85 (ansL (val 4294967296 xa) (val 4294967296 xb) n))), (11, .val (Lit (.int .i64 1))), (39, .val (Lit (.int .i64 1))), (974, .val (Sz m74)), (14, .val (Lit (.int .i64 j51))), (947, .val (Sz m47)), (10, .box 43 7 (A7e m47 (ansL (val 4294967296 xa) (val 4294967296 xb) n) j51.toNat)), (935, .val (Sz m35)), (8, .val (IsHd g33 (IsTN nb xb))), (931, .val (Sz m31)), (7, .val (IsHd g29 (IsTN na xa))), (927, .val (Sz m27)), (0, .val (IsAb w0.heap.size na xa)), (1, .val (IsAb w0.heap.size nb xb)), (2, .val (Lit (.int .u8 n))), (114, .val (Sz lo))]) (nb := []) H119 2 [2] rfl (by kernel_rfl) rfl rfl ?_ ?_
              · refine .cons (.plain rfl (ok_move (.tmp 0 rfl))) ?_
                refine .cons (.plain rfl (ok_add (r := (j113 + 1)) (.tmp 0 rfl) (.lit) (w_i64 (by omega)))) ?_
                exact .nil
              clear H119 a119 w119 B119
              intro a120 w120 B120 H120
              refine ops_one ?_
              refine tail_op (D := .val (Lit (.int .i64 (j113 + 1)))) (l' := [(17, .val (Lit (.int .i64 (j113 + 1)))), (104, .val (Lit (.int .i64 (j113 + 1)))), (9, .box 42 15 (IsBook w0.heap.size (fun _ => True) m35 m103 ((List.getD gs109 j113.toNat none) :: (List.reverse (List.take j113.toNat gs109))) (14 + j113.toNat + 1))), (1011, .val (Sz m111)), (16, .box 43 7 (A7 gs109 (ansL (val 4294967296 xb) (val 4294967296 xa) ((n + 1) % 256)))), (1003, .val (Sz m103)), (15, .val (Lit (.int .i64 j91))), (987, .val (Sz m87)), (13, .box 43 7 (A7 gs85 (ansL (val 4294967296 xa) (val 4294967296 xb) n))), (11, .val (Lit (.int .i64 1))), (39, .val (Lit (.int .i64 1))), (974, .val (Sz m74)), (14, .val (Lit (.int .i64 j51))), (947, .val (Sz m47)), (10, .box 43 7 (A7e m47 (ansL (val 4294967296 xa) (val 4294967296 xb) n) j51.toNat)), (935, .val (Sz m35)), (8, .val (IsHd g33 (IsTN nb xb))), (931, .val (Sz m31)), (7, .val (IsHd g29 (IsTN na xa))), (927, .val (Sz m27)), (0, .val (IsAb w0.heap.size na xa)), (1, .val (IsAb w0.heap.size nb xb)), (2, .val (Lit (.int .u8 n))), (114, .val (Sz lo))]) H120 rfl rfl rfl (.plain rfl (ok_assign (.tmp 0 rfl))) rfl rfl ?_
              clear H120 a120 w120 B120
              intro a121 w121 B121 H121
              refine ops_done ?_
              have H122 := St.setwB H121 2 (D' := IsBook w0.heap.size (fun _ => True) m35 m103 (List.reverse (List.take (j113 + 1).toNat gs109)) (14 + (j113 + 1).toNat)) rfl (fun v h => book_cnt (by omega) (by rw [show (j113 + 1).toNat = j113.toNat + 1 by omega]; exact take_next _ _ (by rw [hgs109.len]; omega)) v h) (l' := [(17, .val (Lit (.int .i64 (j113 + 1)))), (104, .val (Lit (.int .i64 (j113 + 1)))), (9, .box 42 15 (IsBook w0.heap.size (fun _ => True) m35 m103 (List.reverse (List.take (j113 + 1).toNat gs109)) (14 + (j113 + 1).toNat))), (1011, .val (Sz m111)), (16, .box 43 7 (A7 gs109 (ansL (val 4294967296 xb) (val 4294967296 xa) ((n + 1) % 256)))), (1003, .val (Sz m103)), (15, .val (Lit (.int .i64 j91))), (987, .val (Sz m87)), (13, .box 43 7 (A7 gs85 (ansL (val 4294967296 xa) (val 4294967296 xb) n))), (11, .val (Lit (.int .i64 1))), (39, .val (Lit (.int .i64 1))), (974, .val (Sz m74)), (14, .val (Lit (.int .i64 j51))), (947, .val (Sz m47)), (10, .box 43 7 (A7e m47 (ansL (val 4294967296 xa) (val 4294967296 xb) n) j51.toNat)), (935, .val (Sz m35)), (8, .val (IsHd g33 (IsTN nb xb))), (931, .val (Sz m31)), (7, .val (IsHd g29 (IsTN na xa))), (927, .val (Sz m27)), (0, .val (IsAb w0.heap.size na xa)), (1, .val (IsAb w0.heap.size nb xb)), (2, .val (Lit (.int .u8 n))), (114, .val (Sz lo))]) rfl
              clear H121
              exact ⟨j113 + 1, B121, by exact ⟨by omega, by omega⟩, St.pick H122 [0, 3, 4, 5, 6, 7, 8, 9, 10, 11, 12, 13, 14, 2, 15, 16, 17, 18, 19, 20, 21, 22, 23] rfl, by show (7 - (j113 + 1)).toNat < (7 - j113).toNat; omega⟩
            · intro hc117
              replace hc117 := of_decide_eq_false hc117
              refine wp_exit ?_
              refine then_exit ?_
              refine then_exit ?_
              refine block_exit ?_
              refine block_normal ?_
              refine then_normal ?_
              have hz123 : m111 ≤ w116.heap.size := H116.fc.get 2 rfl
              obtain ⟨m124, hm124, hw124, hL124, H124⟩ := St.mark H116 1024
              clear H116
              clear hL124
              replace hz123 : m111 ≤ m124 := Nat.le_trans hz123 hw124
              have H125 := St.rebook H124 15 rfl hw124 (by intro b hb; have := hgs109.ex hb; omega) (l' := [(1024, .val (Sz m124)), (102, .val (IsB (decide (j113 < 7)))), (17, .val (Lit (.int .i64 j113))), (1011, .val (Sz m111)), (16, .box 43 7 (A7 gs109 (ansL (val 4294967296 xb) (val 4294967296 xa) ((n + 1) % 256)))), (1003, .val (Sz m103)), (15, .val (Lit (.int .i64 j91))), (987, .val (Sz m87)), (13, .box 43 7 (A7 gs85 (ansL (val 4294967296 xa) (val 4294967296 xb) n))), (11, .val (Lit (.int .i64 1))), (39, .val (Lit (.int .i64 1))), (974, .val (Sz m74)), (14, .val (Lit (.int .i64 j51))), (947, .val (Sz m47)), (10, .box 43 7 (A7e m47 (ansL (val 4294967296 xa) (val 4294967296 xb) n) j51.toNat)), (9, .box 42 15 (IsBook w0.heap.size (fun _ => True) m35 m124 ([]) (14 + j113.toNat))), (935, .val (Sz m35)), (8, .val (IsHd g33 (IsTN nb xb))), (931, .val (Sz m31)), (7, .val (IsHd g29 (IsTN na xa))), (927, .val (Sz m27)), (0, .val (IsAb w0.heap.size na xa)), (1, .val (IsAb w0.heap.size nb xb)), (2, .val (Lit (.int .u8 n))), (114, .val (Sz lo))]) rfl
              clear H124 hw124
              have H126 := St.setwB H125 15 (D' := IsBook w0.heap.size (fun _ => True) m35 m124 ([]) 21) rfl (fun v h => book_cnt (by omega) rfl v h) (l' := [(1024, .val (Sz m124)), (102, .val (IsB (decide (j113 < 7)))), (17, .val (Lit (.int .i64 j113))), (1011, .val (Sz m111)), (16, .box 43 7 (A7 gs109 (ansL (val 4294967296 xb) (val 4294967296 xa) ((n + 1) % 256)))), (1003, .val (Sz m103)), (15, .val (Lit (.int .i64 j91))), (987, .val (Sz m87)), (13, .box 43 7 (A7 gs85 (ansL (val 4294967296 xa) (val 4294967296 xb) n))), (11, .val (Lit (.int .i64 1))), (39, .val (Lit (.int .i64 1))), (974, .val (Sz m74)), (14, .val (Lit (.int .i64 j51))), (947, .val (Sz m47)), (10, .box 43 7 (A7e m47 (ansL (val 4294967296 xa) (val 4294967296 xb) n) j51.toNat)), (9, .box 42 15 (IsBook w0.heap.size (fun _ => True) m35 m124 ([]) 21)), (935, .val (Sz m35)), (8, .val (IsHd g33 (IsTN nb xb))), (931, .val (Sz m31)), (7, .val (IsHd g29 (IsTN na xa))), (927, .val (Sz m27)), (0, .val (IsAb w0.heap.size na xa)), (1, .val (IsAb w0.heap.size nb xb)), (2, .val (Lit (.int .u8 n))), (114, .val (Sz lo))]) rfl
              clear H125
              refine flow_region (dsts := [some 38, some 39]) (refs := [[.pre 9], [.res 0]]) (outs := [.res 1, .pre 0, .pre 2, .pre 3, .pre 4, .pre 5, .pre 6, .pre 7, .pre 8, .pre 9, .pre 11, .pre 12, .pre 13, .pre 14, .pre 15, .pre 16, .pre 17, .pre 18, .pre 19, .pre 20, .pre 21, .pre 22, .pre 23, .pre 24]) (als := [false, false]) (posts := [.val (Lit (.int .i64 1)), .val (Lit (.int .i64 2))])
                (out := [(39, .val (Lit (.int .i64 2))), (1024, .val (Sz m124)), (17, .val (Lit (.int .i64 j113))), (1011, .val (Sz m111)), (16, .box 43 7 (A7 gs109 (ansL (val 4294967296 xb) (val 4294967296 xa) ((n + 1) % 256)))), (1003, .val (Sz m103)), (15, .val (Lit (.int .i64 j91))), (987, .val (Sz m87)), (13, .box 43 7 (A7 gs85 (ansL (val 4294967296 xa) (val 4294967296 xb) n))), (11, .val (Lit (.int .i64 1))), (974, .val (Sz m74)), (14, .val (Lit (.int .i64 j51))), (947, .val (Sz m47)), (10, .box 43 7 (A7e m47 (ansL (val 4294967296 xa) (val 4294967296 xb) n) j51.toNat)), (9, .box 42 15 (IsBook w0.heap.size (fun _ => True) m35 m124 ([]) 21)), (935, .val (Sz m35)), (8, .val (IsHd g33 (IsTN nb xb))), (931, .val (Sz m31)), (7, .val (IsHd g29 (IsTN na xa))), (927, .val (Sz m27)), (0, .val (IsAb w0.heap.size na xa)), (1, .val (IsAb w0.heap.size nb xb)), (2, .val (Lit (.int .u8 n))), (114, .val (Sz lo))]) (nb := []) H126 2 [2] rfl (by kernel_rfl) rfl rfl ?_ ?_
              · refine .cons (.plain rfl (ok_move (.tmp 0 rfl))) ?_
                refine .cons (.plain rfl (ok_add (r := 2) (.tmp 0 rfl) (.lit) (by decide))) ?_
                exact .nil
              clear H126 a116 w116 B116
              intro a127 w127 B127 H127
              refine ops_one ?_
              refine tail_op (D := .val (Lit (.int .i64 2))) (l' := [(11, .val (Lit (.int .i64 2))), (39, .val (Lit (.int .i64 2))), (1024, .val (Sz m124)), (17, .val (Lit (.int .i64 j113))), (1011, .val (Sz m111)), (16, .box 43 7 (A7 gs109 (ansL (val 4294967296 xb) (val 4294967296 xa) ((n + 1) % 256)))), (1003, .val (Sz m103)), (15, .val (Lit (.int .i64 j91))), (987, .val (Sz m87)), (13, .box 43 7 (A7 gs85 (ansL (val 4294967296 xa) (val 4294967296 xb) n))), (974, .val (Sz m74)), (14, .val (Lit (.int .i64 j51))), (947, .val (Sz m47)), (10, .box 43 7 (A7e m47 (ansL (val 4294967296 xa) (val 4294967296 xb) n) j51.toNat)), (9, .box 42 15 (IsBook w0.heap.size (fun _ => True) m35 m124 ([]) 21)), (935, .val (Sz m35)), (8, .val (IsHd g33 (IsTN nb xb))), (931, .val (Sz m31)), (7, .val (IsHd g29 (IsTN na xa))), (927, .val (Sz m27)), (0, .val (IsAb w0.heap.size na xa)), (1, .val (IsAb w0.heap.size nb xb)), (2, .val (Lit (.int .u8 n))), (114, .val (Sz lo))]) H127 rfl rfl rfl (.plain rfl (ok_assign (.tmp 0 rfl))) rfl rfl ?_
              clear H127 a127 w127 B127
              intro a128 w128 B128 H128
              refine ops_done ?_
              refine then_normal ?_
              rw [rounds_succ]
              refine wp_seq ?_
              refine wp_seq ?_
              refine flow_region (dsts := [some 36, some 37]) (refs := [[.pre 0], [.res 0]]) (outs := [.res 1, .pre 0, .pre 1, .pre 2, .pre 3, .pre 4, .pre 5, .pre 6, .pre 7, .pre 8, .pre 9, .pre 10, .pre 11, .pre 12, .pre 13, .pre 14, .pre 15, .pre 16, .pre 17, .pre 18, .pre 19, .pre 20, .pre 21, .pre 22, .pre 23]) (als := [false, false]) (posts := [.val (Lit (.int .i64 2)), .val (IsB true)])
                (out := [(37, .val (IsB true)), (11, .val (Lit (.int .i64 2))), (39, .val (Lit (.int .i64 2))), (1024, .val (Sz m124)), (17, .val (Lit (.int .i64 j113))), (1011, .val (Sz m111)), (16, .box 43 7 (A7 gs109 (ansL (val 4294967296 xb) (val 4294967296 xa) ((n + 1) % 256)))), (1003, .val (Sz m103)), (15, .val (Lit (.int .i64 j91))), (987, .val (Sz m87)), (13, .box 43 7 (A7 gs85 (ansL (val 4294967296 xa) (val 4294967296 xb) n))), (974, .val (Sz m74)), (14, .val (Lit (.int .i64 j51))), (947, .val (Sz m47)), (10, .box 43 7 (A7e m47 (ansL (val 4294967296 xa) (val 4294967296 xb) n) j51.toNat)), (9, .box 42 15 (IsBook w0.heap.size (fun _ => True) m35 m124 ([]) 21)), (935, .val (Sz m35)), (8, .val (IsHd g33 (IsTN nb xb))), (931, .val (Sz m31)), (7, .val (IsHd g29 (IsTN na xa))), (927, .val (Sz m27)), (0, .val (IsAb w0.heap.size na xa)), (1, .val (IsAb w0.heap.size nb xb)), (2, .val (Lit (.int .u8 n))), (114, .val (Sz lo))]) (nb := []) H128 2 [] rfl (by kernel_rfl) rfl rfl ?_ ?_
              · refine .cons (.plain rfl (ok_move (.tmp 0 rfl))) ?_
                refine .cons (.plain rfl (ok_cmp (b := true) (.tmp 0 rfl) (.lit) (by decide))) ?_
                exact .nil
              clear H128 a128 w128 B128
              intro a129 w129 B129 H129
              refine ops_done ?_
              refine then_normal ?_
              refine f_condT H129 (.tmp 0 rfl) ?_
              refine wp_skip ?_
              refine then_normal ?_
              refine wp_seq ?_
              refine wp_block ?_
              refine wp_seq ?_
              refine wp_seq ?_
              refine flow_region (dsts := [some 40, some 41]) (refs := [[.pre 1], [.res 0]]) (outs := [.res 1, .pre 1, .pre 2, .pre 3, .pre 4, .pre 5, .pre 6, .pre 7, .pre 8, .pre 9, .pre 10, .pre 11, .pre 12, .pre 13, .pre 14, .pre 15, .pre 16, .pre 17, .pre 18, .pre 19, .pre 20, .pre 21, .pre 22, .pre 23, .pre 24]) (als := [false, false]) (posts := [.val (Lit (.int .i64 2)), .val (IsB false)])
                (out := [(41, .val (IsB false)), (11, .val (Lit (.int .i64 2))), (39, .val (Lit (.int .i64 2))), (1024, .val (Sz m124)), (17, .val (Lit (.int .i64 j113))), (1011, .val (Sz m111)), (16, .box 43 7 (A7 gs109 (ansL (val 4294967296 xb) (val 4294967296 xa) ((n + 1) % 256)))), (1003, .val (Sz m103)), (15, .val (Lit (.int .i64 j91))), (987, .val (Sz m87)), (13, .box 43 7 (A7 gs85 (ansL (val 4294967296 xa) (val 4294967296 xb) n))), (974, .val (Sz m74)), (14, .val (Lit (.int .i64 j51))), (947, .val (Sz m47)), (10, .box 43 7 (A7e m47 (ansL (val 4294967296 xa) (val 4294967296 xb) n) j51.toNat)), (9, .box 42 15 (IsBook w0.heap.size (fun _ => True) m35 m124 ([]) 21)), (935, .val (Sz m35)), (8, .val (IsHd g33 (IsTN nb xb))), (931, .val (Sz m31)), (7, .val (IsHd g29 (IsTN na xa))), (927, .val (Sz m27)), (0, .val (IsAb w0.heap.size na xa)), (1, .val (IsAb w0.heap.size nb xb)), (2, .val (Lit (.int .u8 n))), (114, .val (Sz lo))]) (nb := []) H129 2 [] rfl (by kernel_rfl) rfl rfl ?_ ?_
              · refine .cons (.plain rfl (ok_move (.tmp 0 rfl))) ?_
                refine .cons (.plain rfl (ok_cmp (b := false) (.tmp 0 rfl) (.lit) (by decide))) ?_
                exact .nil
              clear H129 a129 w129 B129
              intro a130 w130 B130 H130
              refine ops_done ?_
              refine then_normal ?_
              refine f_condF H130 (.tmp 0 rfl) ?_
              refine wp_skip ?_
              refine then_normal ?_
              refine wp_seq ?_
              have H131 := St.fewerN H130 [0, 1, 2, 3, 4, 5, 6, 7, 8, 9, 11, 12, 13, 14, 15, 16, 17, 18, 19, 20, 21, 22, 23, 24] (l' := [(41, .val (IsB false)), (11, .val (Lit (.int .i64 2))), (39, .val (Lit (.int .i64 2))), (1024, .val (Sz m124)), (17, .val (Lit (.int .i64 j113))), (1011, .val (Sz m111)), (16, .box 43 7 (A7 gs109 (ansL (val 4294967296 xb) (val 4294967296 xa) ((n + 1) % 256)))), (1003, .val (Sz m103)), (15, .val (Lit (.int .i64 j91))), (987, .val (Sz m87)), (974, .val (Sz m74)), (14, .val (Lit (.int .i64 j51))), (947, .val (Sz m47)), (10, .box 43 7 (A7e m47 (ansL (val 4294967296 xa) (val 4294967296 xb) n) j51.toNat)), (9, .box 42 15 (IsBook w0.heap.size (fun _ => True) m35 m124 ([]) 21)), (935, .val (Sz m35)), (8, .val (IsHd g33 (IsTN nb xb))), (931, .val (Sz m31)), (7, .val (IsHd g29 (IsTN na xa))), (927, .val (Sz m27)), (0, .val (IsAb w0.heap.size na xa)), (1, .val (IsAb w0.heap.size nb xb)), (2, .val (Lit (.int .u8 n))), (114, .val (Sz lo))]) (bxs' := [16, 10, 9]) rfl rfl
              clear H130
              refine flow_region (dsts := [some 54, some 55, some 56, some 57, some 13]) (refs := [[.pre 18], [.pre 16], [.pre 22], [.res 0, .res 1, .res 2, .pre 3], []]) (outs := [.res 3, .res 4, .pre 1, .pre 2, .pre 3, .pre 4, .pre 5, .pre 6, .pre 7, .pre 8, .pre 9, .pre 10, .pre 11, .pre 12, .pre 13, .pre 14, .pre 15, .pre 16, .pre 17, .pre 18, .pre 19, .pre 20, .pre 21, .pre 22, .pre 23]) (als := [false, false, false, false, true]) (posts := [.val (IsHd g29 (IsTN na xa)), .val (IsHd g33 (IsTN nb xb)), .val (Lit (.int .u8 n)), .val (A7v m124 (ansL (val 4294967296 xa) (val 4294967296 xb) n)), .box 43 7 (A7s)])
                (out := [(57, .val (A7v m124 (ansL (val 4294967296 xa) (val 4294967296 xb) n))), (13, .box 43 7 (A7s)), (11, .val (Lit (.int .i64 2))), (39, .val (Lit (.int .i64 2))), (1024, .val (Sz m124)), (17, .val (Lit (.int .i64 j113))), (1011, .val (Sz m111)), (16, .box 43 7 (A7 gs109 (ansL (val 4294967296 xb) (val 4294967296 xa) ((n + 1) % 256)))), (1003, .val (Sz m103)), (15, .val (Lit (.int .i64 j91))), (987, .val (Sz m87)), (974, .val (Sz m74)), (14, .val (Lit (.int .i64 j51))), (947, .val (Sz m47)), (10, .box 43 7 (A7e m47 (ansL (val 4294967296 xa) (val 4294967296 xb) n) j51.toNat)), (9, .box 42 15 (IsBook w0.heap.size (fun _ => True) m35 m124 ([]) 21)), (935, .val (Sz m35)), (8, .val (IsHd g33 (IsTN nb xb))), (931, .val (Sz m31)), (7, .val (IsHd g29 (IsTN na xa))), (927, .val (Sz m27)), (0, .val (IsAb w0.heap.size na xa)), (1, .val (IsAb w0.heap.size nb xb)), (2, .val (Lit (.int .u8 n))), (114, .val (Sz lo))]) (nb := [13]) H131 5 [5] rfl (by kernel_rfl) rfl rfl ?_ ?_
              · refine .cons (.plain rfl (ok_move (.tmp 0 rfl))) ?_
                refine .cons (.plain rfl (ok_move (.tmp 0 rfl))) ?_
                refine .cons (.plain rfl (ok_move (.tmp 0 rfl))) ?_
                refine .cons (.plain rfl (ok_callF 3 (con_answersF (val 4294967296 xa) (val 4294967296 xb) n (fit_listN la da (by omega)) (fit_listN lb db (by omega)) (by omega)) rfl (.cons (.weak (.weak (.weak (.tmp 0 rfl) weakHd) weakTNAn) (weakAnM (by omega))) (.cons (.weak (.weak (.weak (.tmp 1 rfl) weakHd) weakTNAn) (weakAnM (by omega))) (.cons (.tmp 2 rfl) (.nil)))))) ?_
                refine .cons (.plain rfl (ok_alloc7s)) ?_
                exact .nil
              clear H131 a130 w130 B130
              intro a132 w132 B132 H132
              simp only [List.cons_append, List.nil_append] at H132
              refine ops_one ?_
              refine store_op (l' := [(57, .val (A7v m124 (ansL (val 4294967296 xa) (val 4294967296 xb) n))), (13, .box 43 7 (A7v m124 (ansL (val 4294967296 xa) (val 4294967296 xb) n))), (11, .val (Lit (.int .i64 2))), (39, .val (Lit (.int .i64 2))), (1024, .val (Sz m124)), (17, .val (Lit (.int .i64 j113))), (1011, .val (Sz m111)), (16, .box 43 7 (A7 gs109 (ansL (val 4294967296 xb) (val 4294967296 xa) ((n + 1) % 256)))), (1003, .val (Sz m103)), (15, .val (Lit (.int .i64 j91))), (987, .val (Sz m87)), (974, .val (Sz m74)), (14, .val (Lit (.int .i64 j51))), (947, .val (Sz m47)), (10, .box 43 7 (A7e m47 (ansL (val 4294967296 xa) (val 4294967296 xb) n) j51.toNat)), (9, .box 42 15 (IsBook w0.heap.size (fun _ => True) m35 m124 ([]) 21)), (935, .val (Sz m35)), (8, .val (IsHd g33 (IsTN nb xb))), (931, .val (Sz m31)), (7, .val (IsHd g29 (IsTN na xa))), (927, .val (Sz m27)), (0, .val (IsAb w0.heap.size na xa)), (1, .val (IsAb w0.heap.size nb xb)), (2, .val (Lit (.int .u8 n))), (114, .val (Sz lo))]) 1 H132 rfl tyA7 rfl (.tmp 0 rfl) shape_7s shape_7v rfl rfl ?_
              clear H132 w132
              intro w133 H133
              refine ops_done ?_
              refine then_normal ?_
              refine wp_seq ?_
              refine wp_seq ?_
              obtain ⟨gs134, hgs134, H134⟩ := St.name7 H133 1 rfl (l' := fun gs134 => [(57, .val (A7v m124 (ansL (val 4294967296 xa) (val 4294967296 xb) n))), (13, .box 43 7 (A7 gs134 (ansL (val 4294967296 xa) (val 4294967296 xb) n))), (11, .val (Lit (.int .i64 2))), (39, .val (Lit (.int .i64 2))), (1024, .val (Sz m124)), (17, .val (Lit (.int .i64 j113))), (1011, .val (Sz m111)), (16, .box 43 7 (A7 gs109 (ansL (val 4294967296 xb) (val 4294967296 xa) ((n + 1) % 256)))), (1003, .val (Sz m103)), (15, .val (Lit (.int .i64 j91))), (987, .val (Sz m87)), (974, .val (Sz m74)), (14, .val (Lit (.int .i64 j51))), (947, .val (Sz m47)), (10, .box 43 7 (A7e m47 (ansL (val 4294967296 xa) (val 4294967296 xb) n) j51.toNat)), (9, .box 42 15 (IsBook w0.heap.size (fun _ => True) m35 m124 ([]) 21)), (935, .val (Sz m35)), (8, .val (IsHd g33 (IsTN nb xb))), (931, .val (Sz m31)), (7, .val (IsHd g29 (IsTN na xa))), (927, .val (Sz m27)), (0, .val (IsAb w0.heap.size na xa)), (1, .val (IsAb w0.heap.size nb xb)), (2, .val (Lit (.int .u8 n))), (114, .val (Sz lo))]) (fun _ => rfl)
              clear H133
              replace H134 : St 114 w0 B0 a132 w133 B132 [(57, .val (A7v m124 (ansL (val 4294967296 xa) (val 4294967296 xb) n))), (13, .box 43 7 (A7 gs134 (ansL (val 4294967296 xa) (val 4294967296 xb) n))), (11, .val (Lit (.int .i64 2))), (39, .val (Lit (.int .i64 2))), (1024, .val (Sz m124)), (17, .val (Lit (.int .i64 j113))), (1011, .val (Sz m111)), (16, .box 43 7 (A7 gs109 (ansL (val 4294967296 xb) (val 4294967296 xa) ((n + 1) % 256)))), (1003, .val (Sz m103)), (15, .val (Lit (.int .i64 j91))), (987, .val (Sz m87)), (974, .val (Sz m74)), (14, .val (Lit (.int .i64 j51))), (947, .val (Sz m47)), (10, .box 43 7 (A7e m47 (ansL (val 4294967296 xa) (val 4294967296 xb) n) j51.toNat)), (9, .box 42 15 (IsBook w0.heap.size (fun _ => True) m35 m124 ([]) 21)), (935, .val (Sz m35)), (8, .val (IsHd g33 (IsTN nb xb))), (931, .val (Sz m31)), (7, .val (IsHd g29 (IsTN na xa))), (927, .val (Sz m27)), (0, .val (IsAb w0.heap.size na xa)), (1, .val (IsAb w0.heap.size nb xb)), (2, .val (Lit (.int .u8 n))), (114, .val (Sz lo))] [13, 16, 10, 9] := H134
              have hz135 : m124 ≤ w133.heap.size := H134.fc.get 4 rfl
              obtain ⟨m136, hm136, hw136, hL136, H136⟩ := St.mark H134 1036
              clear H134
              clear hL136
              replace hz135 : m124 ≤ m136 := Nat.le_trans hz135 hw136
              replace hgs134 := hgs134.mono hw136
              clear hw136
              refine flow_region (dsts := [some 58, some 59]) (refs := [[.pre 3], [.res 0]]) (outs := [.res 1, .pre 0, .pre 2, .pre 3, .pre 4, .pre 5, .pre 6, .pre 7, .pre 8, .pre 9, .pre 10, .pre 11, .pre 12, .pre 13, .pre 14, .pre 15, .pre 16, .pre 17, .pre 18, .pre 19, .pre 20, .pre 21, .pre 22, .pre 23, .pre 24, .pre 25]) (als := [false, false]) (posts := [.val (Lit (.int .i64 2)), .val (IsB false)])
                (out := [(59, .val (IsB false)), (1036, .val (Sz m136)), (13, .box 43 7 (A7 gs134 (ansL (val 4294967296 xa) (val 4294967296 xb) n))), (11, .val (Lit (.int .i64 2))), (39, .val (Lit (.int .i64 2))), (1024, .val (Sz m124)), (17, .val (Lit (.int .i64 j113))), (1011, .val (Sz m111)), (16, .box 43 7 (A7 gs109 (ansL (val 4294967296 xb) (val 4294967296 xa) ((n + 1) % 256)))), (1003, .val (Sz m103)), (15, .val (Lit (.int .i64 j91))), (987, .val (Sz m87)), (974, .val (Sz m74)), (14, .val (Lit (.int .i64 j51))), (947, .val (Sz m47)), (10, .box 43 7 (A7e m47 (ansL (val 4294967296 xa) (val 4294967296 xb) n) j51.toNat)), (9, .box 42 15 (IsBook w0.heap.size (fun _ => True) m35 m124 ([]) 21)), (935, .val (Sz m35)), (8, .val (IsHd g33 (IsTN nb xb))), (931, .val (Sz m31)), (7, .val (IsHd g29 (IsTN na xa))), (927, .val (Sz m27)), (0, .val (IsAb w0.heap.size na xa)), (1, .val (IsAb w0.heap.size nb xb)), (2, .val (Lit (.int .u8 n))), (114, .val (Sz lo))]) (nb := []) H136 2 [] rfl (by kernel_rfl) rfl rfl ?_ ?_
              · refine .cons (.plain rfl (ok_move (.tmp 0 rfl))) ?_
                refine .cons (.plain rfl (ok_cmp (b := false) (.tmp 0 rfl) (.lit) (by decide))) ?_
                exact .nil
              clear H136 a132 w133 B132
              intro a137 w137 B137 H137
              refine ops_done ?_
              refine then_normal ?_
              refine f_condF H137 (.tmp 0 rfl) ?_
              refine wp_skip ?_
              refine then_normal ?_
              refine wp_seq ?_
              refine wp_seq ?_
              refine flow_region (dsts := [some 70, some 71]) (refs := [[.pre 3], [.res 0]]) (outs := [.res 1, .pre 1, .pre 2, .pre 3, .pre 4, .pre 5, .pre 6, .pre 7, .pre 8, .pre 9, .pre 10, .pre 11, .pre 12, .pre 13, .pre 14, .pre 15, .pre 16, .pre 17, .pre 18, .pre 19, .pre 20, .pre 21, .pre 22, .pre 23, .pre 24, .pre 25]) (als := [false, false]) (posts := [.val (Lit (.int .i64 2)), .val (IsB false)])
                (out := [(71, .val (IsB false)), (1036, .val (Sz m136)), (13, .box 43 7 (A7 gs134 (ansL (val 4294967296 xa) (val 4294967296 xb) n))), (11, .val (Lit (.int .i64 2))), (39, .val (Lit (.int .i64 2))), (1024, .val (Sz m124)), (17, .val (Lit (.int .i64 j113))), (1011, .val (Sz m111)), (16, .box 43 7 (A7 gs109 (ansL (val 4294967296 xb) (val 4294967296 xa) ((n + 1) % 256)))), (1003, .val (Sz m103)), (15, .val (Lit (.int .i64 j91))), (987, .val (Sz m87)), (974, .val (Sz m74)), (14, .val (Lit (.int .i64 j51))), (947, .val (Sz m47)), (10, .box 43 7 (A7e m47 (ansL (val 4294967296 xa) (val 4294967296 xb) n) j51.toNat)), (9, .box 42 15 (IsBook w0.heap.size (fun _ => True) m35 m124 ([]) 21)), (935, .val (Sz m35)), (8, .val (IsHd g33 (IsTN nb xb))), (931, .val (Sz m31)), (7, .val (IsHd g29 (IsTN na xa))), (927, .val (Sz m27)), (0, .val (IsAb w0.heap.size na xa)), (1, .val (IsAb w0.heap.size nb xb)), (2, .val (Lit (.int .u8 n))), (114, .val (Sz lo))]) (nb := []) H137 2 [] rfl (by kernel_rfl) rfl rfl ?_ ?_
              · refine .cons (.plain rfl (ok_move (.tmp 0 rfl))) ?_
                refine .cons (.plain rfl (ok_cmp (b := false) (.tmp 0 rfl) (.lit) (by decide))) ?_
                exact .nil
              clear H137 a137 w137 B137
              intro a138 w138 B138 H138
              refine ops_done ?_
              refine then_normal ?_
              refine f_condF H138 (.tmp 0 rfl) ?_
              refine wp_skip ?_
              refine then_normal ?_
              refine wp_seq ?_
              refine wp_seq ?_
              refine flow_region (dsts := [some 15]) (refs := [[]]) (outs := [.res 0, .pre 1, .pre 2, .pre 3, .pre 4, .pre 5, .pre 6, .pre 7, .pre 8, .pre 9, .pre 11, .pre 12, .pre 13, .pre 14, .pre 15, .pre 16, .pre 17, .pre 18, .pre 19, .pre 20, .pre 21, .pre 22, .pre 23, .pre 24, .pre 25]) (als := [false]) (posts := [.val (Lit (.int .i64 0))])
                (out := [(15, .val (Lit (.int .i64 0))), (1036, .val (Sz m136)), (13, .box 43 7 (A7 gs134 (ansL (val 4294967296 xa) (val 4294967296 xb) n))), (11, .val (Lit (.int .i64 2))), (39, .val (Lit (.int .i64 2))), (1024, .val (Sz m124)), (17, .val (Lit (.int .i64 j113))), (1011, .val (Sz m111)), (16, .box 43 7 (A7 gs109 (ansL (val 4294967296 xb) (val 4294967296 xa) ((n + 1) % 256)))), (1003, .val (Sz m103)), (987, .val (Sz m87)), (974, .val (Sz m74)), (14, .val (Lit (.int .i64 j51))), (947, .val (Sz m47)), (10, .box 43 7 (A7e m47 (ansL (val 4294967296 xa) (val 4294967296 xb) n) j51.toNat)), (9, .box 42 15 (IsBook w0.heap.size (fun _ => True) m35 m124 ([]) 21)), (935, .val (Sz m35)), (8, .val (IsHd g33 (IsTN nb xb))), (931, .val (Sz m31)), (7, .val (IsHd g29 (IsTN na xa))), (927, .val (Sz m27)), (0, .val (IsAb w0.heap.size na xa)), (1, .val (IsAb w0.heap.size nb xb)), (2, .val (Lit (.int .u8 n))), (114, .val (Sz lo))]) (nb := []) H138 1 [] rfl (by kernel_rfl) rfl rfl ?_ ?_
              · refine .cons (.plain rfl (ok_assign (.lit))) ?_
                exact .nil
              clear H138 a138 w138 B138
              intro a139 w139 B139 H139
              refine ops_done ?_
              refine then_normal ?_
              refine wp_block ?_
              have H141 := St.fewerF H139 [0, 1, 2, 3, 4, 5, 6, 7, 8, 9, 10, 11, 12, 13, 14, 15, 16, 17, 18, 19, 20, 21, 22, 23, 24] (l' := [(15, .val (Lit (.int .i64 0))), (1036, .val (Sz m136)), (13, .box 43 7 (A7 gs134 (ansL (val 4294967296 xa) (val 4294967296 xb) n))), (11, .val (Lit (.int .i64 2))), (39, .val (Lit (.int .i64 2))), (1024, .val (Sz m124)), (17, .val (Lit (.int .i64 j113))), (1011, .val (Sz m111)), (16, .box 43 7 (A7 gs109 (ansL (val 4294967296 xb) (val 4294967296 xa) ((n + 1) % 256)))), (1003, .val (Sz m103)), (987, .val (Sz m87)), (974, .val (Sz m74)), (14, .val (Lit (.int .i64 j51))), (947, .val (Sz m47)), (10, .box 43 7 (A7e m47 (ansL (val 4294967296 xa) (val 4294967296 xb) n) j51.toNat)), (9, .box 42 15 (IsBook w0.heap.size (fun _ => True) m35 m124 ([]) 21)), (935, .val (Sz m35)), (8, .val (IsHd g33 (IsTN nb xb))), (931, .val (Sz m31)), (7, .val (IsHd g29 (IsTN na xa))), (927, .val (Sz m27)), (0, .val (IsAb w0.heap.size na xa)), (1, .val (IsAb w0.heap.size nb xb)), (2, .val (Lit (.int .u8 n))), (114, .val (Sz lo))]) rfl
              clear H139
              refine f_loop (fun (j140 : Int) => [(15, .val (Lit (.int .i64 j140))), (1036, .val (Sz m136)), (13, .box 43 7 (A7 gs134 (ansL (val 4294967296 xa) (val 4294967296 xb) n))), (11, .val (Lit (.int .i64 2))), (39, .val (Lit (.int .i64 2))), (1024, .val (Sz m124)), (17, .val (Lit (.int .i64 j113))), (1011, .val (Sz m111)), (16, .box 43 7 (A7 gs109 (ansL (val 4294967296 xb) (val 4294967296 xa) ((n + 1) % 256)))), (1003, .val (Sz m103)), (987, .val (Sz m87)), (974, .val (Sz m74)), (14, .val (Lit (.int .i64 j51))), (947, .val (Sz m47)), (10, .box 43 7 (A7e m47 (ansL (val 4294967296 xa) (val 4294967296 xb) n) j51.toNat)), (9, .box 42 15 (IsBook w0.heap.size (fun _ => True) m35 m124 (List.reverse (List.take j140.toNat gs134)) (21 + j140.toNat))), (935, .val (Sz m35)), (8, .val (IsHd g33 (IsTN nb xb))), (931, .val (Sz m31)), (7, .val (IsHd g29 (IsTN na xa))), (927, .val (Sz m27)), (0, .val (IsAb w0.heap.size na xa)), (1, .val (IsAb w0.heap.size nb xb)), (2, .val (Lit (.int .u8 n))), (114, .val (Sz lo))]) (fun (j140 : Int) => 0 ≤ j140 ∧ j140 ≤ 7) (fun (j140 : Int) => (7 - j140).toNat) (0) (St.pick H141 [0, 1, 2, 3, 4, 5, 6, 7, 8, 9, 10, 11, 12, 13, 14, 15, 16, 17, 18, 19, 20, 21, 22, 23, 24] rfl) (by exact ⟨by omega, by omega⟩) ?_
              clear H141 a139 w139 B139
              rintro j140 a142 w142 B142 hI142 H142
              replace hI142 : 0 ≤ j140 ∧ j140 ≤ 7 := hI142
              replace H142 : St 114 w0 B0 a142 w142 B142 [(15, .val (Lit (.int .i64 j140))), (1036, .val (Sz m136)), (13, .box 43 7 (A7 gs134 (ansL (val 4294967296 xa) (val 4294967296 xb) n))), (11, .val (Lit (.int .i64 2))), (39, .val (Lit (.int .i64 2))), (1024, .val (Sz m124)), (17, .val (Lit (.int .i64 j113))), (1011, .val (Sz m111)), (16, .box 43 7 (A7 gs109 (ansL (val 4294967296 xb) (val 4294967296 xa) ((n + 1) % 256)))), (1003, .val (Sz m103)), (987, .val (Sz m87)), (974, .val (Sz m74)), (14, .val (Lit (.int .i64 j51))), (947, .val (Sz m47)), (10, .box 43 7 (A7e m47 (ansL (val 4294967296 xa) (val 4294967296 xb) n) j51.toNat)), (9, .box 42 15 (IsBook w0.heap.size (fun _ => True) m35 m124 (List.reverse (List.take j140.toNat gs134)) (21 + j140.toNat))), (935, .val (Sz m35)), (8, .val (IsHd g33 (IsTN nb xb))), (931, .val (Sz m31)), (7, .val (IsHd g29 (IsTN na xa))), (927, .val (Sz m27)), (0, .val (IsAb w0.heap.size na xa)), (1, .val (IsAb w0.heap.size nb xb)), (2, .val (Lit (.int .u8 n))), (114, .val (Sz lo))] [13, 16, 10, 9] := H142
              refine wp_seq ?_
              refine wp_seq ?_
              refine flow_region (dsts := [some 78, some 79]) (refs := [[.pre 0], [.res 0]]) (outs := [.res 1, .pre 0, .pre 1, .pre 2, .pre 3, .pre 4, .pre 5, .pre 6, .pre 7, .pre 8, .pre 9, .pre 10, .pre 11, .pre 12, .pre 13, .pre 14, .pre 15, .pre 16, .pre 17, .pre 18, .pre 19, .pre 20, .pre 21, .pre 22, .pre 23, .pre 24]) (als := [false, false]) (posts := [.val (Lit (.int .i64 j140)), .val (IsB (decide (j140 < 7)))])
                (out := [(79, .val (IsB (decide (j140 < 7)))), (15, .val (Lit (.int .i64 j140))), (1036, .val (Sz m136)), (13, .box 43 7 (A7 gs134 (ansL (val 4294967296 xa) (val 4294967296 xb) n))), (11, .val (Lit (.int .i64 2))), (39, .val (Lit (.int .i64 2))), (1024, .val (Sz m124)), (17, .val (Lit (.int .i64 j113))), (1011, .val (Sz m111)), (16, .box 43 7 (A7 gs109 (ansL (val 4294967296 xb) (val 4294967296 xa) ((n + 1) % 256)))), (1003, .val (Sz m103)), (987, .val (Sz m87)), (974, .val (Sz m74)), (14, .val (Lit (.int .i64 j51))), (947, .val (Sz m47)), (10, .box 43 7 (A7e m47 (ansL (val 4294967296 xa) (val 4294967296 xb) n) j51.toNat)), (9, .box 42 15 (IsBook w0.heap.size (fun _ => True) m35 m124 (List.reverse (List.take j140.toNat gs134)) (21 + j140.toNat))), (935, .val (Sz m35)), (8, .val (IsHd g33 (IsTN nb xb))), (931, .val (Sz m31)), (7, .val (IsHd g29 (IsTN na xa))), (927, .val (Sz m27)), (0, .val (IsAb w0.heap.size na xa)), (1, .val (IsAb w0.heap.size nb xb)), (2, .val (Lit (.int .u8 n))), (114, .val (Sz lo))]) (nb := []) H142 2 [] rfl (by kernel_rfl) rfl rfl ?_ ?_
              · refine .cons (.plain rfl (ok_move (.tmp 0 rfl))) ?_
                refine .cons (.plain rfl (ok_cmp (.tmp 0 rfl) (.lit) rfl)) ?_
                exact .nil
              clear H142 a142 w142 B142
              intro a143 w143 B143 H143
              refine ops_done ?_
              refine then_normal ?_
              refine f_cond H143 (.tmp 0 rfl) ?_ ?_
              · intro hc144
                replace hc144 := of_decide_eq_true hc144
                refine wp_skip ?_
                refine then_normal ?_
                refine wp_seq ?_
                refine wp_block ?_
                refine wp_seq ?_
                refine wp_seq ?_
                refine flow_drawT (dsts := [some 82, some 83, some 84, some 85, some 86, some 87, some 88, some 89]) (refs := [[.pre 1], [.pre 3, .res 0], [.res 1], [.pre 1], [.pre 15, .res 3], [.res 4], [.res 2, .res 5], [.res 6]]) (outs := [.res 7, .pre 1, .pre 2, .pre 3, .pre 4, .pre 5, .pre 6, .pre 7, .pre 8, .pre 9, .pre 10, .pre 11, .pre 12, .pre 13, .pre 14, .pre 15, .pre 16, .pre 17, .pre 18, .pre 19, .pre 20, .pre 21, .pre 22, .pre 23, .pre 24, .pre 25]) (als := [false, false, false, false, false, false, false, false]) (posts := [.val (Lit (.int .i64 j140)), .ptr 43 7 (A7 gs134 (ansL (val 4294967296 xa) (val 4294967296 xb) n)) (j140.toNat), .val (IsHd (List.getD gs134 j140.toNat none) (IsC (List.getD (ansL (val 4294967296 xa) (val 4294967296 xb) n) j140.toNat 0))), .val (Lit (.int .i64 j140)), .ptr 43 7 (A7e m47 (ansL (val 4294967296 xa) (val 4294967296 xb) n) j51.toNat) (j140.toNat), .val (IsFr m47 (IsC (List.getD (ansL (val 4294967296 xa) (val 4294967296 xb) n) j140.toNat 0))), .val (IsB true), .val (IsB false)])
                  (out := [(89, .val (IsB false)), (15, .val (Lit (.int .i64 j140))), (1036, .val (Sz m136)), (13, .box 43 7 (A7 gs134 (ansL (val 4294967296 xa) (val 4294967296 xb) n))), (11, .val (Lit (.int .i64 2))), (39, .val (Lit (.int .i64 2))), (1024, .val (Sz m124)), (17, .val (Lit (.int .i64 j113))), (1011, .val (Sz m111)), (16, .box 43 7 (A7 gs109 (ansL (val 4294967296 xb) (val 4294967296 xa) ((n + 1) % 256)))), (1003, .val (Sz m103)), (987, .val (Sz m87)), (974, .val (Sz m74)), (14, .val (Lit (.int .i64 j51))), (947, .val (Sz m47)), (10, .box 43 7 (A7e m47 (ansL (val 4294967296 xa) (val 4294967296 xb) n) j51.toNat)), (9, .box 42 15 (IsBook w0.heap.size (fun _ => True) m35 m124 (List.reverse (List.take j140.toNat gs134)) (21 + j140.toNat))), (935, .val (Sz m35)), (8, .val (IsHd g33 (IsTN nb xb))), (931, .val (Sz m31)), (7, .val (IsHd g29 (IsTN na xa))), (927, .val (Sz m27)), (0, .val (IsAb w0.heap.size na xa)), (1, .val (IsAb w0.heap.size nb xb)), (2, .val (Lit (.int .u8 n))), (114, .val (Sz lo))]) (nb := []) H143 (by kernel_rfl) 8 0 #[true, true, true, true, true, true, true, true] (by kernel_rfl) (by kernel_rfl) rfl rfl ?_ ?_
                · refine .cons (.plain rfl (ok_move (.tmp 0 rfl))) ?_
                  refine .cons (.plain rfl (ok_idx7 j140.toNat (by omega) (by omega) (.tmp 0 rfl) (.tmp 1 rfl))) ?_
                  refine .cons (.plain rfl (ok_load7 (by omega) (.tmp 0 rfl))) ?_
                  refine .cons (.plain rfl (ok_move (.tmp 0 rfl))) ?_
                  refine .cons (.plain rfl (ok_idx7 j140.toNat (by omega) (by omega) (.tmp 0 rfl) (.tmp 1 rfl))) ?_
                  refine .cons (.plain rfl (ok_load7e (by omega) (by omega) (.tmp 0 rfl))) ?_
                  refine .cons (.plain rfl (ok_call (con_sameC (List.getD (ansL (val 4294967296 xa) (val 4294967296 xb) n) j140.toNat 0)) (.cons (.weak (.tmp 0 rfl) weakHd) (.cons (.weak (.tmp 1 rfl) weakFr) (.nil))))) ?_
                  refine .cons (.plain rfl (ok_not (b := true) (.tmp 0 rfl))) ?_
                  exact .nil
                clear H143 a143 w143 B143
                intro a145 w145 B145 H145
                refine any_done (by kernel_rfl) ?_
                refine then_normal ?_
                refine f_condF H145 (.tmp 0 rfl) ?_
                refine wp_skip ?_
                refine then_normal ?_
                refine flow_region (dsts := [some 90, some 91, some 92]) (refs := [[.pre 1], [.pre 3, .res 0], [.res 1]]) (outs := [.res 2, .pre 1, .pre 2, .pre 3, .pre 4, .pre 5, .pre 6, .pre 7, .pre 8, .pre 9, .pre 10, .pre 11, .pre 12, .pre 13, .pre 14, .pre 15, .pre 16, .pre 17, .pre 18, .pre 19, .pre 20, .pre 21, .pre 22, .pre 23, .pre 24, .pre 25]) (als := [false, false, false]) (posts := [.val (Lit (.int .i64 j140)), .ptr 43 7 (A7 gs134 (ansL (val 4294967296 xa) (val 4294967296 xb) n)) (j140.toNat), .val (IsHd (List.getD gs134 j140.toNat none) (IsC (List.getD (ansL (val 4294967296 xa) (val 4294967296 xb) n) j140.toNat 0)))])
                  (out := [(92, .val (IsHd (List.getD gs134 j140.toNat none) (IsC (List.getD (ansL (val 4294967296 xa) (val 4294967296 xb) n) j140.toNat 0)))), (15, .val (Lit (.int .i64 j140))), (1036, .val (Sz m136)), (13, .box 43 7 (A7 gs134 (ansL (val 4294967296 xa) (val 4294967296 xb) n))), (11, .val (Lit (.int .i64 2))), (39, .val (Lit (.int .i64 2))), (1024, .val (Sz m124)), (17, .val (Lit (.int .i64 j113))), (1011, .val (Sz m111)), (16, .box 43 7 (A7 gs109 (ansL (val 4294967296 xb) (val 4294967296 xa) ((n + 1) % 256)))), (1003, .val (Sz m103)), (987, .val (Sz m87)), (974, .val (Sz m74)), (14, .val (Lit (.int .i64 j51))), (947, .val (Sz m47)), (10, .box 43 7 (A7e m47 (ansL (val 4294967296 xa) (val 4294967296 xb) n) j51.toNat)), (9, .box 42 15 (IsBook w0.heap.size (fun _ => True) m35 m124 (List.reverse (List.take j140.toNat gs134)) (21 + j140.toNat))), (935, .val (Sz m35)), (8, .val (IsHd g33 (IsTN nb xb))), (931, .val (Sz m31)), (7, .val (IsHd g29 (IsTN na xa))), (927, .val (Sz m27)), (0, .val (IsAb w0.heap.size na xa)), (1, .val (IsAb w0.heap.size nb xb)), (2, .val (Lit (.int .u8 n))), (114, .val (Sz lo))]) (nb := []) H145 3 [3] rfl (by kernel_rfl) rfl rfl ?_ ?_
                · refine .cons (.plain rfl (ok_move (.tmp 0 rfl))) ?_
                  refine .cons (.plain rfl (ok_idx7 j140.toNat (by omega) (by omega) (.tmp 0 rfl) (.tmp 1 rfl))) ?_
                  refine .cons (.plain rfl (ok_load7 (by omega) (.tmp 0 rfl))) ?_
                  exact .nil
                clear H145 a145 w145 B145
                intro a146 w146 B146 H146
                refine ops_one ?_
                have hk147 : ∀ b, (List.getD gs134 j140.toNat none) = some b → w0.heap.size ≤ b ∧ ¬ (m35 ≤ b ∧ b < m124) ∧ some b ∉ (List.reverse (List.take j140.toNat gs134)) := fun b hb => ⟨by have := hgs134.lo _ b hb; omega, fun hx => by have := hgs134.lo _ b hb; omega, hgs134.notin (by omega) hb⟩
                refine keep_op (cnt := 21 + j140.toNat) (ks := [(92, .val (IsHd (List.getD gs134 j140.toNat none) (IsC (List.getD (ansL (val 4294967296 xa) (val 4294967296 xb) n) j140.toNat 0)))), (15, .val (Lit (.int .i64 j140))), (1036, .val (Sz m136)), (13, .box 43 7 (A7 gs134 (ansL (val 4294967296 xa) (val 4294967296 xb) n))), (11, .val (Lit (.int .i64 2))), (39, .val (Lit (.int .i64 2))), (1024, .val (Sz m124)), (17, .val (Lit (.int .i64 j113))), (1011, .val (Sz m111)), (16, .box 43 7 (A7 gs109 (ansL (val 4294967296 xb) (val 4294967296 xa) ((n + 1) % 256)))), (1003, .val (Sz m103)), (987, .val (Sz m87)), (974, .val (Sz m74)), (14, .val (Lit (.int .i64 j51))), (947, .val (Sz m47)), (10, .box 43 7 (A7e m47 (ansL (val 4294967296 xa) (val 4294967296 xb) n) j51.toNat)), (935, .val (Sz m35)), (8, .val (IsHd g33 (IsTN nb xb))), (931, .val (Sz m31)), (7, .val (IsHd g29 (IsTN na xa))), (927, .val (Sz m27)), (0, .val (IsAb w0.heap.size na xa)), (1, .val (IsAb w0.heap.size nb xb)), (2, .val (Lit (.int .u8 n))), (114, .val (Sz lo))]) (l' := [(9, .box 42 15 (IsBook w0.heap.size (fun _ => True) m35 m124 ((List.getD gs134 j140.toNat none) :: (List.reverse (List.take j140.toNat gs134))) (21 + j140.toNat + 1))), (92, .val (IsHd (List.getD gs134 j140.toNat none) (IsC (List.getD (ansL (val 4294967296 xa) (val 4294967296 xb) n) j140.toNat 0)))), (15, .val (Lit (.int .i64 j140))), (1036, .val (Sz m136)), (13, .box 43 7 (A7 gs134 (ansL (val 4294967296 xa) (val 4294967296 xb) n))), (11, .val (Lit (.int .i64 2))), (39, .val (Lit (.int .i64 2))), (1024, .val (Sz m124)), (17, .val (Lit (.int .i64 j113))), (1011, .val (Sz m111)), (16, .box 43 7 (A7 gs109 (ansL (val 4294967296 xb) (val 4294967296 xa) ((n + 1) % 256)))), (1003, .val (Sz m103)), (987, .val (Sz m87)), (974, .val (Sz m74)), (14, .val (Lit (.int .i64 j51))), (947, .val (Sz m47)), (10, .box 43 7 (A7e m47 (ansL (val 4294967296 xa) (val 4294967296 xb) n) j51.toNat)), (935, .val (Sz m35)), (8, .val (IsHd g33 (IsTN nb xb))), (931, .val (Sz m31)), (7, .val (IsHd g29 (IsTN na xa))), (927, .val (Sz m27)), (0, .val (IsAb w0.heap.size na xa)), (1, .val (IsAb w0.heap.size nb xb)), (2, .val (Lit (.int .u8 n))), (114, .val (Sz lo))]) 16 [0, 1, 2, 3, 4, 5, 6, 7, 8, 9, 10, 11, 12, 13, 14, 15, 17, 18, 19, 20, 21, 22, 23, 24, 25] H146 rfl (fun _ _ => by go_simp) keep_nat rfl (rfl) (.tmp 0 rfl) (by omega) (fun _ _ => trivial) hk147 rfl (by kernel_rfl) (.cons (keptB_hd loc_C) (.cons (keptB_lit) (.cons (keptB_sz) (.cons (keptB_box (by decide) keptB_7) (.cons (keptB_lit) (.cons (keptB_lit) (.cons (keptB_sz) (.cons (keptB_lit) (.cons (keptB_sz) (.cons (keptB_box (by decide) keptB_7) (.cons (keptB_sz) (.cons (keptB_sz) (.cons (keptB_sz) (.cons (keptB_lit) (.cons (keptB_sz) (.cons (keptB_box (by decide) keptB_7e) (.cons (keptB_sz) (.cons (keptB_hd loc_TN) (.cons (keptB_sz) (.cons (keptB_hd loc_TN) (.cons (keptB_sz) (.cons (keptB_ab (Nat.le_refl _)) (.cons (keptB_ab (Nat.le_refl _)) (.cons (keptB_lit) (.cons (keptB_sz) (.nil)))))))))))))))))))))))))) (by decide) rfl ?_
                clear H146 hk147 a146 w146 B146
                intro a147 w147 B147 H147
                refine ops_done ?_
                refine block_normal ?_
                refine then_normal ?_
                refine flow_region (dsts := [some 80, some 81]) (refs := [[.pre 2], [.res 0]]) (outs := [.res 1, .pre 0, .pre 2, .pre 3, .pre 4, .pre 5, .pre 6, .pre 7, .pre 8, .pre 9, .pre 10, .pre 11, .pre 12, .pre 13, .pre 14, .pre 15, .pre 16, .pre 17, .pre 18, .pre 19, .pre 20, .pre 21, .pre 22, .pre 23, .pre 24, .pre 25]) (als := [false, false]) (posts := [.val (Lit (.int .i64 j140)), .val (Lit (.int .i64 (j140 + 1)))])
                  (out := [(81, .val (Lit (.int .i64 (j140 + 1)))), (9, .box 42 15 (IsBook w0.heap.size (fun _ => True) m35 m124 ((List.getD gs134 j140.toNat none) :: (List.reverse (List.take j140.toNat gs134))) (21 + j140.toNat + 1))), (15, .val (Lit (.int .i64 j140))), (1036, .val (Sz m136)), (13, .box 43 7 (A7 gs134 (ansL (val 4294967296 xa) (val 4294967296 xb) n))), (11, .val (Lit (.int .i64 2))), (39, .val (Lit (.int .i64 2))), (1024, .val (Sz m124)), (17, .val (Lit (.int .i64 j113))), (1011, .val (Sz m111)), (16, .box 43 7 (A7 gs109 (ansL (val 4294967296 xb) (val 4294967296 xa) ((n + 1) % 256)))), (1003, .val (Sz m103)), (987, .val (Sz m87)), (974, .val (Sz m74)), (14, .val (Lit (.int .i64 j51))), (947, .val (Sz m47)), (10, .box 43 7 (A7e m47 (ansL (val 4294967296 xa) (val 4294967296 xb) n) j51.toNat)), (935, .val (Sz m35)), (8, .val (IsHd g33 (IsTN nb xb))), (931, .val (Sz m31)), (7, .val (IsHd g29 (IsTN na xa))), (927, .val (Sz m27)), (0, .val (IsAb w0.heap.size na xa)), (1, .val (IsAb w0.heap.size nb xb)), (2, .val (Lit (.int .u8 n))), (114, .val (Sz lo))]) (nb := []) H147 2 [2] rfl (by kernel_rfl) rfl rfl ?_ ?_
                · refine .cons (.plain rfl (ok_move (.tmp 0 rfl))) ?_
                  refine .cons (.plain rfl (ok_add (r := (j140 + 1)) (.tmp 0 rfl) (.lit) (w_i64 (by omega)))) ?_
                  exact .nil
                clear H147 a147 w147 B147
                intro a148 w148 B148 H148
                refine ops_one ?_
                refine tail_op (D := .val (Lit (.int .i64 (j140 + 1)))) (l' := [(15, .val (Lit (.int .i64 (j140 + 1)))), (81, .val (Lit (.int .i64 (j140 + 1)))), (9, .box 42 15 (IsBook w0.heap.size (fun _ => True) m35 m124 ((List.getD gs134 j140.toNat none) :: (List.reverse (List.take j140.toNat gs134))) (21 + j140.toNat + 1))), (1036, .val (Sz m136)), (13, .box 43 7 (A7 gs134 (ansL (val 4294967296 xa) (val 4294967296 xb) n))), (11, .val (Lit (.int .i64 2))), (39, .val (Lit (.int .i64 2))), (1024, .val (Sz m124)), (17, .val (Lit (.int .i64 j113))), (1011, .val (Sz m111)), (16, .box 43 7 (A7 gs109 (ansL (val 4294967296 xb) (val 4294967296 xa) ((n + 1) % 256)))), (1003, .val (Sz m103)), (987, .val (Sz m87)), (974, .val (Sz m74)), (14, .val (Lit (.int .i64 j51))), (947, .val (Sz m47)), (10, .box 43 7 (A7e m47 (ansL (val 4294967296 xa) (val 4294967296 xb) n) j51.toNat)), (935, .val (Sz m35)), (8, .val (IsHd g33 (IsTN nb xb))), (931, .val (Sz m31)), (7, .val (IsHd g29 (IsTN na xa))), (927, .val (Sz m27)), (0, .val (IsAb w0.heap.size na xa)), (1, .val (IsAb w0.heap.size nb xb)), (2, .val (Lit (.int .u8 n))), (114, .val (Sz lo))]) H148 rfl rfl rfl (.plain rfl (ok_assign (.tmp 0 rfl))) rfl rfl ?_
                clear H148 a148 w148 B148
                intro a149 w149 B149 H149
                refine ops_done ?_
                have H150 := St.setwB H149 2 (D' := IsBook w0.heap.size (fun _ => True) m35 m124 (List.reverse (List.take (j140 + 1).toNat gs134)) (21 + (j140 + 1).toNat)) rfl (fun v h => book_cnt (by omega) (by rw [show (j140 + 1).toNat = j140.toNat + 1 by omega]; exact take_next _ _ (by rw [hgs134.len]; omega)) v h) (l' := [(15, .val (Lit (.int .i64 (j140 + 1)))), (81, .val (Lit (.int .i64 (j140 + 1)))), (9, .box 42 15 (IsBook w0.heap.size (fun _ => True) m35 m124 (List.reverse (List.take (j140 + 1).toNat gs134)) (21 + (j140 + 1).toNat))), (1036, .val (Sz m136)), (13, .box 43 7 (A7 gs134 (ansL (val 4294967296 xa) (val 4294967296 xb) n))), (11, .val (Lit (.int .i64 2))), (39, .val (Lit (.int .i64 2))), (1024, .val (Sz m124)), (17, .val (Lit (.int .i64 j113))), (1011, .val (Sz m111)), (16, .box 43 7 (A7 gs109 (ansL (val 4294967296 xb) (val 4294967296 xa) ((n + 1) % 256)))), (1003, .val (Sz m103)), (987, .val (Sz m87)), (974, .val (Sz m74)), (14, .val (Lit (.int .i64 j51))), (947, .val (Sz m47)), (10, .box 43 7 (A7e m47 (ansL (val 4294967296 xa) (val 4294967296 xb) n) j51.toNat)), (935, .val (Sz m35)), (8, .val (IsHd g33 (IsTN nb xb))), (931, .val (Sz m31)), (7, .val (IsHd g29 (IsTN na xa))), (927, .val (Sz m27)), (0, .val (IsAb w0.heap.size na xa)), (1, .val (IsAb w0.heap.size nb xb)), (2, .val (Lit (.int .u8 n))), (114, .val (Sz lo))]) rfl
                clear H149
                exact ⟨j140 + 1, B149, by exact ⟨by omega, by omega⟩, St.pick H150 [0, 3, 4, 5, 6, 7, 8, 9, 10, 11, 12, 13, 14, 15, 16, 2, 17, 18, 19, 20, 21, 22, 23, 24, 25] rfl, by show (7 - (j140 + 1)).toNat < (7 - j140).toNat; omega⟩
              · intro hc144
                replace hc144 := of_decide_eq_false hc144
                refine wp_exit ?_
                refine then_exit ?_
                refine then_exit ?_
                refine block_exit ?_
                refine then_normal ?_
                refine wp_seq ?_
                have hz151 : m136 ≤ w143.heap.size := H143.fc.get 2 rfl
                obtain ⟨m152, hm152, hw152, hL152, H152⟩ := St.mark H143 1052
                clear H143
                clear hL152
                replace hz151 : m136 ≤ m152 := Nat.le_trans hz151 hw152
                have H153 := St.rebook H152 17 rfl hw152 (by intro b hb; have := hgs134.ex hb; omega) (l' := [(1052, .val (Sz m152)), (79, .val (IsB (decide (j140 < 7)))), (15, .val (Lit (.int .i64 j140))), (1036, .val (Sz m136)), (13, .box 43 7 (A7 gs134 (ansL (val 4294967296 xa) (val 4294967296 xb) n))), (11, .val (Lit (.int .i64 2))), (39, .val (Lit (.int .i64 2))), (1024, .val (Sz m124)), (17, .val (Lit (.int .i64 j113))), (1011, .val (Sz m111)), (16, .box 43 7 (A7 gs109 (ansL (val 4294967296 xb) (val 4294967296 xa) ((n + 1) % 256)))), (1003, .val (Sz m103)), (987, .val (Sz m87)), (974, .val (Sz m74)), (14, .val (Lit (.int .i64 j51))), (947, .val (Sz m47)), (10, .box 43 7 (A7e m47 (ansL (val 4294967296 xa) (val 4294967296 xb) n) j51.toNat)), (9, .box 42 15 (IsBook w0.heap.size (fun _ => True) m35 m152 ([]) (21 + j140.toNat))), (935, .val (Sz m35)), (8, .val (IsHd g33 (IsTN nb xb))), (931, .val (Sz m31)), (7, .val (IsHd g29 (IsTN na xa))), (927, .val (Sz m27)), (0, .val (IsAb w0.heap.size na xa)), (1, .val (IsAb w0.heap.size nb xb)), (2, .val (Lit (.int .u8 n))), (114, .val (Sz lo))]) rfl
                clear H152 hw152
                have H154 := St.setwB H153 17 (D' := IsBook w0.heap.size (fun _ => True) m35 m152 ([]) 28) rfl (fun v h => book_cnt (by omega) rfl v h) (l' := [(1052, .val (Sz m152)), (79, .val (IsB (decide (j140 < 7)))), (15, .val (Lit (.int .i64 j140))), (1036, .val (Sz m136)), (13, .box 43 7 (A7 gs134 (ansL (val 4294967296 xa) (val 4294967296 xb) n))), (11, .val (Lit (.int .i64 2))), (39, .val (Lit (.int .i64 2))), (1024, .val (Sz m124)), (17, .val (Lit (.int .i64 j113))), (1011, .val (Sz m111)), (16, .box 43 7 (A7 gs109 (ansL (val 4294967296 xb) (val 4294967296 xa) ((n + 1) % 256)))), (1003, .val (Sz m103)), (987, .val (Sz m87)), (974, .val (Sz m74)), (14, .val (Lit (.int .i64 j51))), (947, .val (Sz m47)), (10, .box 43 7 (A7e m47 (ansL (val 4294967296 xa) (val 4294967296 xb) n) j51.toNat)), (9, .box 42 15 (IsBook w0.heap.size (fun _ => True) m35 m152 ([]) 28)), (935, .val (Sz m35)), (8, .val (IsHd g33 (IsTN nb xb))), (931, .val (Sz m31)), (7, .val (IsHd g29 (IsTN na xa))), (927, .val (Sz m27)), (0, .val (IsAb w0.heap.size na xa)), (1, .val (IsAb w0.heap.size nb xb)), (2, .val (Lit (.int .u8 n))), (114, .val (Sz lo))]) rfl
                clear H153
                refine flow_region (dsts := [some 94, some 95]) (refs := [[.pre 5], [.res 0]]) (outs := [.res 1, .pre 0, .pre 2, .pre 3, .pre 4, .pre 5, .pre 6, .pre 7, .pre 8, .pre 9, .pre 10, .pre 11, .pre 12, .pre 13, .pre 14, .pre 15, .pre 16, .pre 17, .pre 18, .pre 19, .pre 20, .pre 21, .pre 22, .pre 23, .pre 24, .pre 25, .pre 26]) (als := [false, false]) (posts := [.val (Lit (.int .i64 2)), .val (IsB false)])
                  (out := [(95, .val (IsB false)), (1052, .val (Sz m152)), (15, .val (Lit (.int .i64 j140))), (1036, .val (Sz m136)), (13, .box 43 7 (A7 gs134 (ansL (val 4294967296 xa) (val 4294967296 xb) n))), (11, .val (Lit (.int .i64 2))), (39, .val (Lit (.int .i64 2))), (1024, .val (Sz m124)), (17, .val (Lit (.int .i64 j113))), (1011, .val (Sz m111)), (16, .box 43 7 (A7 gs109 (ansL (val 4294967296 xb) (val 4294967296 xa) ((n + 1) % 256)))), (1003, .val (Sz m103)), (987, .val (Sz m87)), (974, .val (Sz m74)), (14, .val (Lit (.int .i64 j51))), (947, .val (Sz m47)), (10, .box 43 7 (A7e m47 (ansL (val 4294967296 xa) (val 4294967296 xb) n) j51.toNat)), (9, .box 42 15 (IsBook w0.heap.size (fun _ => True) m35 m152 ([]) 28)), (935, .val (Sz m35)), (8, .val (IsHd g33 (IsTN nb xb))), (931, .val (Sz m31)), (7, .val (IsHd g29 (IsTN na xa))), (927, .val (Sz m27)), (0, .val (IsAb w0.heap.size na xa)), (1, .val (IsAb w0.heap.size nb xb)), (2, .val (Lit (.int .u8 n))), (114, .val (Sz lo))]) (nb := []) H154 2 [] rfl (by kernel_rfl) rfl rfl ?_ ?_
                · refine .cons (.plain rfl (ok_move (.tmp 0 rfl))) ?_
                  refine .cons (.plain rfl (ok_cmp (b := false) (.tmp 0 rfl) (.lit) (by decide))) ?_
                  exact .nil
                clear H154 a143 w143 B143
                intro a155 w155 B155 H155
                refine ops_done ?_
                refine then_normal ?_
                refine f_condF H155 (.tmp 0 rfl) ?_
                refine wp_skip ?_
                refine block_normal ?_
                refine then_normal ?_
                refine flow_region (dsts := [some 38, some 39]) (refs := [[.pre 5], [.res 0]]) (outs := [.res 1, .pre 1, .pre 2, .pre 3, .pre 4, .pre 5, .pre 7, .pre 8, .pre 9, .pre 10, .pre 11, .pre 12, .pre 13, .pre 14, .pre 15, .pre 16, .pre 17, .pre 18, .pre 19, .pre 20, .pre 21, .pre 22, .pre 23, .pre 24, .pre 25, .pre 26]) (als := [false, false]) (posts := [.val (Lit (.int .i64 2)), .val (Lit (.int .i64 3))])
                  (out := [(39, .val (Lit (.int .i64 3))), (1052, .val (Sz m152)), (15, .val (Lit (.int .i64 j140))), (1036, .val (Sz m136)), (13, .box 43 7 (A7 gs134 (ansL (val 4294967296 xa) (val 4294967296 xb) n))), (11, .val (Lit (.int .i64 2))), (1024, .val (Sz m124)), (17, .val (Lit (.int .i64 j113))), (1011, .val (Sz m111)), (16, .box 43 7 (A7 gs109 (ansL (val 4294967296 xb) (val 4294967296 xa) ((n + 1) % 256)))), (1003, .val (Sz m103)), (987, .val (Sz m87)), (974, .val (Sz m74)), (14, .val (Lit (.int .i64 j51))), (947, .val (Sz m47)), (10, .box 43 7 (A7e m47 (ansL (val 4294967296 xa) (val 4294967296 xb) n) j51.toNat)), (9, .box 42 15 (IsBook w0.heap.size (fun _ => True) m35 m152 ([]) 28)), (935, .val (Sz m35)), (8, .val (IsHd g33 (IsTN nb xb))), (931, .val (Sz m31)), (7, .val (IsHd g29 (IsTN na xa))), (927, .val (Sz m27)), (0, .val (IsAb w0.heap.size na xa)), (1, .val (IsAb w0.heap.size nb xb)), (2, .val (Lit (.int .u8 n))), (114, .val (Sz lo))]) (nb := []) H155 2 [2] rfl (by kernel_rfl) rfl rfl ?_ ?_
                · refine .cons (.plain rfl (ok_move (.tmp 0 rfl))) ?_
                  refine .cons (.plain rfl (ok_add (r := 3) (.tmp 0 rfl) (.lit) (by decide))) ?_
                  exact .nil
                clear H155 a155 w155 B155
                intro a156 w156 B156 H156
                refine ops_one ?_
                refine tail_op (D := .val (Lit (.int .i64 3))) (l' := [(11, .val (Lit (.int .i64 3))), (39, .val (Lit (.int .i64 3))), (1052, .val (Sz m152)), (15, .val (Lit (.int .i64 j140))), (1036, .val (Sz m136)), (13, .box 43 7 (A7 gs134 (ansL (val 4294967296 xa) (val 4294967296 xb) n))), (1024, .val (Sz m124)), (17, .val (Lit (.int .i64 j113))), (1011, .val (Sz m111)), (16, .box 43 7 (A7 gs109 (ansL (val 4294967296 xb) (val 4294967296 xa) ((n + 1) % 256)))), (1003, .val (Sz m103)), (987, .val (Sz m87)), (974, .val (Sz m74)), (14, .val (Lit (.int .i64 j51))), (947, .val (Sz m47)), (10, .box 43 7 (A7e m47 (ansL (val 4294967296 xa) (val 4294967296 xb) n) j51.toNat)), (9, .box 42 15 (IsBook w0.heap.size (fun _ => True) m35 m152 ([]) 28)), (935, .val (Sz m35)), (8, .val (IsHd g33 (IsTN nb xb))), (931, .val (Sz m31)), (7, .val (IsHd g29 (IsTN na xa))), (927, .val (Sz m27)), (0, .val (IsAb w0.heap.size na xa)), (1, .val (IsAb w0.heap.size nb xb)), (2, .val (Lit (.int .u8 n))), (114, .val (Sz lo))]) H156 rfl rfl rfl (.plain rfl (ok_assign (.tmp 0 rfl))) rfl rfl ?_
                clear H156 a156 w156 B156
                intro a157 w157 B157 H157
                refine ops_done ?_
                refine then_normal ?_
                rw [rounds_succ]
                refine wp_seq ?_
                refine wp_seq ?_
                refine flow_region (dsts := [some 36, some 37]) (refs := [[.pre 0], [.res 0]]) (outs := [.res 1, .pre 0, .pre 1, .pre 2, .pre 3, .pre 4, .pre 5, .pre 6, .pre 7, .pre 8, .pre 9, .pre 10, .pre 11, .pre 12, .pre 13, .pre 14, .pre 15, .pre 16, .pre 17, .pre 18, .pre 19, .pre 20, .pre 21, .pre 22, .pre 23, .pre 24, .pre 25]) (als := [false, false]) (posts := [.val (Lit (.int .i64 3)), .val (IsB true)])
                  (out := [(37, .val (IsB true)), (11, .val (Lit (.int .i64 3))), (39, .val (Lit (.int .i64 3))), (1052, .val (Sz m152)), (15, .val (Lit (.int .i64 j140))), (1036, .val (Sz m136)), (13, .box 43 7 (A7 gs134 (ansL (val 4294967296 xa) (val 4294967296 xb) n))), (1024, .val (Sz m124)), (17, .val (Lit (.int .i64 j113))), (1011, .val (Sz m111)), (16, .box 43 7 (A7 gs109 (ansL (val 4294967296 xb) (val 4294967296 xa) ((n + 1) % 256)))), (1003, .val (Sz m103)), (987, .val (Sz m87)), (974, .val (Sz m74)), (14, .val (Lit (.int .i64 j51))), (947, .val (Sz m47)), (10, .box 43 7 (A7e m47 (ansL (val 4294967296 xa) (val 4294967296 xb) n) j51.toNat)), (9, .box 42 15 (IsBook w0.heap.size (fun _ => True) m35 m152 ([]) 28)), (935, .val (Sz m35)), (8, .val (IsHd g33 (IsTN nb xb))), (931, .val (Sz m31)), (7, .val (IsHd g29 (IsTN na xa))), (927, .val (Sz m27)), (0, .val (IsAb w0.heap.size na xa)), (1, .val (IsAb w0.heap.size nb xb)), (2, .val (Lit (.int .u8 n))), (114, .val (Sz lo))]) (nb := []) H157 2 [] rfl (by kernel_rfl) rfl rfl ?_ ?_
                · refine .cons (.plain rfl (ok_move (.tmp 0 rfl))) ?_
                  refine .cons (.plain rfl (ok_cmp (b := true) (.tmp 0 rfl) (.lit) (by decide))) ?_
                  exact .nil
                clear H157 a157 w157 B157
                intro a158 w158 B158 H158
                refine ops_done ?_
                refine then_normal ?_
                refine f_condT H158 (.tmp 0 rfl) ?_
                refine wp_skip ?_
                refine then_normal ?_
                refine wp_seq ?_
                refine wp_block ?_
                refine wp_seq ?_
                refine wp_seq ?_
                refine flow_region (dsts := [some 40, some 41]) (refs := [[.pre 1], [.res 0]]) (outs := [.res 1, .pre 1, .pre 2, .pre 3, .pre 4, .pre 5, .pre 6, .pre 7, .pre 8, .pre 9, .pre 10, .pre 11, .pre 12, .pre 13, .pre 14, .pre 15, .pre 16, .pre 17, .pre 18, .pre 19, .pre 20, .pre 21, .pre 22, .pre 23, .pre 24, .pre 25, .pre 26]) (als := [false, false]) (posts := [.val (Lit (.int .i64 3)), .val (IsB true)])
                  (out := [(41, .val (IsB true)), (11, .val (Lit (.int .i64 3))), (39, .val (Lit (.int .i64 3))), (1052, .val (Sz m152)), (15, .val (Lit (.int .i64 j140))), (1036, .val (Sz m136)), (13, .box 43 7 (A7 gs134 (ansL (val 4294967296 xa) (val 4294967296 xb) n))), (1024, .val (Sz m124)), (17, .val (Lit (.int .i64 j113))), (1011, .val (Sz m111)), (16, .box 43 7 (A7 gs109 (ansL (val 4294967296 xb) (val 4294967296 xa) ((n + 1) % 256)))), (1003, .val (Sz m103)), (987, .val (Sz m87)), (974, .val (Sz m74)), (14, .val (Lit (.int .i64 j51))), (947, .val (Sz m47)), (10, .box 43 7 (A7e m47 (ansL (val 4294967296 xa) (val 4294967296 xb) n) j51.toNat)), (9, .box 42 15 (IsBook w0.heap.size (fun _ => True) m35 m152 ([]) 28)), (935, .val (Sz m35)), (8, .val (IsHd g33 (IsTN nb xb))), (931, .val (Sz m31)), (7, .val (IsHd g29 (IsTN na xa))), (927, .val (Sz m27)), (0, .val (IsAb w0.heap.size na xa)), (1, .val (IsAb w0.heap.size nb xb)), (2, .val (Lit (.int .u8 n))), (114, .val (Sz lo))]) (nb := []) H158 2 [] rfl (by kernel_rfl) rfl rfl ?_ ?_
                · refine .cons (.plain rfl (ok_move (.tmp 0 rfl))) ?_
                  refine .cons (.plain rfl (ok_cmp (b := true) (.tmp 0 rfl) (.lit) (by decide))) ?_
                  exact .nil
                clear H158 a158 w158 B158
                intro a159 w159 B159 H159
                refine ops_done ?_
                refine then_normal ?_
                refine f_condT H159 (.tmp 0 rfl) ?_
                refine wp_seq ?_
                have H160 := St.setwB H159 16 (D' := A7s) rfl (fun v h => weak7e _ _ _ h) (l' := [(41, .val (IsB true)), (11, .val (Lit (.int .i64 3))), (39, .val (Lit (.int .i64 3))), (1052, .val (Sz m152)), (15, .val (Lit (.int .i64 j140))), (1036, .val (Sz m136)), (13, .box 43 7 (A7 gs134 (ansL (val 4294967296 xa) (val 4294967296 xb) n))), (1024, .val (Sz m124)), (17, .val (Lit (.int .i64 j113))), (1011, .val (Sz m111)), (16, .box 43 7 (A7 gs109 (ansL (val 4294967296 xb) (val 4294967296 xa) ((n + 1) % 256)))), (1003, .val (Sz m103)), (987, .val (Sz m87)), (974, .val (Sz m74)), (14, .val (Lit (.int .i64 j51))), (947, .val (Sz m47)), (10, .box 43 7 (A7s)), (9, .box 42 15 (IsBook w0.heap.size (fun _ => True) m35 m152 ([]) 28)), (935, .val (Sz m35)), (8, .val (IsHd g33 (IsTN nb xb))), (931, .val (Sz m31)), (7, .val (IsHd g29 (IsTN na xa))), (927, .val (Sz m27)), (0, .val (IsAb w0.heap.size na xa)), (1, .val (IsAb w0.heap.size nb xb)), (2, .val (Lit (.int .u8 n))), (114, .val (Sz lo))]) rfl
                clear H159
                have H161 := St.setw H160 21 (D' := IsHd g29 (IsTN na (cntK xa 0))) rfl (fun v h => (cntK_zero xa).symm ▸ h) (l' := [(41, .val (IsB true)), (11, .val (Lit (.int .i64 3))), (39, .val (Lit (.int .i64 3))), (1052, .val (Sz m152)), (15, .val (Lit (.int .i64 j140))), (1036, .val (Sz m136)), (13, .box 43 7 (A7 gs134 (ansL (val 4294967296 xa) (val 4294967296 xb) n))), (1024, .val (Sz m124)), (17, .val (Lit (.int .i64 j113))), (1011, .val (Sz m111)), (16, .box 43 7 (A7 gs109 (ansL (val 4294967296 xb) (val 4294967296 xa) ((n + 1) % 256)))), (1003, .val (Sz m103)), (987, .val (Sz m87)), (974, .val (Sz m74)), (14, .val (Lit (.int .i64 j51))), (947, .val (Sz m47)), (10, .box 43 7 (A7s)), (9, .box 42 15 (IsBook w0.heap.size (fun _ => True) m35 m152 ([]) 28)), (935, .val (Sz m35)), (8, .val (IsHd g33 (IsTN nb xb))), (931, .val (Sz m31)), (7, .val (IsHd g29 (IsTN na (cntK xa 0)))), (927, .val (Sz m27)), (0, .val (IsAb w0.heap.size na xa)), (1, .val (IsAb w0.heap.size nb xb)), (2, .val (Lit (.int .u8 n))), (114, .val (Sz lo))]) rfl
                clear H160
                have H162 := St.fewerF H161 [0, 1, 2, 3, 4, 5, 7, 8, 9, 11, 12, 13, 14, 15, 16, 17, 18, 19, 20, 21, 22, 23, 24, 25, 26] (l' := [(41, .val (IsB true)), (11, .val (Lit (.int .i64 3))), (39, .val (Lit (.int .i64 3))), (1052, .val (Sz m152)), (15, .val (Lit (.int .i64 j140))), (1036, .val (Sz m136)), (1024, .val (Sz m124)), (17, .val (Lit (.int .i64 j113))), (1011, .val (Sz m111)), (1003, .val (Sz m103)), (987, .val (Sz m87)), (974, .val (Sz m74)), (14, .val (Lit (.int .i64 j51))), (947, .val (Sz m47)), (10, .box 43 7 (A7s)), (9, .box 42 15 (IsBook w0.heap.size (fun _ => True) m35 m152 ([]) 28)), (935, .val (Sz m35)), (8, .val (IsHd g33 (IsTN nb xb))), (931, .val (Sz m31)), (7, .val (IsHd g29 (IsTN na (cntK xa 0)))), (927, .val (Sz m27)), (0, .val (IsAb w0.heap.size na xa)), (1, .val (IsAb w0.heap.size nb xb)), (2, .val (Lit (.int .u8 n))), (114, .val (Sz lo))]) rfl
                clear H161
                refine flow_region (dsts := [some 12]) (refs := [[]]) (outs := [.res 0, .pre 1, .pre 2, .pre 3, .pre 4, .pre 5, .pre 6, .pre 7, .pre 8, .pre 9, .pre 10, .pre 11, .pre 12, .pre 13, .pre 14, .pre 15, .pre 16, .pre 17, .pre 18, .pre 19, .pre 20, .pre 21, .pre 22, .pre 23, .pre 24]) (als := [false]) (posts := [.val (Lit (.int .i64 0))])
                  (out := [(12, .val (Lit (.int .i64 0))), (11, .val (Lit (.int .i64 3))), (39, .val (Lit (.int .i64 3))), (1052, .val (Sz m152)), (15, .val (Lit (.int .i64 j140))), (1036, .val (Sz m136)), (1024, .val (Sz m124)), (17, .val (Lit (.int .i64 j113))), (1011, .val (Sz m111)), (1003, .val (Sz m103)), (987, .val (Sz m87)), (974, .val (Sz m74)), (14, .val (Lit (.int .i64 j51))), (947, .val (Sz m47)), (10, .box 43 7 (A7s)), (9, .box 42 15 (IsBook w0.heap.size (fun _ => True) m35 m152 ([]) 28)), (935, .val (Sz m35)), (8, .val (IsHd g33 (IsTN nb xb))), (931, .val (Sz m31)), (7, .val (IsHd g29 (IsTN na (cntK xa 0)))), (927, .val (Sz m27)), (0, .val (IsAb w0.heap.size na xa)), (1, .val (IsAb w0.heap.size nb xb)), (2, .val (Lit (.int .u8 n))), (114, .val (Sz lo))]) (nb := []) H162 1 [] rfl (by kernel_rfl) rfl rfl ?_ ?_
                · refine .cons (.plain rfl (ok_assign (.lit))) ?_
                  exact .nil
                clear H162 a159 w159 B159
                intro a163 w163 B163 H163
                refine ops_done ?_
                refine then_normal ?_
                refine wp_block ?_
                refine f_loop (fun (i164 : Int) => [(12, .val (Lit (.int .i64 i164))), (11, .val (Lit (.int .i64 3))), (39, .val (Lit (.int .i64 3))), (1052, .val (Sz m152)), (15, .val (Lit (.int .i64 j140))), (1036, .val (Sz m136)), (1024, .val (Sz m124)), (17, .val (Lit (.int .i64 j113))), (1011, .val (Sz m111)), (1003, .val (Sz m103)), (987, .val (Sz m87)), (974, .val (Sz m74)), (14, .val (Lit (.int .i64 j51))), (947, .val (Sz m47)), (10, .box 43 7 (A7s)), (9, .box 42 15 (IsBook w0.heap.size (fun _ => True) m35 m152 ([]) 28)), (935, .val (Sz m35)), (8, .val (IsHd g33 (IsTN nb xb))), (931, .val (Sz m31)), (7, .val (IsHd g29 (IsTN na (cntK xa i164.toNat)))), (927, .val (Sz m27)), (0, .val (IsAb w0.heap.size na xa)), (1, .val (IsAb w0.heap.size nb xb)), (2, .val (Lit (.int .u8 n))), (114, .val (Sz lo))]) (fun (i164 : Int) => 0 ≤ i164 ∧ i164 ≤ (na : Int)) (fun (i164 : Int) => ((na : Int) - i164).toNat) (0) (St.pick H163 [0, 1, 2, 3, 4, 5, 6, 7, 8, 9, 10, 11, 12, 13, 14, 15, 16, 17, 18, 19, 20, 21, 22, 23, 24] rfl) (by exact ⟨by omega, by omega⟩) ?_
                clear H163 a163 w163 B163
                rintro i164 a165 w165 B165 hI165 H165
                replace hI165 : 0 ≤ i164 ∧ i164 ≤ (na : Int) := hI165
                replace H165 : St 114 w0 B0 a165 w165 B165 [(12, .val (Lit (.int .i64 i164))), (11, .val (Lit (.int .i64 3))), (39, .val (Lit (.int .i64 3))), (1052, .val (Sz m152)), (15, .val (Lit (.int .i64 j140))), (1036, .val (Sz m136)), (1024, .val (Sz m124)), (17, .val (Lit (.int .i64 j113))), (1011, .val (Sz m111)), (1003, .val (Sz m103)), (987, .val (Sz m87)), (974, .val (Sz m74)), (14, .val (Lit (.int .i64 j51))), (947, .val (Sz m47)), (10, .box 43 7 (A7s)), (9, .box 42 15 (IsBook w0.heap.size (fun _ => True) m35 m152 ([]) 28)), (935, .val (Sz m35)), (8, .val (IsHd g33 (IsTN nb xb))), (931, .val (Sz m31)), (7, .val (IsHd g29 (IsTN na (cntK xa i164.toNat)))), (927, .val (Sz m27)), (0, .val (IsAb w0.heap.size na xa)), (1, .val (IsAb w0.heap.size nb xb)), (2, .val (Lit (.int .u8 n))), (114, .val (Sz lo))] [13, 16, 10, 9] := H165
                refine wp_seq ?_
                refine wp_seq ?_
                refine flow_region (dsts := [some 42, some 43, some 44, some 45]) (refs := [[.pre 0], [.pre 19], [.res 1], [.res 0, .res 2]]) (outs := [.res 3, .pre 0, .pre 1, .pre 2, .pre 3, .pre 4, .pre 5, .pre 6, .pre 7, .pre 8, .pre 9, .pre 10, .pre 11, .pre 12, .pre 13, .pre 14, .pre 15, .pre 16, .pre 17, .pre 18, .pre 19, .pre 20, .pre 21, .pre 22, .pre 23, .pre 24]) (als := [false, false, false, false]) (posts := [.val (Lit (.int .i64 i164)), .val (IsHd g29 (IsTN na (cntK xa i164.toNat))), .val (Lit (.int .i64 (na : Int))), .val (IsB (decide (i164 < (na : Int))))])
                  (out := [(45, .val (IsB (decide (i164 < (na : Int))))), (12, .val (Lit (.int .i64 i164))), (11, .val (Lit (.int .i64 3))), (39, .val (Lit (.int .i64 3))), (1052, .val (Sz m152)), (15, .val (Lit (.int .i64 j140))), (1036, .val (Sz m136)), (1024, .val (Sz m124)), (17, .val (Lit (.int .i64 j113))), (1011, .val (Sz m111)), (1003, .val (Sz m103)), (987, .val (Sz m87)), (974, .val (Sz m74)), (14, .val (Lit (.int .i64 j51))), (947, .val (Sz m47)), (10, .box 43 7 (A7s)), (9, .box 42 15 (IsBook w0.heap.size (fun _ => True) m35 m152 ([]) 28)), (935, .val (Sz m35)), (8, .val (IsHd g33 (IsTN nb xb))), (931, .val (Sz m31)), (7, .val (IsHd g29 (IsTN na (cntK xa i164.toNat)))), (927, .val (Sz m27)), (0, .val (IsAb w0.heap.size na xa)), (1, .val (IsAb w0.heap.size nb xb)), (2, .val (Lit (.int .u8 n))), (114, .val (Sz lo))]) (nb := []) H165 4 [] rfl (by kernel_rfl) rfl rfl ?_ ?_
                · refine .cons (.plain rfl (ok_move (.tmp 0 rfl))) ?_
                  refine .cons (.plain rfl (ok_move (.tmp 0 rfl))) ?_
                  refine .cons (.plain rfl (ok_lenAn (.weak (.weak (.tmp 0 rfl) weakHd) weakTNAn))) ?_
                  refine .cons (.plain rfl (ok_cmp (.tmp 0 rfl) (.tmp 1 rfl) rfl)) ?_
                  exact .nil
                clear H165 a165 w165 B165
                intro a166 w166 B166 H166
                refine ops_done ?_
                refine then_normal ?_
                refine f_cond H166 (.tmp 0 rfl) ?_ ?_
                · intro hc167
                  replace hc167 := of_decide_eq_true hc167
                  refine wp_skip ?_
                  refine then_normal ?_
                  refine wp_seq ?_
                  refine wp_block ?_
                  refine flow_region (dsts := [some 48, some 49, some 50, some 51, some 52]) (refs := [[.pre 20], [.pre 1], [.pre 1], [.res 2], [.res 3]]) (outs := [.res 0, .res 1, .res 4, .pre 1, .pre 2, .pre 3, .pre 4, .pre 5, .pre 6, .pre 7, .pre 8, .pre 9, .pre 10, .pre 11, .pre 12, .pre 13, .pre 14, .pre 15, .pre 16, .pre 17, .pre 18, .pre 19, .pre 20, .pre 21, .pre 22, .pre 23, .pre 24, .pre 25]) (als := [false, false, false, false, false]) (posts := [.val (IsHd g29 (IsTN na (cntK xa i164.toNat))), .val (Lit (.int .i64 i164)), .val (Lit (.int .i64 i164)), .val (Lit (.int .i64 (i164 + 1))), .val (Lit (.int .u32 (i164 + 1)))])
                    (out := [(48, .val (IsHd g29 (IsTN na (cntK xa i164.toNat)))), (49, .val (Lit (.int .i64 i164))), (52, .val (Lit (.int .u32 (i164 + 1)))), (12, .val (Lit (.int .i64 i164))), (11, .val (Lit (.int .i64 3))), (39, .val (Lit (.int .i64 3))), (1052, .val (Sz m152)), (15, .val (Lit (.int .i64 j140))), (1036, .val (Sz m136)), (1024, .val (Sz m124)), (17, .val (Lit (.int .i64 j113))), (1011, .val (Sz m111)), (1003, .val (Sz m103)), (987, .val (Sz m87)), (974, .val (Sz m74)), (14, .val (Lit (.int .i64 j51))), (947, .val (Sz m47)), (10, .box 43 7 (A7s)), (9, .box 42 15 (IsBook w0.heap.size (fun _ => True) m35 m152 ([]) 28)), (935, .val (Sz m35)), (8, .val (IsHd g33 (IsTN nb xb))), (931, .val (Sz m31)), (7, .val (IsHd g29 (IsTN na (cntK xa i164.toNat)))), (927, .val (Sz m27)), (0, .val (IsAb w0.heap.size na xa)), (1, .val (IsAb w0.heap.size nb xb)), (2, .val (Lit (.int .u8 n))), (114, .val (Sz lo))]) (nb := []) H166 5 [5, 6] rfl (by kernel_rfl) rfl rfl ?_ ?_
                  · refine .cons (.plain rfl (ok_move (.tmp 0 rfl))) ?_
                    refine .cons (.plain rfl (ok_move (.tmp 0 rfl))) ?_
                    refine .cons (.plain rfl (ok_move (.tmp 0 rfl))) ?_
                    refine .cons (.plain rfl (ok_add (r := (i164 + 1)) (.tmp 0 rfl) (.lit) (w_i64 (by omega)))) ?_
                    refine .cons (.plain rfl (ok_conv Tryz.underlying3 Tryz.underlying44 (r := (i164 + 1)) (.tmp 0 rfl) (w_u32 (by omega)))) ?_
                    exact .nil
                  clear H166 a166 w166 B166
                  intro a168 w168 B168 H168
                  refine tn_store (i := 5) (j := 6) (k := i164.toNat) (ks := [(49, .val (Lit (.int .i64 i164))), (52, .val (Lit (.int .u32 (i164 + 1)))), (12, .val (Lit (.int .i64 i164))), (11, .val (Lit (.int .i64 3))), (39, .val (Lit (.int .i64 3))), (1052, .val (Sz m152)), (15, .val (Lit (.int .i64 j140))), (1036, .val (Sz m136)), (1024, .val (Sz m124)), (17, .val (Lit (.int .i64 j113))), (1011, .val (Sz m111)), (1003, .val (Sz m103)), (987, .val (Sz m87)), (974, .val (Sz m74)), (14, .val (Lit (.int .i64 j51))), (947, .val (Sz m47)), (10, .box 43 7 (A7s)), (9, .box 42 15 (IsBook w0.heap.size (fun _ => True) m35 m152 ([]) 28)), (935, .val (Sz m35)), (8, .val (IsHd g33 (IsTN nb xb))), (931, .val (Sz m31)), (927, .val (Sz m27)), (0, .val (IsAb w0.heap.size na xa)), (1, .val (IsAb w0.heap.size nb xb)), (2, .val (Lit (.int .u8 n))), (114, .val (Sz lo))]) 0 22 1 2 [1, 2, 3, 4, 5, 6, 7, 8, 9, 10, 11, 12, 13, 14, 15, 16, 17, 18, 19, 20, 21, 23, 24, 25, 26, 27] rfl H168 rfl rfl rfl rfl rfl (by omega) (by omega) rfl (by omega) (fun b hb => by have := hg29 b hb; omega) rfl (by kernel_rfl) (.cons (keptO_lit) (.cons (keptO_lit) (.cons (keptO_lit) (.cons (keptO_lit) (.cons (keptO_lit) (.cons (keptO_sz) (.cons (keptO_lit) (.cons (keptO_sz) (.cons (keptO_sz) (.cons (keptO_lit) (.cons (keptO_sz) (.cons (keptO_sz) (.cons (keptO_sz) (.cons (keptO_sz) (.cons (keptO_lit) (.cons (keptO_sz) (.cons (keptO_box keptO_7s) (.cons (keptO_box (keptO_book)) (.cons (keptO_sz) (.cons (keptO_hd loc_TN (by intro b hb e; have h1 := hg33 b hb; have h2 := hg29 b e; omega)) (.cons (keptO_sz) (.cons (keptO_sz) (.cons (keptO_ab (fun b hb => by have := hg29 b hb; omega)) (.cons (keptO_ab (fun b hb => by have := hg29 b hb; omega)) (.cons (keptO_lit) (.cons (keptO_sz) (.nil))))))))))))))))))))))))))) ?_
                  clear H168 a168 w168
                  intro a169 w169 H169
                  obtain ⟨B169, hB169⟩ : ∃ B : Bx, B = B168 := ⟨_, rfl⟩
                  rw [← hB169] at H169
                  clear hB169 B168
                  refine ops_done ?_
                  refine block_normal ?_
                  refine then_normal ?_
                  refine flow_region (dsts := [some 46, some 47]) (refs := [[.pre 3], [.res 0]]) (outs := [.res 1, .pre 0, .pre 3, .pre 4, .pre 5, .pre 6, .pre 7, .pre 8, .pre 9, .pre 10, .pre 11, .pre 12, .pre 13, .pre 14, .pre 15, .pre 16, .pre 17, .pre 18, .pre 19, .pre 20, .pre 21, .pre 22, .pre 23, .pre 24, .pre 25, .pre 26]) (als := [false, false]) (posts := [.val (Lit (.int .i64 i164)), .val (Lit (.int .i64 (i164 + 1)))])
                    (out := [(47, .val (Lit (.int .i64 (i164 + 1)))), (7, .val (IsHd g29 (IsTN na (List.set (cntK xa i164.toNat) i164.toNat (i164 + 1))))), (12, .val (Lit (.int .i64 i164))), (11, .val (Lit (.int .i64 3))), (39, .val (Lit (.int .i64 3))), (1052, .val (Sz m152)), (15, .val (Lit (.int .i64 j140))), (1036, .val (Sz m136)), (1024, .val (Sz m124)), (17, .val (Lit (.int .i64 j113))), (1011, .val (Sz m111)), (1003, .val (Sz m103)), (987, .val (Sz m87)), (974, .val (Sz m74)), (14, .val (Lit (.int .i64 j51))), (947, .val (Sz m47)), (10, .box 43 7 (A7s)), (9, .box 42 15 (IsBook w0.heap.size (fun _ => True) m35 m152 ([]) 28)), (935, .val (Sz m35)), (8, .val (IsHd g33 (IsTN nb xb))), (931, .val (Sz m31)), (927, .val (Sz m27)), (0, .val (IsAb w0.heap.size na xa)), (1, .val (IsAb w0.heap.size nb xb)), (2, .val (Lit (.int .u8 n))), (114, .val (Sz lo))]) (nb := []) H169 2 [2] rfl (by kernel_rfl) rfl rfl ?_ ?_
                  · refine .cons (.plain rfl (ok_move (.tmp 0 rfl))) ?_
                    refine .cons (.plain rfl (ok_add (r := (i164 + 1)) (.tmp 0 rfl) (.lit) (w_i64 (by omega)))) ?_
                    exact .nil
                  clear H169 a169 w169 B169
                  intro a170 w170 B170 H170
                  refine ops_one ?_
                  refine tail_op (D := .val (Lit (.int .i64 (i164 + 1)))) (l' := [(12, .val (Lit (.int .i64 (i164 + 1)))), (47, .val (Lit (.int .i64 (i164 + 1)))), (7, .val (IsHd g29 (IsTN na (List.set (cntK xa i164.toNat) i164.toNat (i164 + 1))))), (11, .val (Lit (.int .i64 3))), (39, .val (Lit (.int .i64 3))), (1052, .val (Sz m152)), (15, .val (Lit (.int .i64 j140))), (1036, .val (Sz m136)), (1024, .val (Sz m124)), (17, .val (Lit (.int .i64 j113))), (1011, .val (Sz m111)), (1003, .val (Sz m103)), (987, .val (Sz m87)), (974, .val (Sz m74)), (14, .val (Lit (.int .i64 j51))), (947, .val (Sz m47)), (10, .box 43 7 (A7s)), (9, .box 42 15 (IsBook w0.heap.size (fun _ => True) m35 m152 ([]) 28)), (935, .val (Sz m35)), (8, .val (IsHd g33 (IsTN nb xb))), (931, .val (Sz m31)), (927, .val (Sz m27)), (0, .val (IsAb w0.heap.size na xa)), (1, .val (IsAb w0.heap.size nb xb)), (2, .val (Lit (.int .u8 n))), (114, .val (Sz lo))]) H170 rfl rfl rfl (.plain rfl (ok_assign (.tmp 0 rfl))) rfl rfl ?_
                  clear H170 a170 w170 B170
                  intro a171 w171 B171 H171
                  refine ops_done ?_
                  have H172 := St.setw H171 2 (D' := IsHd g29 (IsTN na (cntK xa (i164 + 1).toNat))) rfl (fun v h => by rw [show (i164 + 1).toNat = i164.toNat + 1 by omega, ← cntK_set xa i164.toNat (by omega), show ((i164.toNat + 1 : Nat) : Int) = i164 + 1 by omega]; exact h) (l' := [(12, .val (Lit (.int .i64 (i164 + 1)))), (47, .val (Lit (.int .i64 (i164 + 1)))), (7, .val (IsHd g29 (IsTN na (cntK xa (i164 + 1).toNat)))), (11, .val (Lit (.int .i64 3))), (39, .val (Lit (.int .i64 3))), (1052, .val (Sz m152)), (15, .val (Lit (.int .i64 j140))), (1036, .val (Sz m136)), (1024, .val (Sz m124)), (17, .val (Lit (.int .i64 j113))), (1011, .val (Sz m111)), (1003, .val (Sz m103)), (987, .val (Sz m87)), (974, .val (Sz m74)), (14, .val (Lit (.int .i64 j51))), (947, .val (Sz m47)), (10, .box 43 7 (A7s)), (9, .box 42 15 (IsBook w0.heap.size (fun _ => True) m35 m152 ([]) 28)), (935, .val (Sz m35)), (8, .val (IsHd g33 (IsTN nb xb))), (931, .val (Sz m31)), (927, .val (Sz m27)), (0, .val (IsAb w0.heap.size na xa)), (1, .val (IsAb w0.heap.size nb xb)), (2, .val (Lit (.int .u8 n))), (114, .val (Sz lo))]) rfl
                  clear H171
                  exact ⟨i164 + 1, B171, by exact ⟨by omega, by omega⟩, St.pick H172 [0, 3, 4, 5, 6, 7, 8, 9, 10, 11, 12, 13, 14, 15, 16, 17, 18, 19, 20, 2, 21, 22, 23, 24, 25] rfl, by show ((na : Int) - (i164 + 1)).toNat < ((na : Int) - i164).toNat; omega⟩
                · intro hc167
                  replace hc167 := of_decide_eq_false hc167
                  refine wp_exit ?_
                  refine then_exit ?_
                  refine then_exit ?_
                  refine block_exit ?_
                  refine then_normal ?_
                  refine wp_seq ?_
                  have H173 := St.fewerN H166 [0, 1, 2, 3, 4, 5, 6, 7, 8, 9, 10, 11, 12, 13, 14, 15, 16, 17, 18, 19, 20, 21, 22, 23, 24, 25] (l' := [(45, .val (IsB (decide (i164 < (na : Int))))), (12, .val (Lit (.int .i64 i164))), (11, .val (Lit (.int .i64 3))), (39, .val (Lit (.int .i64 3))), (1052, .val (Sz m152)), (15, .val (Lit (.int .i64 j140))), (1036, .val (Sz m136)), (1024, .val (Sz m124)), (17, .val (Lit (.int .i64 j113))), (1011, .val (Sz m111)), (1003, .val (Sz m103)), (987, .val (Sz m87)), (974, .val (Sz m74)), (14, .val (Lit (.int .i64 j51))), (947, .val (Sz m47)), (10, .box 43 7 (A7s)), (9, .box 42 15 (IsBook w0.heap.size (fun _ => True) m35 m152 ([]) 28)), (935, .val (Sz m35)), (8, .val (IsHd g33 (IsTN nb xb))), (931, .val (Sz m31)), (7, .val (IsHd g29 (IsTN na (cntK xa i164.toNat)))), (927, .val (Sz m27)), (0, .val (IsAb w0.heap.size na xa)), (1, .val (IsAb w0.heap.size nb xb)), (2, .val (Lit (.int .u8 n))), (114, .val (Sz lo))]) (bxs' := [16, 10, 9]) rfl rfl
                  clear H166
                  refine flow_region (dsts := [some 54, some 55, some 56, some 57, some 13]) (refs := [[.pre 20], [.pre 18], [.pre 24], [.res 0, .res 1, .res 2, .pre 4], []]) (outs := [.res 3, .res 4, .pre 1, .pre 2, .pre 3, .pre 4, .pre 5, .pre 6, .pre 7, .pre 8, .pre 9, .pre 10, .pre 11, .pre 12, .pre 13, .pre 14, .pre 15, .pre 16, .pre 17, .pre 18, .pre 19, .pre 20, .pre 21, .pre 22, .pre 23, .pre 24, .pre 25]) (als := [false, false, false, false, true]) (posts := [.val (IsHd g29 (IsTN na (cntK xa i164.toNat))), .val (IsHd g33 (IsTN nb xb)), .val (Lit (.int .u8 n)), .val (A7v m152 (ansL (val 4294967296 (cntK xa i164.toNat)) (val 4294967296 xb) n)), .box 43 7 (A7s)])
                    (out := [(57, .val (A7v m152 (ansL (val 4294967296 (cntK xa i164.toNat)) (val 4294967296 xb) n))), (13, .box 43 7 (A7s)), (12, .val (Lit (.int .i64 i164))), (11, .val (Lit (.int .i64 3))), (39, .val (Lit (.int .i64 3))), (1052, .val (Sz m152)), (15, .val (Lit (.int .i64 j140))), (1036, .val (Sz m136)), (1024, .val (Sz m124)), (17, .val (Lit (.int .i64 j113))), (1011, .val (Sz m111)), (1003, .val (Sz m103)), (987, .val (Sz m87)), (974, .val (Sz m74)), (14, .val (Lit (.int .i64 j51))), (947, .val (Sz m47)), (10, .box 43 7 (A7s)), (9, .box 42 15 (IsBook w0.heap.size (fun _ => True) m35 m152 ([]) 28)), (935, .val (Sz m35)), (8, .val (IsHd g33 (IsTN nb xb))), (931, .val (Sz m31)), (7, .val (IsHd g29 (IsTN na (cntK xa i164.toNat)))), (927, .val (Sz m27)), (0, .val (IsAb w0.heap.size na xa)), (1, .val (IsAb w0.heap.size nb xb)), (2, .val (Lit (.int .u8 n))), (114, .val (Sz lo))]) (nb := [13]) H173 5 [5] rfl (by kernel_rfl) rfl rfl ?_ ?_
                  · refine .cons (.plain rfl (ok_move (.tmp 0 rfl))) ?_
                    refine .cons (.plain rfl (ok_move (.tmp 0 rfl))) ?_
                    refine .cons (.plain rfl (ok_move (.tmp 0 rfl))) ?_
                    refine .cons (.plain rfl (ok_callF 3 (con_answersF (val 4294967296 (cntK xa i164.toNat)) (val 4294967296 xb) n (fit_listN ((cntK_len _ _ (by omega)).trans la) (cntK_dig da _ (by omega)) (by omega)) (fit_listN lb db (by omega)) (by omega)) rfl (.cons (.weak (.weak (.weak (.tmp 0 rfl) weakHd) weakTNAn) (weakAnM (by omega))) (.cons (.weak (.weak (.weak (.tmp 1 rfl) weakHd) weakTNAn) (weakAnM (by omega))) (.cons (.tmp 2 rfl) (.nil)))))) ?_
                    refine .cons (.plain rfl (ok_alloc7s)) ?_
                    exact .nil
                  clear H173 a166 w166 B166
                  intro a174 w174 B174 H174
                  simp only [List.cons_append, List.nil_append] at H174
                  refine ops_one ?_
                  refine store_op (l' := [(57, .val (A7v m152 (ansL (val 4294967296 (cntK xa i164.toNat)) (val 4294967296 xb) n))), (13, .box 43 7 (A7v m152 (ansL (val 4294967296 (cntK xa i164.toNat)) (val 4294967296 xb) n))), (12, .val (Lit (.int .i64 i164))), (11, .val (Lit (.int .i64 3))), (39, .val (Lit (.int .i64 3))), (1052, .val (Sz m152)), (15, .val (Lit (.int .i64 j140))), (1036, .val (Sz m136)), (1024, .val (Sz m124)), (17, .val (Lit (.int .i64 j113))), (1011, .val (Sz m111)), (1003, .val (Sz m103)), (987, .val (Sz m87)), (974, .val (Sz m74)), (14, .val (Lit (.int .i64 j51))), (947, .val (Sz m47)), (10, .box 43 7 (A7s)), (9, .box 42 15 (IsBook w0.heap.size (fun _ => True) m35 m152 ([]) 28)), (935, .val (Sz m35)), (8, .val (IsHd g33 (IsTN nb xb))), (931, .val (Sz m31)), (7, .val (IsHd g29 (IsTN na (cntK xa i164.toNat)))), (927, .val (Sz m27)), (0, .val (IsAb w0.heap.size na xa)), (1, .val (IsAb w0.heap.size nb xb)), (2, .val (Lit (.int .u8 n))), (114, .val (Sz lo))]) 1 H174 rfl tyA7 rfl (.tmp 0 rfl) shape_7s shape_7v rfl rfl ?_
                  clear H174 w174
                  intro w175 H175
                  refine ops_done ?_
                  refine then_normal ?_
                  refine wp_seq ?_
                  refine wp_seq ?_
                  obtain ⟨gs176, hgs176, H176⟩ := St.name7 H175 1 rfl (l' := fun gs176 => [(57, .val (A7v m152 (ansL (val 4294967296 (cntK xa i164.toNat)) (val 4294967296 xb) n))), (13, .box 43 7 (A7 gs176 (ansL (val 4294967296 (cntK xa i164.toNat)) (val 4294967296 xb) n))), (12, .val (Lit (.int .i64 i164))), (11, .val (Lit (.int .i64 3))), (39, .val (Lit (.int .i64 3))), (1052, .val (Sz m152)), (15, .val (Lit (.int .i64 j140))), (1036, .val (Sz m136)), (1024, .val (Sz m124)), (17, .val (Lit (.int .i64 j113))), (1011, .val (Sz m111)), (1003, .val (Sz m103)), (987, .val (Sz m87)), (974, .val (Sz m74)), (14, .val (Lit (.int .i64 j51))), (947, .val (Sz m47)), (10, .box 43 7 (A7s)), (9, .box 42 15 (IsBook w0.heap.size (fun _ => True) m35 m152 ([]) 28)), (935, .val (Sz m35)), (8, .val (IsHd g33 (IsTN nb xb))), (931, .val (Sz m31)), (7, .val (IsHd g29 (IsTN na (cntK xa i164.toNat)))), (927, .val (Sz m27)), (0, .val (IsAb w0.heap.size na xa)), (1, .val (IsAb w0.heap.size nb xb)), (2, .val (Lit (.int .u8 n))), (114, .val (Sz lo))]) (fun _ => rfl)
                  clear H175
                  replace H176 : St 114 w0 B0 a174 w175 B174 [(57, .val (A7v m152 (ansL (val 4294967296 (cntK xa i164.toNat)) (val 4294967296 xb) n))), (13, .box 43 7 (A7 gs176 (ansL (val 4294967296 (cntK xa i164.toNat)) (val 4294967296 xb) n))), (12, .val (Lit (.int .i64 i164))), (11, .val (Lit (.int .i64 3))), (39, .val (Lit (.int .i64 3))), (1052, .val (Sz m152)), (15, .val (Lit (.int .i64 j140))), (1036, .val (Sz m136)), (1024, .val (Sz m124)), (17, .val (Lit (.int .i64 j113))), (1011, .val (Sz m111)), (1003, .val (Sz m103)), (987, .val (Sz m87)), (974, .val (Sz m74)), (14, .val (Lit (.int .i64 j51))), (947, .val (Sz m47)), (10, .box 43 7 (A7s)), (9, .box 42 15 (IsBook w0.heap.size (fun _ => True) m35 m152 ([]) 28)), (935, .val (Sz m35)), (8, .val (IsHd g33 (IsTN nb xb))), (931, .val (Sz m31)), (7, .val (IsHd g29 (IsTN na (cntK xa i164.toNat)))), (927, .val (Sz m27)), (0, .val (IsAb w0.heap.size na xa)), (1, .val (IsAb w0.heap.size nb xb)), (2, .val (Lit (.int .u8 n))), (114, .val (Sz lo))] [13, 16, 10, 9] := H176
                  have hz177 : m152 ≤ w175.heap.size := H176.fc.get 5 rfl
                  obtain ⟨m178, hm178, hw178, hL178, H178⟩ := St.mark H176 1078
                  clear H176
                  clear hL178
                  replace hz177 : m152 ≤ m178 := Nat.le_trans hz177 hw178
                  replace hgs176 := hgs176.mono hw178
                  clear hw178
                  refine flow_region (dsts := [some 58, some 59]) (refs := [[.pre 4], [.res 0]]) (outs := [.res 1, .pre 0, .pre 2, .pre 3, .pre 4, .pre 5, .pre 6, .pre 7, .pre 8, .pre 9, .pre 10, .pre 11, .pre 12, .pre 13, .pre 14, .pre 15, .pre 16, .pre 17, .pre 18, .pre 19, .pre 20, .pre 21, .pre 22, .pre 23, .pre 24, .pre 25, .pre 26, .pre 27]) (als := [false, false]) (posts := [.val (Lit (.int .i64 3)), .val (IsB false)])
                    (out := [(59, .val (IsB false)), (1078, .val (Sz m178)), (13, .box 43 7 (A7 gs176 (ansL (val 4294967296 (cntK xa i164.toNat)) (val 4294967296 xb) n))), (12, .val (Lit (.int .i64 i164))), (11, .val (Lit (.int .i64 3))), (39, .val (Lit (.int .i64 3))), (1052, .val (Sz m152)), (15, .val (Lit (.int .i64 j140))), (1036, .val (Sz m136)), (1024, .val (Sz m124)), (17, .val (Lit (.int .i64 j113))), (1011, .val (Sz m111)), (1003, .val (Sz m103)), (987, .val (Sz m87)), (974, .val (Sz m74)), (14, .val (Lit (.int .i64 j51))), (947, .val (Sz m47)), (10, .box 43 7 (A7s)), (9, .box 42 15 (IsBook w0.heap.size (fun _ => True) m35 m152 ([]) 28)), (935, .val (Sz m35)), (8, .val (IsHd g33 (IsTN nb xb))), (931, .val (Sz m31)), (7, .val (IsHd g29 (IsTN na (cntK xa i164.toNat)))), (927, .val (Sz m27)), (0, .val (IsAb w0.heap.size na xa)), (1, .val (IsAb w0.heap.size nb xb)), (2, .val (Lit (.int .u8 n))), (114, .val (Sz lo))]) (nb := []) H178 2 [] rfl (by kernel_rfl) rfl rfl ?_ ?_
                  · refine .cons (.plain rfl (ok_move (.tmp 0 rfl))) ?_
                    refine .cons (.plain rfl (ok_cmp (b := false) (.tmp 0 rfl) (.lit) (by decide))) ?_
                    exact .nil
                  clear H178 a174 w175 B174
                  intro a179 w179 B179 H179
                  refine ops_done ?_
                  refine then_normal ?_
                  refine f_condF H179 (.tmp 0 rfl) ?_
                  refine wp_skip ?_
                  refine then_normal ?_
                  refine wp_seq ?_
                  refine wp_seq ?_
                  refine flow_region (dsts := [some 70, some 71]) (refs := [[.pre 4], [.res 0]]) (outs := [.res 1, .pre 1, .pre 2, .pre 3, .pre 4, .pre 5, .pre 6, .pre 7, .pre 8, .pre 9, .pre 10, .pre 11, .pre 12, .pre 13, .pre 14, .pre 15, .pre 16, .pre 17, .pre 18, .pre 19, .pre 20, .pre 21, .pre 22, .pre 23, .pre 24, .pre 25, .pre 26, .pre 27]) (als := [false, false]) (posts := [.val (Lit (.int .i64 3)), .val (IsB true)])
                    (out := [(71, .val (IsB true)), (1078, .val (Sz m178)), (13, .box 43 7 (A7 gs176 (ansL (val 4294967296 (cntK xa i164.toNat)) (val 4294967296 xb) n))), (12, .val (Lit (.int .i64 i164))), (11, .val (Lit (.int .i64 3))), (39, .val (Lit (.int .i64 3))), (1052, .val (Sz m152)), (15, .val (Lit (.int .i64 j140))), (1036, .val (Sz m136)), (1024, .val (Sz m124)), (17, .val (Lit (.int .i64 j113))), (1011, .val (Sz m111)), (1003, .val (Sz m103)), (987, .val (Sz m87)), (974, .val (Sz m74)), (14, .val (Lit (.int .i64 j51))), (947, .val (Sz m47)), (10, .box 43 7 (A7s)), (9, .box 42 15 (IsBook w0.heap.size (fun _ => True) m35 m152 ([]) 28)), (935, .val (Sz m35)), (8, .val (IsHd g33 (IsTN nb xb))), (931, .val (Sz m31)), (7, .val (IsHd g29 (IsTN na (cntK xa i164.toNat)))), (927, .val (Sz m27)), (0, .val (IsAb w0.heap.size na xa)), (1, .val (IsAb w0.heap.size nb xb)), (2, .val (Lit (.int .u8 n))), (114, .val (Sz lo))]) (nb := []) H179 2 [] rfl (by kernel_rfl) rfl rfl ?_ ?_
                  · refine .cons (.plain rfl (ok_move (.tmp 0 rfl))) ?_
                    refine .cons (.plain rfl (ok_cmp (b := true) (.tmp 0 rfl) (.lit) (by decide))) ?_
                    exact .nil
                  clear H179 a179 w179 B179
                  intro a180 w180 B180 H180
                  refine ops_done ?_
                  refine then_normal ?_
                  refine f_condT H180 (.tmp 0 rfl) ?_
                  refine flow_region (dsts := [some 72, some 73, some 74, some 75, some 76, some 77]) (refs := [[.pre 22], [.res 0, .pre 1], [.pre 20], [.res 2, .pre 1], [.pre 26], [.res 1, .res 3, .res 4, .pre 1]]) (outs := [.res 5, .pre 1, .pre 2, .pre 3, .pre 4, .pre 5, .pre 6, .pre 7, .pre 8, .pre 9, .pre 10, .pre 11, .pre 12, .pre 13, .pre 14, .pre 15, .pre 16, .pre 17, .pre 18, .pre 19, .pre 20, .pre 21, .pre 22, .pre 23, .pre 24, .pre 25, .pre 26, .pre 27]) (als := [false, false, false, false, false, false]) (posts := [.val (IsHd g29 (IsTN na (cntK xa i164.toNat))), .val (IsFr m178 (IsTN na (cntK xa i164.toNat))), .val (IsHd g33 (IsTN nb xb)), .val (IsFr m178 (IsTN nb xb)), .val (Lit (.int .u8 n)), .val (A7v m178 (ansL (val 4294967296 (cntK xa i164.toNat)) (val 4294967296 xb) n))])
                    (out := [(77, .val (A7v m178 (ansL (val 4294967296 (cntK xa i164.toNat)) (val 4294967296 xb) n))), (1078, .val (Sz m178)), (13, .box 43 7 (A7 gs176 (ansL (val 4294967296 (cntK xa i164.toNat)) (val 4294967296 xb) n))), (12, .val (Lit (.int .i64 i164))), (11, .val (Lit (.int .i64 3))), (39, .val (Lit (.int .i64 3))), (1052, .val (Sz m152)), (15, .val (Lit (.int .i64 j140))), (1036, .val (Sz m136)), (1024, .val (Sz m124)), (17, .val (Lit (.int .i64 j113))), (1011, .val (Sz m111)), (1003, .val (Sz m103)), (987, .val (Sz m87)), (974, .val (Sz m74)), (14, .val (Lit (.int .i64 j51))), (947, .val (Sz m47)), (10, .box 43 7 (A7s)), (9, .box 42 15 (IsBook w0.heap.size (fun _ => True) m35 m152 ([]) 28)), (935, .val (Sz m35)), (8, .val (IsHd g33 (IsTN nb xb))), (931, .val (Sz m31)), (7, .val (IsHd g29 (IsTN na (cntK xa i164.toNat)))), (927, .val (Sz m27)), (0, .val (IsAb w0.heap.size na xa)), (1, .val (IsAb w0.heap.size nb xb)), (2, .val (Lit (.int .u8 n))), (114, .val (Sz lo))]) (nb := []) H180 6 [6] rfl (by kernel_rfl) rfl rfl ?_ ?_
                  · refine .cons (.plain rfl (ok_move (.tmp 0 rfl))) ?_
                    refine .cons (.plain rfl (ok_callF 1 (con_twinF na (cntK xa i164.toNat) (by omega)) rfl (.cons (.weak (.weak (.tmp 0 rfl) weakHd) weakTNAn) (.nil)))) ?_
                    refine .cons (.plain rfl (ok_move (.tmp 0 rfl))) ?_
                    refine .cons (.plain rfl (ok_callF 1 (con_twinF nb xb (by omega)) rfl (.cons (.weak (.weak (.tmp 0 rfl) weakHd) weakTNAn) (.nil)))) ?_
                    refine .cons (.plain rfl (ok_move (.tmp 0 rfl))) ?_
                    refine .cons (.plain rfl (ok_callF 3 (con_answersF (val 4294967296 (cntK xa i164.toNat)) (val 4294967296 xb) n (fit_listN ((cntK_len _ _ (by omega)).trans la) (cntK_dig da _ (by omega)) (by omega)) (fit_listN lb db (by omega)) (by omega)) rfl (.cons (.weak (.weak (.weak (.tmp 0 rfl) weakFr) weakTNAn) (weakAnM (by omega))) (.cons (.weak (.weak (.weak (.tmp 1 rfl) weakFr) weakTNAn) (weakAnM (by omega))) (.cons (.tmp 2 rfl) (.nil)))))) ?_
                    exact .nil
                  clear H180 a180 w180 B180
                  intro a181 w181 B181 H181
                  refine ops_one ?_
                  refine store_op (l' := [(77, .val (A7v m178 (ansL (val 4294967296 (cntK xa i164.toNat)) (val 4294967296 xb) n))), (1078, .val (Sz m178)), (13, .box 43 7 (A7 gs176 (ansL (val 4294967296 (cntK xa i164.toNat)) (val 4294967296 xb) n))), (12, .val (Lit (.int .i64 i164))), (11, .val (Lit (.int .i64 3))), (39, .val (Lit (.int .i64 3))), (1052, .val (Sz m152)), (15, .val (Lit (.int .i64 j140))), (1036, .val (Sz m136)), (1024, .val (Sz m124)), (17, .val (Lit (.int .i64 j113))), (1011, .val (Sz m111)), (1003, .val (Sz m103)), (987, .val (Sz m87)), (974, .val (Sz m74)), (14, .val (Lit (.int .i64 j51))), (947, .val (Sz m47)), (10, .box 43 7 (A7v m178 (ansL (val 4294967296 (cntK xa i164.toNat)) (val 4294967296 xb) n))), (9, .box 42 15 (IsBook w0.heap.size (fun _ => True) m35 m152 ([]) 28)), (935, .val (Sz m35)), (8, .val (IsHd g33 (IsTN nb xb))), (931, .val (Sz m31)), (7, .val (IsHd g29 (IsTN na (cntK xa i164.toNat)))), (927, .val (Sz m27)), (0, .val (IsAb w0.heap.size na xa)), (1, .val (IsAb w0.heap.size nb xb)), (2, .val (Lit (.int .u8 n))), (114, .val (Sz lo))]) 17 H181 rfl tyA7 rfl (.tmp 0 rfl) shape_7s shape_7v rfl rfl ?_
                  clear H181 w181
                  intro w182 H182
                  refine ops_done ?_
                  refine then_normal ?_
                  refine wp_seq ?_
                  refine wp_seq ?_
                  obtain ⟨gs183, hgs183, H183⟩ := St.name7 H182 17 rfl (l' := fun gs183 => [(77, .val (A7v m178 (ansL (val 4294967296 (cntK xa i164.toNat)) (val 4294967296 xb) n))), (1078, .val (Sz m178)), (13, .box 43 7 (A7 gs176 (ansL (val 4294967296 (cntK xa i164.toNat)) (val 4294967296 xb) n))), (12, .val (Lit (.int .i64 i164))), (11, .val (Lit (.int .i64 3))), (39, .val (Lit (.int .i64 3))), (1052, .val (Sz m152)), (15, .val (Lit (.int .i64 j140))), (1036, .val (Sz m136)), (1024, .val (Sz m124)), (17, .val (Lit (.int .i64 j113))), (1011, .val (Sz m111)), (1003, .val (Sz m103)), (987, .val (Sz m87)), (974, .val (Sz m74)), (14, .val (Lit (.int .i64 j51))), (947, .val (Sz m47)), (10, .box 43 7 (A7 gs183 (ansL (val 4294967296 (cntK xa i164.toNat)) (val 4294967296 xb) n))), (9, .box 42 15 (IsBook w0.heap.size (fun _ => True) m35 m152 ([]) 28)), (935, .val (Sz m35)), (8, .val (IsHd g33 (IsTN nb xb))), (931, .val (Sz m31)), (7, .val (IsHd g29 (IsTN na (cntK xa i164.toNat)))), (927, .val (Sz m27)), (0, .val (IsAb w0.heap.size na xa)), (1, .val (IsAb w0.heap.size nb xb)), (2, .val (Lit (.int .u8 n))), (114, .val (Sz lo))]) (fun _ => rfl)
                  clear H182
                  replace H183 : St 114 w0 B0 a181 w182 B181 [(77, .val (A7v m178 (ansL (val 4294967296 (cntK xa i164.toNat)) (val 4294967296 xb) n))), (1078, .val (Sz m178)), (13, .box 43 7 (A7 gs176 (ansL (val 4294967296 (cntK xa i164.toNat)) (val 4294967296 xb) n))), (12, .val (Lit (.int .i64 i164))), (11, .val (Lit (.int .i64 3))), (39, .val (Lit (.int .i64 3))), (1052, .val (Sz m152)), (15, .val (Lit (.int .i64 j140))), (1036, .val (Sz m136)), (1024, .val (Sz m124)), (17, .val (Lit (.int .i64 j113))), (1011, .val (Sz m111)), (1003, .val (Sz m103)), (987, .val (Sz m87)), (974, .val (Sz m74)), (14, .val (Lit (.int .i64 j51))), (947, .val (Sz m47)), (10, .box 43 7 (A7 gs183 (ansL (val 4294967296 (cntK xa i164.toNat)) (val 4294967296 xb) n))), (9, .box 42 15 (IsBook w0.heap.size (fun _ => True) m35 m152 ([]) 28)), (935, .val (Sz m35)), (8, .val (IsHd g33 (IsTN nb xb))), (931, .val (Sz m31)), (7, .val (IsHd g29 (IsTN na (cntK xa i164.toNat)))), (927, .val (Sz m27)), (0, .val (IsAb w0.heap.size na xa)), (1, .val (IsAb w0.heap.size nb xb)), (2, .val (Lit (.int .u8 n))), (114, .val (Sz lo))] [13, 16, 10, 9] := H183
                  have hz184 : m178 ≤ w182.heap.size := H183.fc.get 1 rfl
                  obtain ⟨m185, hm185, hw185, hL185, H185⟩ := St.mark H183 1085
                  clear H183
                  clear hL185
                  replace hz184 : m178 ≤ m185 := Nat.le_trans hz184 hw185
                  replace hgs183 := hgs183.mono hw185
                  clear hw185
                  refine flow_region (dsts := [some 15]) (refs := [[]]) (outs := [.res 0, .pre 0, .pre 2, .pre 3, .pre 4, .pre 5, .pre 6, .pre 7, .pre 9, .pre 10, .pre 11, .pre 12, .pre 13, .pre 14, .pre 15, .pre 16, .pre 17, .pre 18, .pre 19, .pre 20, .pre 21, .pre 22, .pre 23, .pre 24, .pre 25, .pre 26, .pre 27, .pre 28]) (als := [false]) (posts := [.val (Lit (.int .i64 0))])
                    (out := [(15, .val (Lit (.int .i64 0))), (1085, .val (Sz m185)), (1078, .val (Sz m178)), (13, .box 43 7 (A7 gs176 (ansL (val 4294967296 (cntK xa i164.toNat)) (val 4294967296 xb) n))), (12, .val (Lit (.int .i64 i164))), (11, .val (Lit (.int .i64 3))), (39, .val (Lit (.int .i64 3))), (1052, .val (Sz m152)), (1036, .val (Sz m136)), (1024, .val (Sz m124)), (17, .val (Lit (.int .i64 j113))), (1011, .val (Sz m111)), (1003, .val (Sz m103)), (987, .val (Sz m87)), (974, .val (Sz m74)), (14, .val (Lit (.int .i64 j51))), (947, .val (Sz m47)), (10, .box 43 7 (A7 gs183 (ansL (val 4294967296 (cntK xa i164.toNat)) (val 4294967296 xb) n))), (9, .box 42 15 (IsBook w0.heap.size (fun _ => True) m35 m152 ([]) 28)), (935, .val (Sz m35)), (8, .val (IsHd g33 (IsTN nb xb))), (931, .val (Sz m31)), (7, .val (IsHd g29 (IsTN na (cntK xa i164.toNat)))), (927, .val (Sz m27)), (0, .val (IsAb w0.heap.size na xa)), (1, .val (IsAb w0.heap.size nb xb)), (2, .val (Lit (.int .u8 n))), (114, .val (Sz lo))]) (nb := []) H185 1 [] rfl (by kernel_rfl) rfl rfl ?_ ?_
                  · refine .cons (.plain rfl (ok_assign (.lit))) ?_
                    exact .nil
                  clear H185 a181 w182 B181
                  intro a186 w186 B186 H186
                  refine ops_done ?_
                  refine then_normal ?_
                  refine wp_block ?_
                  have H188 := St.fewerF H186 [0, 1, 2, 3, 4, 5, 6, 7, 8, 9, 10, 11, 12, 13, 14, 15, 16, 17, 18, 19, 20, 21, 22, 23, 24, 25, 26, 27] (l' := [(15, .val (Lit (.int .i64 0))), (1085, .val (Sz m185)), (1078, .val (Sz m178)), (13, .box 43 7 (A7 gs176 (ansL (val 4294967296 (cntK xa i164.toNat)) (val 4294967296 xb) n))), (12, .val (Lit (.int .i64 i164))), (11, .val (Lit (.int .i64 3))), (39, .val (Lit (.int .i64 3))), (1052, .val (Sz m152)), (1036, .val (Sz m136)), (1024, .val (Sz m124)), (17, .val (Lit (.int .i64 j113))), (1011, .val (Sz m111)), (1003, .val (Sz m103)), (987, .val (Sz m87)), (974, .val (Sz m74)), (14, .val (Lit (.int .i64 j51))), (947, .val (Sz m47)), (10, .box 43 7 (A7 gs183 (ansL (val 4294967296 (cntK xa i164.toNat)) (val 4294967296 xb) n))), (9, .box 42 15 (IsBook w0.heap.size (fun _ => True) m35 m152 ([]) 28)), (935, .val (Sz m35)), (8, .val (IsHd g33 (IsTN nb xb))), (931, .val (Sz m31)), (7, .val (IsHd g29 (IsTN na (cntK xa i164.toNat)))), (927, .val (Sz m27)), (0, .val (IsAb w0.heap.size na xa)), (1, .val (IsAb w0.heap.size nb xb)), (2, .val (Lit (.int .u8 n))), (114, .val (Sz lo))]) rfl
                  clear H186
                  refine f_loop (fun (j187 : Int) => [(15, .val (Lit (.int .i64 j187))), (1085, .val (Sz m185)), (1078, .val (Sz m178)), (13, .box 43 7 (A7 gs176 (ansL (val 4294967296 (cntK xa i164.toNat)) (val 4294967296 xb) n))), (12, .val (Lit (.int .i64 i164))), (11, .val (Lit (.int .i64 3))), (39, .val (Lit (.int .i64 3))), (1052, .val (Sz m152)), (1036, .val (Sz m136)), (1024, .val (Sz m124)), (17, .val (Lit (.int .i64 j113))), (1011, .val (Sz m111)), (1003, .val (Sz m103)), (987, .val (Sz m87)), (974, .val (Sz m74)), (14, .val (Lit (.int .i64 j51))), (947, .val (Sz m47)), (10, .box 43 7 (A7 gs183 (ansL (val 4294967296 (cntK xa i164.toNat)) (val 4294967296 xb) n))), (9, .box 42 15 (IsBook w0.heap.size (fun _ => True) m35 m152 (List.reverse (List.take j187.toNat gs176)) (28 + j187.toNat))), (935, .val (Sz m35)), (8, .val (IsHd g33 (IsTN nb xb))), (931, .val (Sz m31)), (7, .val (IsHd g29 (IsTN na (cntK xa i164.toNat)))), (927, .val (Sz m27)), (0, .val (IsAb w0.heap.size na xa)), (1, .val (IsAb w0.heap.size nb xb)), (2, .val (Lit (.int .u8 n))), (114, .val (Sz lo))]) (fun (j187 : Int) => 0 ≤ j187 ∧ j187 ≤ 7) (fun (j187 : Int) => (7 - j187).toNat) (0) (St.pick H188 [0, 1, 2, 3, 4, 5, 6, 7, 8, 9, 10, 11, 12, 13, 14, 15, 16, 17, 18, 19, 20, 21, 22, 23, 24, 25, 26, 27] rfl) (by exact ⟨by omega, by omega⟩) ?_
                  clear H188 a186 w186 B186
                  rintro j187 a189 w189 B189 hI189 H189
                  replace hI189 : 0 ≤ j187 ∧ j187 ≤ 7 := hI189
                  replace H189 : St 114 w0 B0 a189 w189 B189 [(15, .val (Lit (.int .i64 j187))), (1085, .val (Sz m185)), (1078, .val (Sz m178)), (13, .box 43 7 (A7 gs176 (ansL (val 4294967296 (cntK xa i164.toNat)) (val 4294967296 xb) n))), (12, .val (Lit (.int .i64 i164))), (11, .val (Lit (.int .i64 3))), (39, .val (Lit (.int .i64 3))), (1052, .val (Sz m152)), (1036, .val (Sz m136)), (1024, .val (Sz m124)), (17, .val (Lit (.int .i64 j113))), (1011, .val (Sz m111)), (1003, .val (Sz m103)), (987, .val (Sz m87)), (974, .val (Sz m74)), (14, .val (Lit (.int .i64 j51))), (947, .val (Sz m47)), (10, .box 43 7 (A7 gs183 (ansL (val 4294967296 (cntK xa i164.toNat)) (val 4294967296 xb) n))), (9, .box 42 15 (IsBook w0.heap.size (fun _ => True) m35 m152 (List.reverse (List.take j187.toNat gs176)) (28 + j187.toNat))), (935, .val (Sz m35)), (8, .val (IsHd g33 (IsTN nb xb))), (931, .val (Sz m31)), (7, .val (IsHd g29 (IsTN na (cntK xa i164.toNat)))), (927, .val (Sz m27)), (0, .val (IsAb w0.heap.size na xa)), (1, .val (IsAb w0.heap.size nb xb)), (2, .val (Lit (.int .u8 n))), (114, .val (Sz lo))] [13, 16, 10, 9] := H189
                  refine wp_seq ?_
                  refine wp_seq ?_
                  refine flow_region (dsts := [some 78, some 79]) (refs := [[.pre 0], [.res 0]]) (outs := [.res 1, .pre 0, .pre 1, .pre 2, .pre 3, .pre 4, .pre 5, .pre 6, .pre 7, .pre 8, .pre 9, .pre 10, .pre 11, .pre 12, .pre 13, .pre 14, .pre 15, .pre 16, .pre 17, .pre 18, .pre 19, .pre 20, .pre 21, .pre 22, .pre 23, .pre 24, .pre 25, .pre 26, .pre 27]) (als := [false, false]) (posts := [.val (Lit (.int .i64 j187)), .val (IsB (decide (j187 < 7)))])
                    (out := [(79, .val (IsB (decide (j187 < 7)))), (15, .val (Lit (.int .i64 j187))), (1085, .val (Sz m185)), (1078, .val (Sz m178)), (13, .box 43 7 (A7 gs176 (ansL (val 4294967296 (cntK xa i164.toNat)) (val 4294967296 xb) n))), (12, .val (Lit (.int .i64 i164))), (11, .val (Lit (.int .i64 3))), (39, .val (Lit (.int .i64 3))), (1052, .val (Sz m152)), (1036, .val (Sz m136)), (1024, .val (Sz m124)), (17, .val (Lit (.int .i64 j113))), (1011, .val (Sz m111)), (1003, .val (Sz m103)), (987, .val (Sz m87)), (974, .val (Sz m74)), (14, .val (Lit (.int .i64 j51))), (947, .val (Sz m47)), (10, .box 43 7 (A7 gs183 (ansL (val 4294967296 (cntK xa i164.toNat)) (val 4294967296 xb) n))), (9, .box 42 15 (IsBook w0.heap.size (fun _ => True) m35 m152 (List.reverse (List.take j187.toNat gs176)) (28 + j187.toNat))), (935, .val (Sz m35)), (8, .val (IsHd g33 (IsTN nb xb))), (931, .val (Sz m31)), (7, .val (IsHd g29 (IsTN na (cntK xa i164.toNat)))), (927, .val (Sz m27)), (0, .val (IsAb w0.heap.size na xa)), (1, .val (IsAb w0.heap.size nb xb)), (2, .val (Lit (.int .u8 n))), (114, .val (Sz lo))]) (nb := []) H189 2 [] rfl (by kernel_rfl) rfl rfl ?_ ?_
                  · refine .cons (.plain rfl (ok_move (.tmp 0 rfl))) ?_
                    refine .cons (.plain rfl (ok_cmp (.tmp 0 rfl) (.lit) rfl)) ?_
                    exact .nil
                  clear H189 a189 w189 B189
                  intro a190 w190 B190 H190
                  refine ops_done ?_
                  refine then_normal ?_
                  refine f_cond H190 (.tmp 0 rfl) ?_ ?_
                  · intro hc191
                    replace hc191 := of_decide_eq_true hc191
                    refine wp_skip ?_
                    refine then_normal ?_
                    refine wp_seq ?_
                    refine wp_block ?_
                    refine wp_seq ?_
                    refine wp_seq ?_
                    refine flow_drawT (dsts := [some 82, some 83, some 84, some 85, some 86, some 87, some 88, some 89]) (refs := [[.pre 1], [.pre 4, .res 0], [.res 1], [.pre 1], [.pre 18, .res 3], [.res 4], [.res 2, .res 5], [.res 6]]) (outs := [.res 7, .pre 1, .pre 2, .pre 3, .pre 4, .pre 5, .pre 6, .pre 7, .pre 8, .pre 9, .pre 10, .pre 11, .pre 12, .pre 13, .pre 14, .pre 15, .pre 16, .pre 17, .pre 18, .pre 19, .pre 20, .pre 21, .pre 22, .pre 23, .pre 24, .pre 25, .pre 26, .pre 27, .pre 28]) (als := [false, false, false, false, false, false, false, false]) (posts := [.val (Lit (.int .i64 j187)), .ptr 43 7 (A7 gs176 (ansL (val 4294967296 (cntK xa i164.toNat)) (val 4294967296 xb) n)) (j187.toNat), .val (IsHd (List.getD gs176 j187.toNat none) (IsC (List.getD (ansL (val 4294967296 (cntK xa i164.toNat)) (val 4294967296 xb) n) j187.toNat 0))), .val (Lit (.int .i64 j187)), .ptr 43 7 (A7 gs183 (ansL (val 4294967296 (cntK xa i164.toNat)) (val 4294967296 xb) n)) (j187.toNat), .val (IsHd (List.getD gs183 j187.toNat none) (IsC (List.getD (ansL (val 4294967296 (cntK xa i164.toNat)) (val 4294967296 xb) n) j187.toNat 0))), .val (IsB true), .val (IsB false)])
                      (out := [(89, .val (IsB false)), (15, .val (Lit (.int .i64 j187))), (1085, .val (Sz m185)), (1078, .val (Sz m178)), (13, .box 43 7 (A7 gs176 (ansL (val 4294967296 (cntK xa i164.toNat)) (val 4294967296 xb) n))), (12, .val (Lit (.int .i64 i164))), (11, .val (Lit (.int .i64 3))), (39, .val (Lit (.int .i64 3))), (1052, .val (Sz m152)), (1036, .val (Sz m136)), (1024, .val (Sz m124)), (17, .val (Lit (.int .i64 j113))), (1011, .val (Sz m111)), (1003, .val (Sz m103)), (987, .val (Sz m87)), (974, .val (Sz m74)), (14, .val (Lit (.int .i64 j51))), (947, .val (Sz m47)), (10, .box 43 7 (A7 gs183 (ansL (val 4294967296 (cntK xa i164.toNat)) (val 4294967296 xb) n))), (9, .box 42 15 (IsBook w0.heap.size (fun _ => True) m35 m152 (List.reverse (List.take j187.toNat gs176)) (28 + j187.toNat))), (935, .val (Sz m35)), (8, .val (IsHd g33 (IsTN nb xb))), (931, .val (Sz m31)), (7, .val (IsHd g29 (IsTN na (cntK xa i164.toNat)))), (927, .val (Sz m27)), (0, .val (IsAb w0.heap.size na xa)), (1, .val (IsAb w0.heap.size nb xb)), (2, .val (Lit (.int .u8 n))), (114, .val (Sz lo))]) (nb := []) H190 (by kernel_rfl) 8 0 #[true, true, true, true, true, true, true, true] (by kernel_rfl) (by kernel_rfl) rfl rfl ?_ ?_
                    · refine .cons (.plain rfl (ok_move (.tmp 0 rfl))) ?_
                      refine .cons (.plain rfl (ok_idx7 j187.toNat (by omega) (by omega) (.tmp 0 rfl) (.tmp 1 rfl))) ?_
                      refine .cons (.plain rfl (ok_load7 (by omega) (.tmp 0 rfl))) ?_
                      refine .cons (.plain rfl (ok_move (.tmp 0 rfl))) ?_
                      refine .cons (.plain rfl (ok_idx7 j187.toNat (by omega) (by omega) (.tmp 0 rfl) (.tmp 1 rfl))) ?_
                      refine .cons (.plain rfl (ok_load7 (by omega) (.tmp 0 rfl))) ?_
                      refine .cons (.plain rfl (ok_call (con_sameC (List.getD (ansL (val 4294967296 (cntK xa i164.toNat)) (val 4294967296 xb) n) j187.toNat 0)) (.cons (.weak (.tmp 0 rfl) weakHd) (.cons (.weak (.tmp 1 rfl) weakHd) (.nil))))) ?_
                      refine .cons (.plain rfl (ok_not (b := true) (.tmp 0 rfl))) ?_
                      exact .nil
                    clear H190 a190 w190 B190
                    intro a192 w192 B192 H192
                    refine any_done (by kernel_rfl) ?_
                    refine then_normal ?_
                    refine f_condF H192 (.tmp 0 rfl) ?_
                    refine wp_skip ?_
                    refine then_normal ?_
                    refine flow_region (dsts := [some 90, some 91, some 92]) (refs := [[.pre 1], [.pre 4, .res 0], [.res 1]]) (outs := [.res 2, .pre 1, .pre 2, .pre 3, .pre 4, .pre 5, .pre 6, .pre 7, .pre 8, .pre 9, .pre 10, .pre 11, .pre 12, .pre 13, .pre 14, .pre 15, .pre 16, .pre 17, .pre 18, .pre 19, .pre 20, .pre 21, .pre 22, .pre 23, .pre 24, .pre 25, .pre 26, .pre 27, .pre 28]) (als := [false, false, false]) (posts := [.val (Lit (.int .i64 j187)), .ptr 43 7 (A7 gs176 (ansL (val 4294967296 (cntK xa i164.toNat)) (val 4294967296 xb) n)) (j187.toNat), .val (IsHd (List.getD gs176 j187.toNat none) (IsC (List.getD (ansL (val 4294967296 (cntK xa i164.toNat)) (val 4294967296 xb) n) j187.toNat 0)))])
                      (out := [(92, .val (IsHd (List.getD gs176 j187.toNat none) (IsC (List.getD (ansL (val 4294967296 (cntK xa i164.toNat)) (val 4294967296 xb) n) j187.toNat 0)))), (15, .val (Lit (.int .i64 j187))), (1085, .val (Sz m185)), (1078, .val (Sz m178)), (13, .box 43 7 (A7 gs176 (ansL (val 4294967296 (cntK xa i164.toNat)) (val 4294967296 xb) n))), (12, .val (Lit (.int .i64 i164))), (11, .val (Lit (.int .i64 3))), (39, .val (Lit (.int .i64 3))), (1052, .val (Sz m152)), (1036, .val (Sz m136)), (1024, .val (Sz m124)), (17, .val (Lit (.int .i64 j113))), (1011, .val (Sz m111)), (1003, .val (Sz m103)), (987, .val (Sz m87)), (974, .val (Sz m74)), (14, .val (Lit (.int .i64 j51))), (947, .val (Sz m47)), (10, .box 43 7 (A7 gs183 (ansL (val 4294967296 (cntK xa i164.toNat)) (val 4294967296 xb) n))), (9, .box 42 15 (IsBook w0.heap.size (fun _ => True) m35 m152 (List.reverse (List.take j187.toNat gs176)) (28 + j187.toNat))), (935, .val (Sz m35)), (8, .val (IsHd g33 (IsTN nb xb))), (931, .val (Sz m31)), (7, .val (IsHd g29 (IsTN na (cntK xa i164.toNat)))), (927, .val (Sz m27)), (0, .val (IsAb w0.heap.size na xa)), (1, .val (IsAb w0.heap.size nb xb)), (2, .val (Lit (.int .u8 n))), (114, .val (Sz lo))]) (nb := []) H192 3 [3] rfl (by kernel_rfl) rfl rfl ?_ ?_
                    · refine .cons (.plain rfl (ok_move (.tmp 0 rfl))) ?_
                      refine .cons (.plain rfl (ok_idx7 j187.toNat (by omega) (by omega) (.tmp 0 rfl) (.tmp 1 rfl))) ?_
                      refine .cons (.plain rfl (ok_load7 (by omega) (.tmp 0 rfl))) ?_
                      exact .nil
                    clear H192 a192 w192 B192
                    intro a193 w193 B193 H193
                    refine ops_one ?_
                    have hk194 : ∀ b, (List.getD gs176 j187.toNat none) = some b → w0.heap.size ≤ b ∧ ¬ (m35 ≤ b ∧ b < m152) ∧ some b ∉ (List.reverse (List.take j187.toNat gs176)) := fun b hb => ⟨by have := hgs176.lo _ b hb; omega, fun hx => by have := hgs176.lo _ b hb; omega, hgs176.notin (by omega) hb⟩
                    refine keep_op (cnt := 28 + j187.toNat) (ks := [(92, .val (IsHd (List.getD gs176 j187.toNat none) (IsC (List.getD (ansL (val 4294967296 (cntK xa i164.toNat)) (val 4294967296 xb) n) j187.toNat 0)))), (15, .val (Lit (.int .i64 j187))), (1085, .val (Sz m185)), (1078, .val (Sz m178)), (13, .box 43 7 (A7 gs176 (ansL (val 4294967296 (cntK xa i164.toNat)) (val 4294967296 xb) n))), (12, .val (Lit (.int .i64 i164))), (11, .val (Lit (.int .i64 3))), (39, .val (Lit (.int .i64 3))), (1052, .val (Sz m152)), (1036, .val (Sz m136)), (1024, .val (Sz m124)), (17, .val (Lit (.int .i64 j113))), (1011, .val (Sz m111)), (1003, .val (Sz m103)), (987, .val (Sz m87)), (974, .val (Sz m74)), (14, .val (Lit (.int .i64 j51))), (947, .val (Sz m47)), (10, .box 43 7 (A7 gs183 (ansL (val 4294967296 (cntK xa i164.toNat)) (val 4294967296 xb) n))), (935, .val (Sz m35)), (8, .val (IsHd g33 (IsTN nb xb))), (931, .val (Sz m31)), (7, .val (IsHd g29 (IsTN na (cntK xa i164.toNat)))), (927, .val (Sz m27)), (0, .val (IsAb w0.heap.size na xa)), (1, .val (IsAb w0.heap.size nb xb)), (2, .val (Lit (.int .u8 n))), (114, .val (Sz lo))]) (l' := [(9, .box 42 15 (IsBook w0.heap.size (fun _ => True) m35 m152 ((List.getD gs176 j187.toNat none) :: (List.reverse (List.take j187.toNat gs176))) (28 + j187.toNat + 1))), (92, .val (IsHd (List.getD gs176 j187.toNat none) (IsC (List.getD (ansL (val 4294967296 (cntK xa i164.toNat)) (val 4294967296 xb) n) j187.toNat 0)))), (15, .val (Lit (.int .i64 j187))), (1085, .val (Sz m185)), (1078, .val (Sz m178)), (13, .box 43 7 (A7 gs176 (ansL (val 4294967296 (cntK xa i164.toNat)) (val 4294967296 xb) n))), (12, .val (Lit (.int .i64 i164))), (11, .val (Lit (.int .i64 3))), (39, .val (Lit (.int .i64 3))), (1052, .val (Sz m152)), (1036, .val (Sz m136)), (1024, .val (Sz m124)), (17, .val (Lit (.int .i64 j113))), (1011, .val (Sz m111)), (1003, .val (Sz m103)), (987, .val (Sz m87)), (974, .val (Sz m74)), (14, .val (Lit (.int .i64 j51))), (947, .val (Sz m47)), (10, .box 43 7 (A7 gs183 (ansL (val 4294967296 (cntK xa i164.toNat)) (val 4294967296 xb) n))), (935, .val (Sz m35)), (8, .val (IsHd g33 (IsTN nb xb))), (931, .val (Sz m31)), (7, .val (IsHd g29 (IsTN na (cntK xa i164.toNat)))), (927, .val (Sz m27)), (0, .val (IsAb w0.heap.size na xa)), (1, .val (IsAb w0.heap.size nb xb)), (2, .val (Lit (.int .u8 n))), (114, .val (Sz lo))]) 19 [0, 1, 2, 3, 4, 5, 6, 7, 8, 9, 10, 11, 12, 13, 14, 15, 16, 17, 18, 20, 21, 22, 23, 24, 25, 26, 27, 28] H193 rfl (fun _ _ => by go_simp) keep_nat rfl (rfl) (.tmp 0 rfl) (by omega) (fun _ _ => trivial) hk194 rfl (by kernel_rfl) (.cons (keptB_hd loc_C) (.cons (keptB_lit) (.cons (keptB_sz) (.cons (keptB_sz) (.cons (keptB_box (by decide) keptB_7) (.cons (keptB_lit) (.cons (keptB_lit) (.cons (keptB_lit) (.cons (keptB_sz) (.cons (keptB_sz) (.cons (keptB_sz) (.cons (keptB_lit) (.cons (keptB_sz) (.cons (keptB_sz) (.cons (keptB_sz) (.cons (keptB_sz) (.cons (keptB_lit) (.cons (keptB_sz) (.cons (keptB_box (by decide) keptB_7) (.cons (keptB_sz) (.cons (keptB_hd loc_TN) (.cons (keptB_sz) (.cons (keptB_hd loc_TN) (.cons (keptB_sz) (.cons (keptB_ab (Nat.le_refl _)) (.cons (keptB_ab (Nat.le_refl _)) (.cons (keptB_lit) (.cons (keptB_sz) (.nil))))))))))))))))))))))))))))) (by decide) rfl ?_
                    clear H193 hk194 a193 w193 B193
                    intro a194 w194 B194 H194
                    refine ops_done ?_
                    refine block_normal ?_
                    refine then_normal ?_
                    refine flow_region (dsts := [some 80, some 81]) (refs := [[.pre 2], [.res 0]]) (outs := [.res 1, .pre 0, .pre 2, .pre 3, .pre 4, .pre 5, .pre 6, .pre 7, .pre 8, .pre 9, .pre 10, .pre 11, .pre 12, .pre 13, .pre 14, .pre 15, .pre 16, .pre 17, .pre 18, .pre 19, .pre 20, .pre 21, .pre 22, .pre 23, .pre 24, .pre 25, .pre 26, .pre 27, .pre 28]) (als := [false, false]) (posts := [.val (Lit (.int .i64 j187)), .val (Lit (.int .i64 (j187 + 1)))])
                      (out := [(81, .val (Lit (.int .i64 (j187 + 1)))), (9, .box 42 15 (IsBook w0.heap.size (fun _ => True) m35 m152 ((List.getD gs176 j187.toNat none) :: (List.reverse (List.take j187.toNat gs176))) (28 + j187.toNat + 1))), (15, .val (Lit (.int .i64 j187))), (1085, .val (Sz m185)), (1078, .val (Sz m178)), (13, .box 43 7 (A7 gs176 (ansL (val 4294967296 (cntK xa i164.toNat)) (val 4294967296 xb) n))), (12, .val (Lit (.int .i64 i164))), (11, .val (Lit (.int .i64 3))), (39, .val (Lit (.int .i64 3))), (1052, .val (Sz m152)), (1036, .val (Sz m136)), (1024, .val (Sz m124)), (17, .val (Lit (.int .i64 j113))), (1011, .val (Sz m111)), (1003, .val (Sz m103)), (987, .val (Sz m87)), (974, .val (Sz m74)), (14, .val (Lit (.int .i64 j51))), (947, .val (Sz m47)), (10, .box 43 7 (A7 gs183 (ansL (val 4294967296 (cntK xa i164.toNat)) (val 4294967296 xb) n))), (935, .val (Sz m35)), (8, .val (IsHd g33 (IsTN nb xb))), (931, .val (Sz m31)), (7, .val (IsHd g29 (IsTN na (cntK xa i164.toNat)))), (927, .val (Sz m27)), (0, .val (IsAb w0.heap.size na xa)), (1, .val (IsAb w0.heap.size nb xb)), (2, .val (Lit (.int .u8 n))), (114, .val (Sz lo))]) (nb := []) H194 2 [2] rfl (by kernel_rfl) rfl rfl ?_ ?_
                    · refine .cons (.plain rfl (ok_move (.tmp 0 rfl))) ?_
                      refine .cons (.plain rfl (ok_add (r := (j187 + 1)) (.tmp 0 rfl) (.lit) (w_i64 (by omega)))) ?_
                      exact .nil
                    clear H194 a194 w194 B194
                    intro a195 w195 B195 H195
                    refine ops_one ?_
                    refine tail_op (D := .val (Lit (.int .i64 (j187 + 1)))) (l' := [(15, .val (Lit (.int .i64 (j187 + 1)))), (81, .val (Lit (.int .i64 (j187 + 1)))), (9, .box 42 15 (IsBook w0.heap.size (fun _ => True) m35 m152 ((List.getD gs176 j187.toNat none) :: (List.reverse (List.take j187.toNat gs176))) (28 + j187.toNat + 1))), (1085, .val (Sz m185)), (1078, .val (Sz m178)), (13, .box 43 7 (A7 gs176 (ansL (val 4294967296 (cntK xa i164.toNat)) (val 4294967296 xb) n))), (12, .val (Lit (.int .i64 i164))), (11, .val (Lit (.int .i64 3))), (39, .val (Lit (.int .i64 3))), (1052, .val (Sz m152)), (1036, .val (Sz m136)), (1024, .val (Sz m124)), (17, .val (Lit (.int .i64 j113))), (1011, .val (Sz m111)), (1003, .val (Sz m103)), (987, .val (Sz m87)), (974, .val (Sz m74)), (14, .val (Lit (.int .i64 j51))), (947, .val (Sz m47)), (10, .box 43 7 (A7 gs183 (ansL (val 4294967296 (cntK xa i164.toNat)) (val 4294967296 xb) n))), (935, .val (Sz m35)), (8, .val (IsHd g33 (IsTN nb xb))), (931, .val (Sz m31)), (7, .val (IsHd g29 (IsTN na (cntK xa i164.toNat)))), (927, .val (Sz m27)), (0, .val (IsAb w0.heap.size na xa)), (1, .val (IsAb w0.heap.size nb xb)), (2, .val (Lit (.int .u8 n))), (114, .val (Sz lo))]) H195 rfl rfl rfl (.plain rfl (ok_assign (.tmp 0 rfl))) rfl rfl ?_
                    clear H195 a195 w195 B195
                    intro a196 w196 B196 H196
                    refine ops_done ?_
                    have H197 := St.setwB H196 2 (D' := IsBook w0.heap.size (fun _ => True) m35 m152 (List.reverse (List.take (j187 + 1).toNat gs176)) (28 + (j187 + 1).toNat)) rfl (fun v h => book_cnt (by omega) (by rw [show (j187 + 1).toNat = j187.toNat + 1 by omega]; exact take_next _ _ (by rw [hgs176.len]; omega)) v h) (l' := [(15, .val (Lit (.int .i64 (j187 + 1)))), (81, .val (Lit (.int .i64 (j187 + 1)))), (9, .box 42 15 (IsBook w0.heap.size (fun _ => True) m35 m152 (List.reverse (List.take (j187 + 1).toNat gs176)) (28 + (j187 + 1).toNat))), (1085, .val (Sz m185)), (1078, .val (Sz m178)), (13, .box 43 7 (A7 gs176 (ansL (val 4294967296 (cntK xa i164.toNat)) (val 4294967296 xb) n))), (12, .val (Lit (.int .i64 i164))), (11, .val (Lit (.int .i64 3))), (39, .val (Lit (.int .i64 3))), (1052, .val (Sz m152)), (1036, .val (Sz m136)), (1024, .val (Sz m124)), (17, .val (Lit (.int .i64 j113))), (1011, .val (Sz m111)), (1003, .val (Sz m103)), (987, .val (Sz m87)), (974, .val (Sz m74)), (14, .val (Lit (.int .i64 j51))), (947, .val (Sz m47)), (10, .box 43 7 (A7 gs183 (ansL (val 4294967296 (cntK xa i164.toNat)) (val 4294967296 xb) n))), (935, .val (Sz m35)), (8, .val (IsHd g33 (IsTN nb xb))), (931, .val (Sz m31)), (7, .val (IsHd g29 (IsTN na (cntK xa i164.toNat)))), (927, .val (Sz m27)), (0, .val (IsAb w0.heap.size na xa)), (1, .val (IsAb w0.heap.size nb xb)), (2, .val (Lit (.int .u8 n))), (114, .val (Sz lo))]) rfl
                    clear H196
                    exact ⟨j187 + 1, B196, by exact ⟨by omega, by omega⟩, St.pick H197 [0, 3, 4, 5, 6, 7, 8, 9, 10, 11, 12, 13, 14, 15, 16, 17, 18, 19, 2, 20, 21, 22, 23, 24, 25, 26, 27, 28] rfl, by show (7 - (j187 + 1)).toNat < (7 - j187).toNat; omega⟩
                  · intro hc191
                    replace hc191 := of_decide_eq_false hc191
                    refine wp_exit ?_
                    refine then_exit ?_
                    refine then_exit ?_
                    refine block_exit ?_
                    refine then_normal ?_
                    refine wp_seq ?_
                    have hz198 : m185 ≤ w190.heap.size := H190.fc.get 2 rfl
                    obtain ⟨m199, hm199, hw199, hL199, H199⟩ := St.mark H190 1099
                    clear H190
                    clear hL199
                    replace hz198 : m185 ≤ m199 := Nat.le_trans hz198 hw199
                    have H200 := St.rebook H199 20 rfl hw199 (by intro b hb; have := hgs176.ex hb; omega) (l' := [(1099, .val (Sz m199)), (79, .val (IsB (decide (j187 < 7)))), (15, .val (Lit (.int .i64 j187))), (1085, .val (Sz m185)), (1078, .val (Sz m178)), (13, .box 43 7 (A7 gs176 (ansL (val 4294967296 (cntK xa i164.toNat)) (val 4294967296 xb) n))), (12, .val (Lit (.int .i64 i164))), (11, .val (Lit (.int .i64 3))), (39, .val (Lit (.int .i64 3))), (1052, .val (Sz m152)), (1036, .val (Sz m136)), (1024, .val (Sz m124)), (17, .val (Lit (.int .i64 j113))), (1011, .val (Sz m111)), (1003, .val (Sz m103)), (987, .val (Sz m87)), (974, .val (Sz m74)), (14, .val (Lit (.int .i64 j51))), (947, .val (Sz m47)), (10, .box 43 7 (A7 gs183 (ansL (val 4294967296 (cntK xa i164.toNat)) (val 4294967296 xb) n))), (9, .box 42 15 (IsBook w0.heap.size (fun _ => True) m35 m199 ([]) (28 + j187.toNat))), (935, .val (Sz m35)), (8, .val (IsHd g33 (IsTN nb xb))), (931, .val (Sz m31)), (7, .val (IsHd g29 (IsTN na (cntK xa i164.toNat)))), (927, .val (Sz m27)), (0, .val (IsAb w0.heap.size na xa)), (1, .val (IsAb w0.heap.size nb xb)), (2, .val (Lit (.int .u8 n))), (114, .val (Sz lo))]) rfl
                    clear H199 hw199
                    have H201 := St.setwB H200 20 (D' := IsBook w0.heap.size (fun _ => True) m35 m199 ([]) 35) rfl (fun v h => book_cnt (by omega) rfl v h) (l' := [(1099, .val (Sz m199)), (79, .val (IsB (decide (j187 < 7)))), (15, .val (Lit (.int .i64 j187))), (1085, .val (Sz m185)), (1078, .val (Sz m178)), (13, .box 43 7 (A7 gs176 (ansL (val 4294967296 (cntK xa i164.toNat)) (val 4294967296 xb) n))), (12, .val (Lit (.int .i64 i164))), (11, .val (Lit (.int .i64 3))), (39, .val (Lit (.int .i64 3))), (1052, .val (Sz m152)), (1036, .val (Sz m136)), (1024, .val (Sz m124)), (17, .val (Lit (.int .i64 j113))), (1011, .val (Sz m111)), (1003, .val (Sz m103)), (987, .val (Sz m87)), (974, .val (Sz m74)), (14, .val (Lit (.int .i64 j51))), (947, .val (Sz m47)), (10, .box 43 7 (A7 gs183 (ansL (val 4294967296 (cntK xa i164.toNat)) (val 4294967296 xb) n))), (9, .box 42 15 (IsBook w0.heap.size (fun _ => True) m35 m199 ([]) 35)), (935, .val (Sz m35)), (8, .val (IsHd g33 (IsTN nb xb))), (931, .val (Sz m31)), (7, .val (IsHd g29 (IsTN na (cntK xa i164.toNat)))), (927, .val (Sz m27)), (0, .val (IsAb w0.heap.size na xa)), (1, .val (IsAb w0.heap.size nb xb)), (2, .val (Lit (.int .u8 n))), (114, .val (Sz lo))]) rfl
                    clear H200
                    refine flow_region (dsts := [some 94, some 95]) (refs := [[.pre 7], [.res 0]]) (outs := [.res 1, .pre 0, .pre 2, .pre 3, .pre 4, .pre 5, .pre 6, .pre 7, .pre 8, .pre 9, .pre 10, .pre 11, .pre 12, .pre 13, .pre 14, .pre 15, .pre 16, .pre 17, .pre 18, .pre 19, .pre 20, .pre 21, .pre 22, .pre 23, .pre 24, .pre 25, .pre 26, .pre 27, .pre 28, .pre 29]) (als := [false, false]) (posts := [.val (Lit (.int .i64 3)), .val (IsB false)])
                      (out := [(95, .val (IsB false)), (1099, .val (Sz m199)), (15, .val (Lit (.int .i64 j187))), (1085, .val (Sz m185)), (1078, .val (Sz m178)), (13, .box 43 7 (A7 gs176 (ansL (val 4294967296 (cntK xa i164.toNat)) (val 4294967296 xb) n))), (12, .val (Lit (.int .i64 i164))), (11, .val (Lit (.int .i64 3))), (39, .val (Lit (.int .i64 3))), (1052, .val (Sz m152)), (1036, .val (Sz m136)), (1024, .val (Sz m124)), (17, .val (Lit (.int .i64 j113))), (1011, .val (Sz m111)), (1003, .val (Sz m103)), (987, .val (Sz m87)), (974, .val (Sz m74)), (14, .val (Lit (.int .i64 j51))), (947, .val (Sz m47)), (10, .box 43 7 (A7 gs183 (ansL (val 4294967296 (cntK xa i164.toNat)) (val 4294967296 xb) n))), (9, .box 42 15 (IsBook w0.heap.size (fun _ => True) m35 m199 ([]) 35)), (935, .val (Sz m35)), (8, .val (IsHd g33 (IsTN nb xb))), (931, .val (Sz m31)), (7, .val (IsHd g29 (IsTN na (cntK xa i164.toNat)))), (927, .val (Sz m27)), (0, .val (IsAb w0.heap.size na xa)), (1, .val (IsAb w0.heap.size nb xb)), (2, .val (Lit (.int .u8 n))), (114, .val (Sz lo))]) (nb := []) H201 2 [] rfl (by kernel_rfl) rfl rfl ?_ ?_
                    · refine .cons (.plain rfl (ok_move (.tmp 0 rfl))) ?_
                      refine .cons (.plain rfl (ok_cmp (b := false) (.tmp 0 rfl) (.lit) (by decide))) ?_
                      exact .nil
                    clear H201 a190 w190 B190
                    intro a202 w202 B202 H202
                    refine ops_done ?_
                    refine then_normal ?_
                    refine f_condF H202 (.tmp 0 rfl) ?_
                    refine wp_skip ?_
                    refine block_normal ?_
                    refine then_normal ?_
                    refine flow_region (dsts := [some 38, some 39]) (refs := [[.pre 7], [.res 0]]) (outs := [.res 1, .pre 1, .pre 2, .pre 3, .pre 4, .pre 5, .pre 6, .pre 7, .pre 9, .pre 10, .pre 11, .pre 12, .pre 13, .pre 14, .pre 15, .pre 16, .pre 17, .pre 18, .pre 19, .pre 20, .pre 21, .pre 22, .pre 23, .pre 24, .pre 25, .pre 26, .pre 27, .pre 28, .pre 29]) (als := [false, false]) (posts := [.val (Lit (.int .i64 3)), .val (Lit (.int .i64 4))])
                      (out := [(39, .val (Lit (.int .i64 4))), (1099, .val (Sz m199)), (15, .val (Lit (.int .i64 j187))), (1085, .val (Sz m185)), (1078, .val (Sz m178)), (13, .box 43 7 (A7 gs176 (ansL (val 4294967296 (cntK xa i164.toNat)) (val 4294967296 xb) n))), (12, .val (Lit (.int .i64 i164))), (11, .val (Lit (.int .i64 3))), (1052, .val (Sz m152)), (1036, .val (Sz m136)), (1024, .val (Sz m124)), (17, .val (Lit (.int .i64 j113))), (1011, .val (Sz m111)), (1003, .val (Sz m103)), (987, .val (Sz m87)), (974, .val (Sz m74)), (14, .val (Lit (.int .i64 j51))), (947, .val (Sz m47)), (10, .box 43 7 (A7 gs183 (ansL (val 4294967296 (cntK xa i164.toNat)) (val 4294967296 xb) n))), (9, .box 42 15 (IsBook w0.heap.size (fun _ => True) m35 m199 ([]) 35)), (935, .val (Sz m35)), (8, .val (IsHd g33 (IsTN nb xb))), (931, .val (Sz m31)), (7, .val (IsHd g29 (IsTN na (cntK xa i164.toNat)))), (927, .val (Sz m27)), (0, .val (IsAb w0.heap.size na xa)), (1, .val (IsAb w0.heap.size nb xb)), (2, .val (Lit (.int .u8 n))), (114, .val (Sz lo))]) (nb := []) H202 2 [2] rfl (by kernel_rfl) rfl rfl ?_ ?_
                    · refine .cons (.plain rfl (ok_move (.tmp 0 rfl))) ?_
                      refine .cons (.plain rfl (ok_add (r := 4) (.tmp 0 rfl) (.lit) (by decide))) ?_
                      exact .nil
                    clear H202 a202 w202 B202
                    intro a203 w203 B203 H203
                    refine ops_one ?_
                    refine tail_op (D := .val (Lit (.int .i64 4))) (l' := [(11, .val (Lit (.int .i64 4))), (39, .val (Lit (.int .i64 4))), (1099, .val (Sz m199)), (15, .val (Lit (.int .i64 j187))), (1085, .val (Sz m185)), (1078, .val (Sz m178)), (13, .box 43 7 (A7 gs176 (ansL (val 4294967296 (cntK xa i164.toNat)) (val 4294967296 xb) n))), (12, .val (Lit (.int .i64 i164))), (1052, .val (Sz m152)), (1036, .val (Sz m136)), (1024, .val (Sz m124)), (17, .val (Lit (.int .i64 j113))), (1011, .val (Sz m111)), (1003, .val (Sz m103)), (987, .val (Sz m87)), (974, .val (Sz m74)), (14, .val (Lit (.int .i64 j51))), (947, .val (Sz m47)), (10, .box 43 7 (A7 gs183 (ansL (val 4294967296 (cntK xa i164.toNat)) (val 4294967296 xb) n))), (9, .box 42 15 (IsBook w0.heap.size (fun _ => True) m35 m199 ([]) 35)), (935, .val (Sz m35)), (8, .val (IsHd g33 (IsTN nb xb))), (931, .val (Sz m31)), (7, .val (IsHd g29 (IsTN na (cntK xa i164.toNat)))), (927, .val (Sz m27)), (0, .val (IsAb w0.heap.size na xa)), (1, .val (IsAb w0.heap.size nb xb)), (2, .val (Lit (.int .u8 n))), (114, .val (Sz lo))]) H203 rfl rfl rfl (.plain rfl (ok_assign (.tmp 0 rfl))) rfl rfl ?_
                    clear H203 a203 w203 B203
                    intro a204 w204 B204 H204
                    refine ops_done ?_
                    refine then_normal ?_
                    rw [rounds_succ]
                    refine wp_seq ?_
                    refine wp_seq ?_
                    refine flow_region (dsts := [some 36, some 37]) (refs := [[.pre 0], [.res 0]]) (outs := [.res 1, .pre 0, .pre 1, .pre 2, .pre 3, .pre 4, .pre 5, .pre 6, .pre 7, .pre 8, .pre 9, .pre 10, .pre 11, .pre 12, .pre 13, .pre 14, .pre 15, .pre 16, .pre 17, .pre 18, .pre 19, .pre 20, .pre 21, .pre 22, .pre 23, .pre 24, .pre 25, .pre 26, .pre 27, .pre 28]) (als := [false, false]) (posts := [.val (Lit (.int .i64 4)), .val (IsB false)])
                      (out := [(37, .val (IsB false)), (11, .val (Lit (.int .i64 4))), (39, .val (Lit (.int .i64 4))), (1099, .val (Sz m199)), (15, .val (Lit (.int .i64 j187))), (1085, .val (Sz m185)), (1078, .val (Sz m178)), (13, .box 43 7 (A7 gs176 (ansL (val 4294967296 (cntK xa i164.toNat)) (val 4294967296 xb) n))), (12, .val (Lit (.int .i64 i164))), (1052, .val (Sz m152)), (1036, .val (Sz m136)), (1024, .val (Sz m124)), (17, .val (Lit (.int .i64 j113))), (1011, .val (Sz m111)), (1003, .val (Sz m103)), (987, .val (Sz m87)), (974, .val (Sz m74)), (14, .val (Lit (.int .i64 j51))), (947, .val (Sz m47)), (10, .box 43 7 (A7 gs183 (ansL (val 4294967296 (cntK xa i164.toNat)) (val 4294967296 xb) n))), (9, .box 42 15 (IsBook w0.heap.size (fun _ => True) m35 m199 ([]) 35)), (935, .val (Sz m35)), (8, .val (IsHd g33 (IsTN nb xb))), (931, .val (Sz m31)), (7, .val (IsHd g29 (IsTN na (cntK xa i164.toNat)))), (927, .val (Sz m27)), (0, .val (IsAb w0.heap.size na xa)), (1, .val (IsAb w0.heap.size nb xb)), (2, .val (Lit (.int .u8 n))), (114, .val (Sz lo))]) (nb := []) H204 2 [] rfl (by kernel_rfl) rfl rfl ?_ ?_
                    · refine .cons (.plain rfl (ok_move (.tmp 0 rfl))) ?_
                      refine .cons (.plain rfl (ok_cmp (b := false) (.tmp 0 rfl) (.lit) (by decide))) ?_
                      exact .nil
                    clear H204 a204 w204 B204
                    intro a205 w205 B205 H205
                    refine ops_done ?_
                    refine then_normal ?_
                    refine f_condF H205 (.tmp 0 rfl) ?_
                    refine wp_exit ?_
                    refine then_exit ?_
                    refine then_exit ?_
                    refine block_exit ?_
                    refine then_normal ?_
                    refine wp_seq ?_
                    refine flow_region (dsts := [some 109]) (refs := [[.pre 24]]) (outs := [.res 0, .pre 1, .pre 2, .pre 3, .pre 4, .pre 5, .pre 6, .pre 7, .pre 8, .pre 9, .pre 10, .pre 11, .pre 12, .pre 13, .pre 14, .pre 15, .pre 16, .pre 17, .pre 18, .pre 19, .pre 20, .pre 21, .pre 22, .pre 23, .pre 24, .pre 25, .pre 26, .pre 27, .pre 28, .pre 29]) (als := [false]) (posts := [.val (IsHd g29 (IsTN na (cntK xa i164.toNat)))])
                      (out := [(109, .val (IsHd g29 (IsTN na (cntK xa i164.toNat)))), (11, .val (Lit (.int .i64 4))), (39, .val (Lit (.int .i64 4))), (1099, .val (Sz m199)), (15, .val (Lit (.int .i64 j187))), (1085, .val (Sz m185)), (1078, .val (Sz m178)), (13, .box 43 7 (A7 gs176 (ansL (val 4294967296 (cntK xa i164.toNat)) (val 4294967296 xb) n))), (12, .val (Lit (.int .i64 i164))), (1052, .val (Sz m152)), (1036, .val (Sz m136)), (1024, .val (Sz m124)), (17, .val (Lit (.int .i64 j113))), (1011, .val (Sz m111)), (1003, .val (Sz m103)), (987, .val (Sz m87)), (974, .val (Sz m74)), (14, .val (Lit (.int .i64 j51))), (947, .val (Sz m47)), (10, .box 43 7 (A7 gs183 (ansL (val 4294967296 (cntK xa i164.toNat)) (val 4294967296 xb) n))), (9, .box 42 15 (IsBook w0.heap.size (fun _ => True) m35 m199 ([]) 35)), (935, .val (Sz m35)), (8, .val (IsHd g33 (IsTN nb xb))), (931, .val (Sz m31)), (7, .val (IsHd g29 (IsTN na (cntK xa i164.toNat)))), (927, .val (Sz m27)), (0, .val (IsAb w0.heap.size na xa)), (1, .val (IsAb w0.heap.size nb xb)), (2, .val (Lit (.int .u8 n))), (114, .val (Sz lo))]) (nb := []) H205 1 [1] rfl (by kernel_rfl) rfl rfl ?_ ?_
                    · refine .cons (.plain rfl (ok_move (.tmp 0 rfl))) ?_
                      exact .nil
                    clear H205 a205 w205 B205
                    intro a206 w206 B206 H206
                    refine ops_one ?_
                    have hk207 : ∀ b, g29 = some b → w0.heap.size ≤ b ∧ ¬ (m35 ≤ b ∧ b < m199) ∧ some b ∉ ([] : List (Option Nat)) := fun b hb => ⟨by have := hg29 b hb; omega, fun hx => by have := hg29 b hb; omega, by simp⟩
                    refine keep_op (cnt := 35) (ks := [(109, .val (IsHd g29 (IsTN na (cntK xa i164.toNat)))), (11, .val (Lit (.int .i64 4))), (39, .val (Lit (.int .i64 4))), (1099, .val (Sz m199)), (15, .val (Lit (.int .i64 j187))), (1085, .val (Sz m185)), (1078, .val (Sz m178)), (13, .box 43 7 (A7 gs176 (ansL (val 4294967296 (cntK xa i164.toNat)) (val 4294967296 xb) n))), (12, .val (Lit (.int .i64 i164))), (1052, .val (Sz m152)), (1036, .val (Sz m136)), (1024, .val (Sz m124)), (17, .val (Lit (.int .i64 j113))), (1011, .val (Sz m111)), (1003, .val (Sz m103)), (987, .val (Sz m87)), (974, .val (Sz m74)), (14, .val (Lit (.int .i64 j51))), (947, .val (Sz m47)), (10, .box 43 7 (A7 gs183 (ansL (val 4294967296 (cntK xa i164.toNat)) (val 4294967296 xb) n))), (935, .val (Sz m35)), (8, .val (IsHd g33 (IsTN nb xb))), (931, .val (Sz m31)), (7, .val (IsHd g29 (IsTN na (cntK xa i164.toNat)))), (927, .val (Sz m27)), (0, .val (IsAb w0.heap.size na xa)), (1, .val (IsAb w0.heap.size nb xb)), (2, .val (Lit (.int .u8 n))), (114, .val (Sz lo))]) (l' := [(9, .box 42 15 (IsBook w0.heap.size (fun _ => True) m35 m199 ([g29]) 36)), (109, .val (IsHd g29 (IsTN na (cntK xa i164.toNat)))), (11, .val (Lit (.int .i64 4))), (39, .val (Lit (.int .i64 4))), (1099, .val (Sz m199)), (15, .val (Lit (.int .i64 j187))), (1085, .val (Sz m185)), (1078, .val (Sz m178)), (13, .box 43 7 (A7 gs176 (ansL (val 4294967296 (cntK xa i164.toNat)) (val 4294967296 xb) n))), (12, .val (Lit (.int .i64 i164))), (1052, .val (Sz m152)), (1036, .val (Sz m136)), (1024, .val (Sz m124)), (17, .val (Lit (.int .i64 j113))), (1011, .val (Sz m111)), (1003, .val (Sz m103)), (987, .val (Sz m87)), (974, .val (Sz m74)), (14, .val (Lit (.int .i64 j51))), (947, .val (Sz m47)), (10, .box 43 7 (A7 gs183 (ansL (val 4294967296 (cntK xa i164.toNat)) (val 4294967296 xb) n))), (935, .val (Sz m35)), (8, .val (IsHd g33 (IsTN nb xb))), (931, .val (Sz m31)), (7, .val (IsHd g29 (IsTN na (cntK xa i164.toNat)))), (927, .val (Sz m27)), (0, .val (IsAb w0.heap.size na xa)), (1, .val (IsAb w0.heap.size nb xb)), (2, .val (Lit (.int .u8 n))), (114, .val (Sz lo))]) 20 [0, 1, 2, 3, 4, 5, 6, 7, 8, 9, 10, 11, 12, 13, 14, 15, 16, 17, 18, 19, 21, 22, 23, 24, 25, 26, 27, 28, 29] H206 rfl (fun _ _ => by go_simp) keep_nat rfl (rfl) (.tmp 0 rfl) (by omega) (fun _ _ => trivial) hk207 rfl (by kernel_rfl) (.cons (keptB_hd loc_TN) (.cons (keptB_lit) (.cons (keptB_lit) (.cons (keptB_sz) (.cons (keptB_lit) (.cons (keptB_sz) (.cons (keptB_sz) (.cons (keptB_box (by decide) keptB_7) (.cons (keptB_lit) (.cons (keptB_sz) (.cons (keptB_sz) (.cons (keptB_sz) (.cons (keptB_lit) (.cons (keptB_sz) (.cons (keptB_sz) (.cons (keptB_sz) (.cons (keptB_sz) (.cons (keptB_lit) (.cons (keptB_sz) (.cons (keptB_box (by decide) keptB_7) (.cons (keptB_sz) (.cons (keptB_hd loc_TN) (.cons (keptB_sz) (.cons (keptB_hd loc_TN) (.cons (keptB_sz) (.cons (keptB_ab (Nat.le_refl _)) (.cons (keptB_ab (Nat.le_refl _)) (.cons (keptB_lit) (.cons (keptB_sz) (.nil)))))))))))))))))))))))))))))) (by decide) rfl ?_
                    clear H206 hk207 a206 w206 B206
                    intro a207 w207 B207 H207
                    refine ops_done ?_
                    refine then_normal ?_
                    refine wp_seq ?_
                    refine flow_region (dsts := [some 111]) (refs := [[.pre 22]]) (outs := [.res 0, .pre 0, .pre 2, .pre 3, .pre 4, .pre 5, .pre 6, .pre 7, .pre 8, .pre 9, .pre 10, .pre 11, .pre 12, .pre 13, .pre 14, .pre 15, .pre 16, .pre 17, .pre 18, .pre 19, .pre 20, .pre 21, .pre 22, .pre 23, .pre 24, .pre 25, .pre 26, .pre 27, .pre 28, .pre 29]) (als := [false]) (posts := [.val (IsHd g33 (IsTN nb xb))])
                      (out := [(111, .val (IsHd g33 (IsTN nb xb))), (9, .box 42 15 (IsBook w0.heap.size (fun _ => True) m35 m199 ([g29]) 36)), (11, .val (Lit (.int .i64 4))), (39, .val (Lit (.int .i64 4))), (1099, .val (Sz m199)), (15, .val (Lit (.int .i64 j187))), (1085, .val (Sz m185)), (1078, .val (Sz m178)), (13, .box 43 7 (A7 gs176 (ansL (val 4294967296 (cntK xa i164.toNat)) (val 4294967296 xb) n))), (12, .val (Lit (.int .i64 i164))), (1052, .val (Sz m152)), (1036, .val (Sz m136)), (1024, .val (Sz m124)), (17, .val (Lit (.int .i64 j113))), (1011, .val (Sz m111)), (1003, .val (Sz m103)), (987, .val (Sz m87)), (974, .val (Sz m74)), (14, .val (Lit (.int .i64 j51))), (947, .val (Sz m47)), (10, .box 43 7 (A7 gs183 (ansL (val 4294967296 (cntK xa i164.toNat)) (val 4294967296 xb) n))), (935, .val (Sz m35)), (8, .val (IsHd g33 (IsTN nb xb))), (931, .val (Sz m31)), (7, .val (IsHd g29 (IsTN na (cntK xa i164.toNat)))), (927, .val (Sz m27)), (0, .val (IsAb w0.heap.size na xa)), (1, .val (IsAb w0.heap.size nb xb)), (2, .val (Lit (.int .u8 n))), (114, .val (Sz lo))]) (nb := []) H207 1 [1] rfl (by kernel_rfl) rfl rfl ?_ ?_
                    · refine .cons (.plain rfl (ok_move (.tmp 0 rfl))) ?_
                      exact .nil
                    clear H207 a207 w207 B207
                    intro a208 w208 B208 H208
                    refine ops_one ?_
                    have hk209 : ∀ b, g33 = some b → w0.heap.size ≤ b ∧ ¬ (m35 ≤ b ∧ b < m199) ∧ some b ∉ [g29] := fun b hb => ⟨by have := hg33 b hb; omega, fun hx => by have := hg33 b hb; omega, fun hx => by simp only [List.mem_cons, List.not_mem_nil, or_false] at hx; first | (have h1 := hg29 b hx.symm; have h2 := hg33 b hb; omega)⟩
                    refine keep_op (cnt := 36) (ks := [(111, .val (IsHd g33 (IsTN nb xb))), (11, .val (Lit (.int .i64 4))), (39, .val (Lit (.int .i64 4))), (1099, .val (Sz m199)), (15, .val (Lit (.int .i64 j187))), (1085, .val (Sz m185)), (1078, .val (Sz m178)), (13, .box 43 7 (A7 gs176 (ansL (val 4294967296 (cntK xa i164.toNat)) (val 4294967296 xb) n))), (12, .val (Lit (.int .i64 i164))), (1052, .val (Sz m152)), (1036, .val (Sz m136)), (1024, .val (Sz m124)), (17, .val (Lit (.int .i64 j113))), (1011, .val (Sz m111)), (1003, .val (Sz m103)), (987, .val (Sz m87)), (974, .val (Sz m74)), (14, .val (Lit (.int .i64 j51))), (947, .val (Sz m47)), (10, .box 43 7 (A7 gs183 (ansL (val 4294967296 (cntK xa i164.toNat)) (val 4294967296 xb) n))), (935, .val (Sz m35)), (8, .val (IsHd g33 (IsTN nb xb))), (931, .val (Sz m31)), (7, .val (IsHd g29 (IsTN na (cntK xa i164.toNat)))), (927, .val (Sz m27)), (0, .val (IsAb w0.heap.size na xa)), (1, .val (IsAb w0.heap.size nb xb)), (2, .val (Lit (.int .u8 n))), (114, .val (Sz lo))]) (l' := [(9, .box 42 15 (IsBook w0.heap.size (fun _ => True) m35 m199 ([g33, g29]) 37)), (111, .val (IsHd g33 (IsTN nb xb))), (11, .val (Lit (.int .i64 4))), (39, .val (Lit (.int .i64 4))), (1099, .val (Sz m199)), (15, .val (Lit (.int .i64 j187))), (1085, .val (Sz m185)), (1078, .val (Sz m178)), (13, .box 43 7 (A7 gs176 (ansL (val 4294967296 (cntK xa i164.toNat)) (val 4294967296 xb) n))), (12, .val (Lit (.int .i64 i164))), (1052, .val (Sz m152)), (1036, .val (Sz m136)), (1024, .val (Sz m124)), (17, .val (Lit (.int .i64 j113))), (1011, .val (Sz m111)), (1003, .val (Sz m103)), (987, .val (Sz m87)), (974, .val (Sz m74)), (14, .val (Lit (.int .i64 j51))), (947, .val (Sz m47)), (10, .box 43 7 (A7 gs183 (ansL (val 4294967296 (cntK xa i164.toNat)) (val 4294967296 xb) n))), (935, .val (Sz m35)), (8, .val (IsHd g33 (IsTN nb xb))), (931, .val (Sz m31)), (7, .val (IsHd g29 (IsTN na (cntK xa i164.toNat)))), (927, .val (Sz m27)), (0, .val (IsAb w0.heap.size na xa)), (1, .val (IsAb w0.heap.size nb xb)), (2, .val (Lit (.int .u8 n))), (114, .val (Sz lo))]) 1 [0, 2, 3, 4, 5, 6, 7, 8, 9, 10, 11, 12, 13, 14, 15, 16, 17, 18, 19, 20, 21, 22, 23, 24, 25, 26, 27, 28, 29] H208 rfl (fun _ _ => by go_simp) keep_nat rfl (rfl) (.tmp 0 rfl) (by omega) (fun _ _ => trivial) hk209 rfl (by kernel_rfl) (.cons (keptB_hd loc_TN) (.cons (keptB_lit) (.cons (keptB_lit) (.cons (keptB_sz) (.cons (keptB_lit) (.cons (keptB_sz) (.cons (keptB_sz) (.cons (keptB_box (by decide) keptB_7) (.cons (keptB_lit) (.cons (keptB_sz) (.cons (keptB_sz) (.cons (keptB_sz) (.cons (keptB_lit) (.cons (keptB_sz) (.cons (keptB_sz) (.cons (keptB_sz) (.cons (keptB_sz) (.cons (keptB_lit) (.cons (keptB_sz) (.cons (keptB_box (by decide) keptB_7) (.cons (keptB_sz) (.cons (keptB_hd loc_TN) (.cons (keptB_sz) (.cons (keptB_hd loc_TN) (.cons (keptB_sz) (.cons (keptB_ab (Nat.le_refl _)) (.cons (keptB_ab (Nat.le_refl _)) (.cons (keptB_lit) (.cons (keptB_sz) (.nil)))))))))))))))))))))))))))))) (by decide) rfl ?_
                    clear H208 hk209 a208 w208 B208
                    intro a209 w209 B209 H209
                    refine ops_done ?_
                    refine then_normal ?_
                    refine wp_seq ?_
                    refine flow_region (dsts := []) (refs := []) (outs := [.pre 0, .pre 2, .pre 3, .pre 4, .pre 5, .pre 6, .pre 7, .pre 8, .pre 9, .pre 10, .pre 11, .pre 12, .pre 13, .pre 14, .pre 15, .pre 16, .pre 17, .pre 18, .pre 19, .pre 20, .pre 21, .pre 22, .pre 23, .pre 24, .pre 25, .pre 26, .pre 27, .pre 28, .pre 29]) (als := []) (posts := [])
                      (out := [(9, .box 42 15 (IsBook w0.heap.size (fun _ => True) m35 m199 ([g33, g29]) 37)), (11, .val (Lit (.int .i64 4))), (39, .val (Lit (.int .i64 4))), (1099, .val (Sz m199)), (15, .val (Lit (.int .i64 j187))), (1085, .val (Sz m185)), (1078, .val (Sz m178)), (13, .box 43 7 (A7 gs176 (ansL (val 4294967296 (cntK xa i164.toNat)) (val 4294967296 xb) n))), (12, .val (Lit (.int .i64 i164))), (1052, .val (Sz m152)), (1036, .val (Sz m136)), (1024, .val (Sz m124)), (17, .val (Lit (.int .i64 j113))), (1011, .val (Sz m111)), (1003, .val (Sz m103)), (987, .val (Sz m87)), (974, .val (Sz m74)), (14, .val (Lit (.int .i64 j51))), (947, .val (Sz m47)), (10, .box 43 7 (A7 gs183 (ansL (val 4294967296 (cntK xa i164.toNat)) (val 4294967296 xb) n))), (935, .val (Sz m35)), (8, .val (IsHd g33 (IsTN nb xb))), (931, .val (Sz m31)), (7, .val (IsHd g29 (IsTN na (cntK xa i164.toNat)))), (927, .val (Sz m27)), (0, .val (IsAb w0.heap.size na xa)), (1, .val (IsAb w0.heap.size nb xb)), (2, .val (Lit (.int .u8 n))), (114, .val (Sz lo))]) (nb := []) H209 0 [0, 1] rfl (by kernel_rfl) rfl rfl ?_ ?_
                    · exact .nil
                    clear H209 a209 w209 B209
                    intro a210 w210 B210 H210
                    refine ops_one ?_
                    refine apart_op2 (ks := [(11, .val (Lit (.int .i64 4))), (39, .val (Lit (.int .i64 4))), (1099, .val (Sz m199)), (15, .val (Lit (.int .i64 j187))), (1085, .val (Sz m185)), (1078, .val (Sz m178)), (12, .val (Lit (.int .i64 i164))), (1052, .val (Sz m152)), (1036, .val (Sz m136)), (1024, .val (Sz m124)), (17, .val (Lit (.int .i64 j113))), (1011, .val (Sz m111)), (1003, .val (Sz m103)), (987, .val (Sz m87)), (974, .val (Sz m74)), (14, .val (Lit (.int .i64 j51))), (947, .val (Sz m47)), (935, .val (Sz m35)), (931, .val (Sz m31)), (927, .val (Sz m27)), (2, .val (Lit (.int .u8 n))), (114, .val (Sz lo))]) 0 [1, 2, 3, 4, 5, 6, 8, 9, 10, 11, 12, 13, 14, 15, 16, 17, 18, 20, 22, 24, 27, 28] H210 rfl rfl (wanted_none rfl) rfl (rfl) (by omega) rfl (by kernel_rfl) (.cons (keptZ_lit) (.cons (keptZ_lit) (.cons (keptZ_sz) (.cons (keptZ_lit) (.cons (keptZ_sz) (.cons (keptZ_sz) (.cons (keptZ_lit) (.cons (keptZ_sz) (.cons (keptZ_sz) (.cons (keptZ_sz) (.cons (keptZ_lit) (.cons (keptZ_sz) (.cons (keptZ_sz) (.cons (keptZ_sz) (.cons (keptZ_sz) (.cons (keptZ_lit) (.cons (keptZ_sz) (.cons (keptZ_sz) (.cons (keptZ_sz) (.cons (keptZ_sz) (.cons (keptZ_lit) (.cons (keptZ_sz) (.nil))))))))))))))))))))))) ?_
                    clear H210 a210 w210 B210
                    intro a211 w211 B211 H211
                    refine ops_one ?_
                    refine tail_op (D := .val (IsB true)) (l' := [(6, .val (IsB true)), (113, .val (IsB true)), (11, .val (Lit (.int .i64 4))), (39, .val (Lit (.int .i64 4))), (1099, .val (Sz m199)), (15, .val (Lit (.int .i64 j187))), (1085, .val (Sz m185)), (1078, .val (Sz m178)), (12, .val (Lit (.int .i64 i164))), (1052, .val (Sz m152)), (1036, .val (Sz m136)), (1024, .val (Sz m124)), (17, .val (Lit (.int .i64 j113))), (1011, .val (Sz m111)), (1003, .val (Sz m103)), (987, .val (Sz m87)), (974, .val (Sz m74)), (14, .val (Lit (.int .i64 j51))), (947, .val (Sz m47)), (935, .val (Sz m35)), (931, .val (Sz m31)), (927, .val (Sz m27)), (2, .val (Lit (.int .u8 n))), (114, .val (Sz lo))]) H211 rfl rfl rfl (.plain rfl (ok_assign (.tmp 0 rfl))) rfl rfl ?_
                    clear H211 a211 w211 B211
                    intro a212 w212 B212 H212
                    refine ops_done ?_
                    refine then_normal ?_
                    refine wp_ret ?_
                    exact f_ret H212 rfl 0 rfl (fun _ _ _ h => h)

theorem walk_NatOwn (w : World) (ada : Option Addr) (na ca : Nat) (xa : List Int) (hnca : na ≤ ca) (hna : na * 4 ≤ 140737488351232) (hra : Rds w .u32 ada na xa) (dxa : Dig 4294967296 xa) (adb : Option Addr) (nb cb : Nat) (xb : List Int) (hncb : nb ≤ cb) (hnb : nb * 4 ≤ 140737488351232) (hrb : Rds w .u32 adb nb xb) (dxb : Dig 4294967296 xb) (n : Int) (hn : 0 ≤ n ∧ n < 256) :
    Calls Tryz.prog 3 #[.slice ada na ca, .slice adb nb cb, .int .u8 n] w (LawTrue w) := by
  refine ((con_NatOwn na xa nb xb n hna hnb hn).calls 0 [.slice ada na ca, .slice adb nb cb, .int .u8 n] w (fun _ => False) (Nat.zero_le _) (fun _ h => h.elim) ⟨⟨ada, ca, rfl, hnca, hra, dxa⟩, ⟨adb, cb, rfl, hncb, hrb, dxb⟩, rfl, trivial⟩).mono ?_
  rintro e w' ⟨v, rfl, h, hb⟩
  obtain rfl := h
  exact ⟨rfl, hb⟩
end Go.Proofs.YtbcbmkeeoognpaaGreatDoor
