/- Contracts of functions, and plain facts, part 38. -/
import Derived.Test.YtbcbmkeeoognpaaGreatDoorPk33
import Derived.Test.YtbcbmkeeoognpaaGreatDoorPk34
import Derived.Test.YtbcbmkeeoognpaaGreatDoorPk35
import Derived.Test.YtbcbmkeeoognpaaGreatDoorPk37
set_option linter.unusedVariables false
set_option linter.unusedSimpArgs false
/- IIntF. (Printed by flowfn.py.) -/
namespace Go.Proofs.YtbcbmkeeoognpaaGreatDoor
open Go Go.RowKit

set_option maxRecDepth 50000 in
theorem ok_build0F {lo : Nat} {need : List (Tmp × FD)} {d : Option Tmp} {ty : TypeId} {pos : String} {af : Array Edge} {g : Option (Nat × Bool)} : OpOk Tryz.prog ⟨d, .build 52 #[], ty, pos, af, g⟩ need (.val (IsFrI lo (IsI 0))) false :=
  OpOk.value fun a w B hF => ⟨.agg #[.bool false, .slice none 0 0], by simp only [execOp]; go_simp, weakZFrI _ w B rfl⟩

theorem con_iparts16P (x : Int) (hx : 0 ≤ x ∧ x < 65536) : ConE Tryz.prog 106 [Lit (.int .u16 x)] (Tup [IsB (pNeg 16 x), Lit (.int .u64 (pM 16 x)), Lit (.int .i64 (pE 16 x)), IsB (pOk 16 x)]) := by
  refine ⟨fun _ _ => by go_simp, fun vs w B hB hE hV => ?_⟩
  match vs, hV with
  | [v], ⟨h1, _⟩ =>
    obtain rfl := h1
    refine (parts_16 w hE.sh hE.tab x hx).mono ?_
    rintro e w' ⟨rfl, hb⟩
    exact ⟨_, rfl, ⟨[.bool _, .int .u64 _, .int .i64 _, .bool _], rfl, rfl, rfl, rfl, rfl, trivial⟩, hb⟩
set_option maxRecDepth 20000 in
set_option maxHeartbeats 2000000 in
theorem con_iint16F (x : Int) (hx : 0 ≤ x ∧ x < 65536) : ConEF Tryz.prog 109 [Lit (.int .u16 x)] (fun lo => Tup [IsFrI lo (IsI (intN 16 x)), IsB (intOk 16 x)]) := by
  refine f_enterEF (N := 35) Tryz.ntmps109 (fun _ _ => by go_simp) Tryz.func109 rfl (by simp) ?_
  intro lo a0 w0 B0 H0
  replace H0 : St 35 w0 B0 a0 w0 B0 [(0, .val (Lit (.int .u16 x))), (35, .val (Sz lo)), (36, .val (EnvV))] [] := H0
  have hM := pM_bd (W := 16) (by unfold Wide; omega) x
  have hE := pE_bd (W := 16) (by unfold Wide; omega) x
  have K1 : intOk 16 x = (pOk 16 x && decide (0 ≤ pE 16 x)) := rfl
  have K2 : intV 16 x = if intOk 16 x then pM 16 x * 2 ^ (pE 16 x).toNat else 0 := rfl
  have K3 : intN 16 x = sI (pNeg 16 x) (intV 16 x) := rfl
  refine wp_seq ?_
  refine flow_region (dsts := [some 2, some 3]) (refs := [[], []]) (outs := [.res 0, .res 1, .pre 0, .pre 1, .pre 2]) (als := [true, false]) (posts := [.box 52 2 (Zero2), .val (IsB false)])
    (out := [(2, .box 52 2 (Zero2)), (3, .val (IsB false)), (0, .val (Lit (.int .u16 x))), (35, .val (Sz lo)), (36, .val (EnvV))]) (nb := [2]) H0 2 [] rfl (by kernel_rfl) rfl rfl ?_ ?_
  · refine .cons (.plain rfl (ok_alloc (D := Zero2) zeroI rfl (fun _ _ => rfl))) ?_
    refine .cons (.plain rfl (ok_assign (.lit))) ?_
    exact .nil
  clear H0
  intro a1 w1 B1 H1
  simp only [List.cons_append, List.nil_append] at H1
  refine ops_done ?_
  refine then_normal ?_
  refine wp_seq ?_
  refine flow_region (dsts := [some 11, some 12, some 10, some 13, some 14, some 15, some 16, some 4, some 5, some 6, some 7]) (refs := [[.pre 2], [.res 0, .pre 4], [.res 1], [.res 2], [.res 2], [.res 2], [.res 2], [.res 3], [.res 4], [.res 5], [.res 6]]) (outs := [.res 7, .res 8, .res 9, .res 10, .pre 0, .pre 1, .pre 3, .pre 4]) (als := [false, false, false, false, false, false, false, false, false, false, false]) (posts := [.val (Lit (.int .u16 x)), .val (Tup [IsB (pNeg 16 x), Lit (.int .u64 (pM 16 x)), Lit (.int .i64 (pE 16 x)), IsB (pOk 16 x)]), .val (Tup [IsB (pNeg 16 x), Lit (.int .u64 (pM 16 x)), Lit (.int .i64 (pE 16 x)), IsB (pOk 16 x)]), .val (IsB (pNeg 16 x)), .val (Lit (.int .u64 (pM 16 x))), .val (Lit (.int .i64 (pE 16 x))), .val (IsB (pOk 16 x)), .val (IsB (pNeg 16 x)), .val (Lit (.int .u64 (pM 16 x))), .val (Lit (.int .i64 (pE 16 x))), .val (IsB (pOk 16 x))])
    (out := [(4, .val (IsB (pNeg 16 x))), (5, .val (Lit (.int .u64 (pM 16 x)))), (6, .val (Lit (.int .i64 (pE 16 x)))), (7, .val (IsB (pOk 16 x))), (2, .box 52 2 (Zero2)), (3, .val (IsB false)), (35, .val (Sz lo)), (36, .val (EnvV))]) (nb := []) H1 11 [] rfl (by kernel_rfl) rfl rfl ?_ ?_
  · refine .cons (.plain rfl (ok_move (.tmp 0 rfl))) ?_
    refine .cons (.plain rfl (ok_callE (con_iparts16P x hx) 1 rfl (.cons (.tmp 0 rfl) (.nil)))) ?_
    refine .cons (.plain rfl (ok_move (.tmp 0 rfl))) ?_
    refine .cons (.plain rfl (ok_extract 0 (.tmp 0 rfl) rfl)) ?_
    refine .cons (.plain rfl (ok_extract 1 (.tmp 0 rfl) rfl)) ?_
    refine .cons (.plain rfl (ok_extract 2 (.tmp 0 rfl) rfl)) ?_
    refine .cons (.plain rfl (ok_extract 3 (.tmp 0 rfl) rfl)) ?_
    refine .cons (.plain rfl (ok_assign (.tmp 0 rfl))) ?_
    refine .cons (.plain rfl (ok_assign (.tmp 0 rfl))) ?_
    refine .cons (.plain rfl (ok_assign (.tmp 0 rfl))) ?_
    refine .cons (.plain rfl (ok_assign (.tmp 0 rfl))) ?_
    exact .nil
  clear H1 a1 w1 B1
  intro a2 w2 B2 H2
  refine ops_done ?_
  refine then_normal ?_
  refine wp_seq ?_
  refine wp_seq ?_
  rcases (show pOk 16 x = false ∨ (pOk 16 x = true ∧ pE 16 x < 0) ∨ (pOk 16 x = true ∧ ¬ pE 16 x < 0) by cases pOk 16 x <;> simp <;> omega) with c0 | ⟨c0, c1⟩ | ⟨c0, c1⟩
  · have eb3 : (pOk 16 x) = false := c0
    rw [eb3] at H2
    have e2 : false = intOk 16 x := by rw [K1, c0]; rfl
    have e1 : (0 : Int) = intN 16 x := by rw [K3, K2, ← e2]; cases pNeg 16 x <;> rfl
    refine flow_region (dsts := [some 17, some 18, some 19, some 20, some 21, some 22]) (refs := [[.pre 3], [.res 0], [.res 1], [.res 2], [.res 2], [.res 2]]) (outs := [.res 5, .pre 0, .pre 1, .pre 2, .pre 4, .pre 5, .pre 6, .pre 7]) (als := [false, false, false, false, false, false]) (posts := [.val (IsB false), .val (IsB true), .val (IsB true), .val (IsUndef), .val (IsUndef), .val (IsB true)])
      (out := [(22, .val (IsB true)), (4, .val (IsB (pNeg 16 x))), (5, .val (Lit (.int .u64 (pM 16 x)))), (6, .val (Lit (.int .i64 (pE 16 x)))), (2, .box 52 2 (Zero2)), (3, .val (IsB false)), (35, .val (Sz lo)), (36, .val (EnvV))]) (nb := []) H2 6 [] rfl (by kernel_rfl) rfl rfl ?_ ?_
    · refine .cons (.plain rfl (ok_move (.tmp 0 rfl))) ?_
      refine .cons (.plain rfl (ok_not (b := false) (.tmp 0 rfl))) ?_
      refine .cons (.plain rfl (ok_move (.tmp 0 rfl))) ?_
      refine .cons (.unwanted 2 false rfl rfl rfl 0 rfl) ?_
      refine .cons (.unwanted 2 false rfl rfl rfl 0 rfl) ?_
      refine .cons (.plain rfl (ok_pickT (.tmp 0 rfl) (.lit))) ?_
      exact .nil
    clear H2 a2 w2 B2
    intro a4 w4 B4 H4
    refine ops_done ?_
    refine then_normal ?_
    refine f_condT H4 (.tmp 0 rfl) ?_
    refine wp_seq ?_
    refine flow_region (dsts := [some 23]) (refs := [[]]) (outs := [.res 0, .pre 1, .pre 2, .pre 3, .pre 4, .pre 5, .pre 6, .pre 7]) (als := [false]) (posts := [.val (IsFrI lo (IsI 0))])
      (out := [(23, .val (IsFrI lo (IsI 0))), (4, .val (IsB (pNeg 16 x))), (5, .val (Lit (.int .u64 (pM 16 x)))), (6, .val (Lit (.int .i64 (pE 16 x)))), (2, .box 52 2 (Zero2)), (3, .val (IsB false)), (35, .val (Sz lo)), (36, .val (EnvV))]) (nb := []) H4 1 [1, 2] rfl (by kernel_rfl) rfl rfl ?_ ?_
    · refine .cons (.plain rfl (ok_build0F)) ?_
      exact .nil
    clear H4 a4 w4 B4
    intro a5 w5 B5 H5
    refine ops_one ?_
    refine store_op (l' := [(23, .val (IsFrI lo (IsI 0))), (4, .val (IsB (pNeg 16 x))), (5, .val (Lit (.int .u64 (pM 16 x)))), (6, .val (Lit (.int .i64 (pE 16 x)))), (2, .box 52 2 (IsFrI lo (IsI 0))), (3, .val (IsB false)), (35, .val (Sz lo)), (36, .val (EnvV))]) 4 H5 rfl tyI rfl (.tmp 0 rfl) shape_Z shape_FrI rfl rfl ?_
    clear H5 w5
    intro w6 H6
    refine ops_one ?_
    refine tail_op (D := .val (IsB false)) (l' := [(3, .val (IsB false)), (23, .val (IsFrI lo (IsI 0))), (4, .val (IsB (pNeg 16 x))), (5, .val (Lit (.int .u64 (pM 16 x)))), (6, .val (Lit (.int .i64 (pE 16 x)))), (2, .box 52 2 (IsFrI lo (IsI 0))), (35, .val (Sz lo)), (36, .val (EnvV))]) H6 rfl rfl rfl (.plain rfl (ok_assign (.lit))) rfl rfl ?_
    clear H6 a5 w6 B5
    intro a7 w7 B7 H7
    refine ops_done ?_
    refine then_normal ?_
    refine wp_ret ?_
    refine then_ret ?_
    exact f_retN H7 rfl rfl (.cell 5 tyI rfl (fun v w B h => by exact isFrI_eq e1 h) (.tmp 0 rfl (fun v w B h => by exact isB_eq e2 h) (.nil)))
  · have eb8 : (pOk 16 x) = true := c0
    rw [eb8] at H2
    have e2 : false = intOk 16 x := by rw [K1, decide_eq_false (by omega), Bool.and_false]
    have e1 : (0 : Int) = intN 16 x := by rw [K3, K2, ← e2]; cases pNeg 16 x <;> rfl
    refine flow_region (dsts := [some 17, some 18, some 19, some 20, some 21, some 22]) (refs := [[.pre 3], [.res 0], [.res 1], [.res 2, .pre 2], [.res 2, .res 3], [.res 2, .res 4]]) (outs := [.res 5, .pre 0, .pre 1, .pre 2, .pre 4, .pre 5, .pre 6, .pre 7]) (als := [false, false, false, false, false, false]) (posts := [.val (IsB true), .val (IsB false), .val (IsB false), .val (Lit (.int .i64 (pE 16 x))), .val (IsB true), .val (IsB true)])
      (out := [(22, .val (IsB true)), (4, .val (IsB (pNeg 16 x))), (5, .val (Lit (.int .u64 (pM 16 x)))), (6, .val (Lit (.int .i64 (pE 16 x)))), (2, .box 52 2 (Zero2)), (3, .val (IsB false)), (35, .val (Sz lo)), (36, .val (EnvV))]) (nb := []) H2 6 [] rfl (by kernel_rfl) rfl rfl ?_ ?_
    · refine .cons (.plain rfl (ok_move (.tmp 0 rfl))) ?_
      refine .cons (.plain rfl (ok_not (b := true) (.tmp 0 rfl))) ?_
      refine .cons (.plain rfl (ok_move (.tmp 0 rfl))) ?_
      refine .cons (.wanted 2 false rfl rfl rfl 0 rfl (ok_move (.tmp 1 rfl))) ?_
      refine .cons (.wanted 2 false rfl rfl rfl 0 rfl (ok_cmp (b := true) (.tmp 1 rfl) (.lit) ((decide_eq_true (c1)).symm))) ?_
      refine .cons (.plain rfl (ok_pickF (.tmp 0 rfl) (.tmp 1 rfl))) ?_
      exact .nil
    clear H2 a2 w2 B2
    intro a9 w9 B9 H9
    refine ops_done ?_
    refine then_normal ?_
    refine f_condT H9 (.tmp 0 rfl) ?_
    refine wp_seq ?_
    refine flow_region (dsts := [some 23]) (refs := [[]]) (outs := [.res 0, .pre 1, .pre 2, .pre 3, .pre 4, .pre 5, .pre 6, .pre 7]) (als := [false]) (posts := [.val (IsFrI lo (IsI 0))])
      (out := [(23, .val (IsFrI lo (IsI 0))), (4, .val (IsB (pNeg 16 x))), (5, .val (Lit (.int .u64 (pM 16 x)))), (6, .val (Lit (.int .i64 (pE 16 x)))), (2, .box 52 2 (Zero2)), (3, .val (IsB false)), (35, .val (Sz lo)), (36, .val (EnvV))]) (nb := []) H9 1 [1, 2] rfl (by kernel_rfl) rfl rfl ?_ ?_
    · refine .cons (.plain rfl (ok_build0F)) ?_
      exact .nil
    clear H9 a9 w9 B9
    intro a10 w10 B10 H10
    refine ops_one ?_
    refine store_op (l' := [(23, .val (IsFrI lo (IsI 0))), (4, .val (IsB (pNeg 16 x))), (5, .val (Lit (.int .u64 (pM 16 x)))), (6, .val (Lit (.int .i64 (pE 16 x)))), (2, .box 52 2 (IsFrI lo (IsI 0))), (3, .val (IsB false)), (35, .val (Sz lo)), (36, .val (EnvV))]) 4 H10 rfl tyI rfl (.tmp 0 rfl) shape_Z shape_FrI rfl rfl ?_
    clear H10 w10
    intro w11 H11
    refine ops_one ?_
    refine tail_op (D := .val (IsB false)) (l' := [(3, .val (IsB false)), (23, .val (IsFrI lo (IsI 0))), (4, .val (IsB (pNeg 16 x))), (5, .val (Lit (.int .u64 (pM 16 x)))), (6, .val (Lit (.int .i64 (pE 16 x)))), (2, .box 52 2 (IsFrI lo (IsI 0))), (35, .val (Sz lo)), (36, .val (EnvV))]) H11 rfl rfl rfl (.plain rfl (ok_assign (.lit))) rfl rfl ?_
    clear H11 a10 w11 B10
    intro a12 w12 B12 H12
    refine ops_done ?_
    refine then_normal ?_
    refine wp_ret ?_
    refine then_ret ?_
    exact f_retN H12 rfl rfl (.cell 5 tyI rfl (fun v w B h => by exact isFrI_eq e1 h) (.tmp 0 rfl (fun v w B h => by exact isB_eq e2 h) (.nil)))
  · have eb13 : (pOk 16 x) = true := c0
    rw [eb13] at H2
    have e2 : true = intOk 16 x := by rw [K1, c0, decide_eq_true (by omega)]; rfl
    rw [← e2] at K2
    obtain ⟨s1, s2, s3, s4⟩ := shl_fits (pM 16 x) 2 (pE 16 x) hM.1 (Int.lt_of_lt_of_le hM.2 (by decide)) (by omega) (by omega)
    rw [show (if true = true then pM 16 x * 2 ^ (pE 16 x).toNat else 0) = shlNum (pM 16 x) (pE 16 x) from s2.symm] at K2
    have e1 : sI (pNeg 16 x) (shlNum (pM 16 x) (pE 16 x)) = intN 16 x := by rw [K3, K2]
    have hfs : FitK 4099 (shlNum (pM 16 x) (pE 16 x)) := by unfold FitK; rw [s2]; omega
    have hns : 0 ≤ shlNum (pM 16 x) (pE 16 x) := by rw [s2]; exact s3
    refine flow_region (dsts := [some 17, some 18, some 19, some 20, some 21, some 22]) (refs := [[.pre 3], [.res 0], [.res 1], [.res 2, .pre 2], [.res 2, .res 3], [.res 2, .res 4]]) (outs := [.res 5, .pre 0, .pre 1, .pre 2, .pre 4, .pre 5, .pre 6, .pre 7]) (als := [false, false, false, false, false, false]) (posts := [.val (IsB true), .val (IsB false), .val (IsB false), .val (Lit (.int .i64 (pE 16 x))), .val (IsB false), .val (IsB false)])
      (out := [(22, .val (IsB false)), (4, .val (IsB (pNeg 16 x))), (5, .val (Lit (.int .u64 (pM 16 x)))), (6, .val (Lit (.int .i64 (pE 16 x)))), (2, .box 52 2 (Zero2)), (3, .val (IsB false)), (35, .val (Sz lo)), (36, .val (EnvV))]) (nb := []) H2 6 [] rfl (by kernel_rfl) rfl rfl ?_ ?_
    · refine .cons (.plain rfl (ok_move (.tmp 0 rfl))) ?_
      refine .cons (.plain rfl (ok_not (b := true) (.tmp 0 rfl))) ?_
      refine .cons (.plain rfl (ok_move (.tmp 0 rfl))) ?_
      refine .cons (.wanted 2 false rfl rfl rfl 0 rfl (ok_move (.tmp 1 rfl))) ?_
      refine .cons (.wanted 2 false rfl rfl rfl 0 rfl (ok_cmp (b := false) (.tmp 1 rfl) (.lit) ((decide_eq_false (c1)).symm))) ?_
      refine .cons (.plain rfl (ok_pickF (.tmp 0 rfl) (.tmp 1 rfl))) ?_
      exact .nil
    clear H2 a2 w2 B2
    intro a14 w14 B14 H14
    refine ops_done ?_
    refine then_normal ?_
    refine f_condF H14 (.tmp 0 rfl) ?_
    refine wp_skip ?_
    refine then_normal ?_
    refine wp_seq ?_
    refine flow_region (dsts := [some 25, some 26, some 27, some 28, some 24, some 29, some 30, some 8, some 9]) (refs := [[.pre 2], [.res 0], [.pre 3], [.res 1, .res 2], [.res 3], [.res 4], [.res 4], [.res 5], [.res 6]]) (outs := [.res 7, .pre 1, .pre 4, .pre 5, .pre 6, .pre 7]) (als := [false, false, false, false, false, false, false, false, false]) (posts := [.val (Lit (.int .u64 (pM 16 x))), .val (IsCo (pM 16 x)), .val (Lit (.int .i64 (pE 16 x))), .val (Tup [IsCo (shlNum (pM 16 x) (pE 16 x)), IsB (shlOk (pM 16 x) (pE 16 x))]), .val (Tup [IsCo (shlNum (pM 16 x) (pE 16 x)), IsB (shlOk (pM 16 x) (pE 16 x))]), .val (IsCo (shlNum (pM 16 x) (pE 16 x))), .val (IsB (shlOk (pM 16 x) (pE 16 x))), .val (IsCo (shlNum (pM 16 x) (pE 16 x))), .val (IsB (shlOk (pM 16 x) (pE 16 x)))])
      (out := [(8, .val (IsCo (shlNum (pM 16 x) (pE 16 x)))), (4, .val (IsB (pNeg 16 x))), (2, .box 52 2 (Zero2)), (3, .val (IsB false)), (35, .val (Sz lo)), (36, .val (EnvV))]) (nb := []) H14 9 [] rfl (by kernel_rfl) rfl rfl ?_ ?_
    · refine .cons (.plain rfl (ok_move (.tmp 0 rfl))) ?_
      refine .cons (.plain rfl (ok_call (con_natfromO (pM 16 x) (by omega)) (.cons (.tmp 0 rfl) (.nil)))) ?_
      refine .cons (.plain rfl (ok_move (.tmp 0 rfl))) ?_
      refine .cons (.plain rfl (ok_call (con_natshlO (pM 16 x) (pE 16 x) (by omega) (hfs.fits (by omega)) hns) (.cons (.weak (.tmp 0 rfl) weakCoM) (.cons (.tmp 1 rfl) (.nil))))) ?_
      refine .cons (.plain rfl (ok_move (.tmp 0 rfl))) ?_
      refine .cons (.plain rfl (ok_extract 0 (.tmp 0 rfl) rfl)) ?_
      refine .cons (.plain rfl (ok_extract 1 (.tmp 0 rfl) rfl)) ?_
      refine .cons (.plain rfl (ok_assign (.tmp 0 rfl))) ?_
      refine .cons (.plain rfl (ok_assign (.tmp 0 rfl))) ?_
      exact .nil
    clear H14 a14 w14 B14
    intro a15 w15 B15 H15
    refine ops_done ?_
    refine then_normal ?_
    refine wp_seq ?_
    refine flow_region (dsts := [some 31, some 32, some 33, some 34]) (refs := [[.pre 1], [.pre 0], [.res 0, .res 1], [.res 2, .pre 4]]) (outs := [.res 3, .pre 2, .pre 3, .pre 4, .pre 5]) (als := [false, false, false, false]) (posts := [.val (IsB (pNeg 16 x)), .val (IsCo (shlNum (pM 16 x) (pE 16 x))), .val (IsN (sI (pNeg 16 x) (shlNum (pM 16 x) (pE 16 x)))), .val (IsFrI lo (IsI (sI (pNeg 16 x) (shlNum (pM 16 x) (pE 16 x)))))])
      (out := [(34, .val (IsFrI lo (IsI (sI (pNeg 16 x) (shlNum (pM 16 x) (pE 16 x)))))), (2, .box 52 2 (Zero2)), (3, .val (IsB false)), (35, .val (Sz lo)), (36, .val (EnvV))]) (nb := []) H15 4 [4, 5] rfl (by kernel_rfl) rfl rfl ?_ ?_
    · refine .cons (.plain rfl (ok_move (.tmp 0 rfl))) ?_
      refine .cons (.plain rfl (ok_move (.tmp 0 rfl))) ?_
      refine .cons (.plain rfl (ok_buildBN (.tmp 0 rfl) (.weak (.tmp 1 rfl) weakCoM))) ?_
      refine .cons (.plain rfl (ok_callF 1 ((con_normO (sI (pNeg 16 x) (shlNum (pM 16 x) (pE 16 x)))).freshI (FreeL.all ⟨free_N, trivial⟩)) rfl (.cons (.tmp 0 rfl) (.nil)))) ?_
      exact .nil
    clear H15 a15 w15 B15
    intro a16 w16 B16 H16
    refine ops_one ?_
    refine store_op (l' := [(34, .val (IsFrI lo (IsI (sI (pNeg 16 x) (shlNum (pM 16 x) (pE 16 x)))))), (2, .box 52 2 (IsFrI lo (IsI (sI (pNeg 16 x) (shlNum (pM 16 x) (pE 16 x)))))), (3, .val (IsB false)), (35, .val (Sz lo)), (36, .val (EnvV))]) 1 H16 rfl tyI rfl (.tmp 0 rfl) shape_Z shape_FrI rfl rfl ?_
    clear H16 w16
    intro w17 H17
    refine ops_one ?_
    refine tail_op (D := .val (IsB true)) (l' := [(3, .val (IsB true)), (34, .val (IsFrI lo (IsI (sI (pNeg 16 x) (shlNum (pM 16 x) (pE 16 x)))))), (2, .box 52 2 (IsFrI lo (IsI (sI (pNeg 16 x) (shlNum (pM 16 x) (pE 16 x)))))), (35, .val (Sz lo)), (36, .val (EnvV))]) H17 rfl rfl rfl (.plain rfl (ok_assign (.lit))) rfl rfl ?_
    clear H17 a16 w17 B16
    intro a18 w18 B18 H18
    refine ops_done ?_
    refine then_normal ?_
    refine wp_ret ?_
    exact f_retN H18 rfl rfl (.cell 2 tyI rfl (fun v w B h => by exact isFrI_eq e1 h) (.tmp 0 rfl (fun v w B h => by exact isB_eq e2 h) (.nil)))

theorem con_iparts32P (x : Int) (hx : 0 ≤ x ∧ x < 4294967296) : ConE Tryz.prog 198 [Lit (.int .u32 x)] (Tup [IsB (pNeg 32 x), Lit (.int .u64 (pM 32 x)), Lit (.int .i64 (pE 32 x)), IsB (pOk 32 x)]) := by
  refine ⟨fun _ _ => by go_simp, fun vs w B hB hE hV => ?_⟩
  match vs, hV with
  | [v], ⟨h1, _⟩ =>
    obtain rfl := h1
    refine (parts_32 w hE.sh hE.tab x hx).mono ?_
    rintro e w' ⟨rfl, hb⟩
    exact ⟨_, rfl, ⟨[.bool _, .int .u64 _, .int .i64 _, .bool _], rfl, rfl, rfl, rfl, rfl, trivial⟩, hb⟩
set_option maxRecDepth 20000 in
set_option maxHeartbeats 2000000 in
theorem con_iint32F (x : Int) (hx : 0 ≤ x ∧ x < 4294967296) : ConEF Tryz.prog 112 [Lit (.int .u32 x)] (fun lo => Tup [IsFrI lo (IsI (intN 32 x)), IsB (intOk 32 x)]) := by
  refine f_enterEF (N := 35) Tryz.ntmps112 (fun _ _ => by go_simp) Tryz.func112 rfl (by simp) ?_
  intro lo a0 w0 B0 H0
  replace H0 : St 35 w0 B0 a0 w0 B0 [(0, .val (Lit (.int .u32 x))), (35, .val (Sz lo)), (36, .val (EnvV))] [] := H0
  have hM := pM_bd (W := 32) (by unfold Wide; omega) x
  have hE := pE_bd (W := 32) (by unfold Wide; omega) x
  have K1 : intOk 32 x = (pOk 32 x && decide (0 ≤ pE 32 x)) := rfl
  have K2 : intV 32 x = if intOk 32 x then pM 32 x * 2 ^ (pE 32 x).toNat else 0 := rfl
  have K3 : intN 32 x = sI (pNeg 32 x) (intV 32 x) := rfl
  refine wp_seq ?_
  refine flow_region (dsts := [some 2, some 3]) (refs := [[], []]) (outs := [.res 0, .res 1, .pre 0, .pre 1, .pre 2]) (als := [true, false]) (posts := [.box 52 2 (Zero2), .val (IsB false)])
    (out := [(2, .box 52 2 (Zero2)), (3, .val (IsB false)), (0, .val (Lit (.int .u32 x))), (35, .val (Sz lo)), (36, .val (EnvV))]) (nb := [2]) H0 2 [] rfl (by kernel_rfl) rfl rfl ?_ ?_
  · refine .cons (.plain rfl (ok_alloc (D := Zero2) zeroI rfl (fun _ _ => rfl))) ?_
    refine .cons (.plain rfl (ok_assign (.lit))) ?_
    exact .nil
  clear H0
  intro a1 w1 B1 H1
  simp only [List.cons_append, List.nil_append] at H1
  refine ops_done ?_
  refine then_normal ?_
  refine wp_seq ?_
  refine flow_region (dsts := [some 11, some 12, some 10, some 13, some 14, some 15, some 16, some 4, some 5, some 6, some 7]) (refs := [[.pre 2], [.res 0, .pre 4], [.res 1], [.res 2], [.res 2], [.res 2], [.res 2], [.res 3], [.res 4], [.res 5], [.res 6]]) (outs := [.res 7, .res 8, .res 9, .res 10, .pre 0, .pre 1, .pre 3, .pre 4]) (als := [false, false, false, false, false, false, false, false, false, false, false]) (posts := [.val (Lit (.int .u32 x)), .val (Tup [IsB (pNeg 32 x), Lit (.int .u64 (pM 32 x)), Lit (.int .i64 (pE 32 x)), IsB (pOk 32 x)]), .val (Tup [IsB (pNeg 32 x), Lit (.int .u64 (pM 32 x)), Lit (.int .i64 (pE 32 x)), IsB (pOk 32 x)]), .val (IsB (pNeg 32 x)), .val (Lit (.int .u64 (pM 32 x))), .val (Lit (.int .i64 (pE 32 x))), .val (IsB (pOk 32 x)), .val (IsB (pNeg 32 x)), .val (Lit (.int .u64 (pM 32 x))), .val (Lit (.int .i64 (pE 32 x))), .val (IsB (pOk 32 x))])
    (out := [(4, .val (IsB (pNeg 32 x))), (5, .val (Lit (.int .u64 (pM 32 x)))), (6, .val (Lit (.int .i64 (pE 32 x)))), (7, .val (IsB (pOk 32 x))), (2, .box 52 2 (Zero2)), (3, .val (IsB false)), (35, .val (Sz lo)), (36, .val (EnvV))]) (nb := []) H1 11 [] rfl (by kernel_rfl) rfl rfl ?_ ?_
  · refine .cons (.plain rfl (ok_move (.tmp 0 rfl))) ?_
    refine .cons (.plain rfl (ok_callE (con_iparts32P x hx) 1 rfl (.cons (.tmp 0 rfl) (.nil)))) ?_
    refine .cons (.plain rfl (ok_move (.tmp 0 rfl))) ?_
    refine .cons (.plain rfl (ok_extract 0 (.tmp 0 rfl) rfl)) ?_
    refine .cons (.plain rfl (ok_extract 1 (.tmp 0 rfl) rfl)) ?_
    refine .cons (.plain rfl (ok_extract 2 (.tmp 0 rfl) rfl)) ?_
    refine .cons (.plain rfl (ok_extract 3 (.tmp 0 rfl) rfl)) ?_
    refine .cons (.plain rfl (ok_assign (.tmp 0 rfl))) ?_
    refine .cons (.plain rfl (ok_assign (.tmp 0 rfl))) ?_
    refine .cons (.plain rfl (ok_assign (.tmp 0 rfl))) ?_
    refine .cons (.plain rfl (ok_assign (.tmp 0 rfl))) ?_
    exact .nil
  clear H1 a1 w1 B1
  intro a2 w2 B2 H2
  refine ops_done ?_
  refine then_normal ?_
  refine wp_seq ?_
  refine wp_seq ?_
  rcases (show pOk 32 x = false ∨ (pOk 32 x = true ∧ pE 32 x < 0) ∨ (pOk 32 x = true ∧ ¬ pE 32 x < 0) by cases pOk 32 x <;> simp <;> omega) with c0 | ⟨c0, c1⟩ | ⟨c0, c1⟩
  · have eb3 : (pOk 32 x) = false := c0
    rw [eb3] at H2
    have e2 : false = intOk 32 x := by rw [K1, c0]; rfl
    have e1 : (0 : Int) = intN 32 x := by rw [K3, K2, ← e2]; cases pNeg 32 x <;> rfl
    refine flow_region (dsts := [some 17, some 18, some 19, some 20, some 21, some 22]) (refs := [[.pre 3], [.res 0], [.res 1], [.res 2], [.res 2], [.res 2]]) (outs := [.res 5, .pre 0, .pre 1, .pre 2, .pre 4, .pre 5, .pre 6, .pre 7]) (als := [false, false, false, false, false, false]) (posts := [.val (IsB false), .val (IsB true), .val (IsB true), .val (IsUndef), .val (IsUndef), .val (IsB true)])
      (out := [(22, .val (IsB true)), (4, .val (IsB (pNeg 32 x))), (5, .val (Lit (.int .u64 (pM 32 x)))), (6, .val (Lit (.int .i64 (pE 32 x)))), (2, .box 52 2 (Zero2)), (3, .val (IsB false)), (35, .val (Sz lo)), (36, .val (EnvV))]) (nb := []) H2 6 [] rfl (by kernel_rfl) rfl rfl ?_ ?_
    · refine .cons (.plain rfl (ok_move (.tmp 0 rfl))) ?_
      refine .cons (.plain rfl (ok_not (b := false) (.tmp 0 rfl))) ?_
      refine .cons (.plain rfl (ok_move (.tmp 0 rfl))) ?_
      refine .cons (.unwanted 2 false rfl rfl rfl 0 rfl) ?_
      refine .cons (.unwanted 2 false rfl rfl rfl 0 rfl) ?_
      refine .cons (.plain rfl (ok_pickT (.tmp 0 rfl) (.lit))) ?_
      exact .nil
    clear H2 a2 w2 B2
    intro a4 w4 B4 H4
    refine ops_done ?_
    refine then_normal ?_
    refine f_condT H4 (.tmp 0 rfl) ?_
    refine wp_seq ?_
    refine flow_region (dsts := [some 23]) (refs := [[]]) (outs := [.res 0, .pre 1, .pre 2, .pre 3, .pre 4, .pre 5, .pre 6, .pre 7]) (als := [false]) (posts := [.val (IsFrI lo (IsI 0))])
      (out := [(23, .val (IsFrI lo (IsI 0))), (4, .val (IsB (pNeg 32 x))), (5, .val (Lit (.int .u64 (pM 32 x)))), (6, .val (Lit (.int .i64 (pE 32 x)))), (2, .box 52 2 (Zero2)), (3, .val (IsB false)), (35, .val (Sz lo)), (36, .val (EnvV))]) (nb := []) H4 1 [1, 2] rfl (by kernel_rfl) rfl rfl ?_ ?_
    · refine .cons (.plain rfl (ok_build0F)) ?_
      exact .nil
    clear H4 a4 w4 B4
    intro a5 w5 B5 H5
    refine ops_one ?_
    refine store_op (l' := [(23, .val (IsFrI lo (IsI 0))), (4, .val (IsB (pNeg 32 x))), (5, .val (Lit (.int .u64 (pM 32 x)))), (6, .val (Lit (.int .i64 (pE 32 x)))), (2, .box 52 2 (IsFrI lo (IsI 0))), (3, .val (IsB false)), (35, .val (Sz lo)), (36, .val (EnvV))]) 4 H5 rfl tyI rfl (.tmp 0 rfl) shape_Z shape_FrI rfl rfl ?_
    clear H5 w5
    intro w6 H6
    refine ops_one ?_
    refine tail_op (D := .val (IsB false)) (l' := [(3, .val (IsB false)), (23, .val (IsFrI lo (IsI 0))), (4, .val (IsB (pNeg 32 x))), (5, .val (Lit (.int .u64 (pM 32 x)))), (6, .val (Lit (.int .i64 (pE 32 x)))), (2, .box 52 2 (IsFrI lo (IsI 0))), (35, .val (Sz lo)), (36, .val (EnvV))]) H6 rfl rfl rfl (.plain rfl (ok_assign (.lit))) rfl rfl ?_
    clear H6 a5 w6 B5
    intro a7 w7 B7 H7
    refine ops_done ?_
    refine then_normal ?_
    refine wp_ret ?_
    refine then_ret ?_
    exact f_retN H7 rfl rfl (.cell 5 tyI rfl (fun v w B h => by exact isFrI_eq e1 h) (.tmp 0 rfl (fun v w B h => by exact isB_eq e2 h) (.nil)))
  · have eb8 : (pOk 32 x) = true := c0
    rw [eb8] at H2
    have e2 : false = intOk 32 x := by rw [K1, decide_eq_false (by omega), Bool.and_false]
    have e1 : (0 : Int) = intN 32 x := by rw [K3, K2, ← e2]; cases pNeg 32 x <;> rfl
    refine flow_region (dsts := [some 17, some 18, some 19, some 20, some 21, some 22]) (refs := [[.pre 3], [.res 0], [.res 1], [.res 2, .pre 2], [.res 2, .res 3], [.res 2, .res 4]]) (outs := [.res 5, .pre 0, .pre 1, .pre 2, .pre 4, .pre 5, .pre 6, .pre 7]) (als := [false, false, false, false, false, false]) (posts := [.val (IsB true), .val (IsB false), .val (IsB false), .val (Lit (.int .i64 (pE 32 x))), .val (IsB true), .val (IsB true)])
      (out := [(22, .val (IsB true)), (4, .val (IsB (pNeg 32 x))), (5, .val (Lit (.int .u64 (pM 32 x)))), (6, .val (Lit (.int .i64 (pE 32 x)))), (2, .box 52 2 (Zero2)), (3, .val (IsB false)), (35, .val (Sz lo)), (36, .val (EnvV))]) (nb := []) H2 6 [] rfl (by kernel_rfl) rfl rfl ?_ ?_
    · refine .cons (.plain rfl (ok_move (.tmp 0 rfl))) ?_
      refine .cons (.plain rfl (ok_not (b := true) (.tmp 0 rfl))) ?_
      refine .cons (.plain rfl (ok_move (.tmp 0 rfl))) ?_
      refine .cons (.wanted 2 false rfl rfl rfl 0 rfl (ok_move (.tmp 1 rfl))) ?_
      refine .cons (.wanted 2 false rfl rfl rfl 0 rfl (ok_cmp (b := true) (.tmp 1 rfl) (.lit) ((decide_eq_true (c1)).symm))) ?_
      refine .cons (.plain rfl (ok_pickF (.tmp 0 rfl) (.tmp 1 rfl))) ?_
      exact .nil
    clear H2 a2 w2 B2
    intro a9 w9 B9 H9
    refine ops_done ?_
    refine then_normal ?_
    refine f_condT H9 (.tmp 0 rfl) ?_
    refine wp_seq ?_
    refine flow_region (dsts := [some 23]) (refs := [[]]) (outs := [.res 0, .pre 1, .pre 2, .pre 3, .pre 4, .pre 5, .pre 6, .pre 7]) (als := [false]) (posts := [.val (IsFrI lo (IsI 0))])
      (out := [(23, .val (IsFrI lo (IsI 0))), (4, .val (IsB (pNeg 32 x))), (5, .val (Lit (.int .u64 (pM 32 x)))), (6, .val (Lit (.int .i64 (pE 32 x)))), (2, .box 52 2 (Zero2)), (3, .val (IsB false)), (35, .val (Sz lo)), (36, .val (EnvV))]) (nb := []) H9 1 [1, 2] rfl (by kernel_rfl) rfl rfl ?_ ?_
    · refine .cons (.plain rfl (ok_build0F)) ?_
      exact .nil
    clear H9 a9 w9 B9
    intro a10 w10 B10 H10
    refine ops_one ?_
    refine store_op (l' := [(23, .val (IsFrI lo (IsI 0))), (4, .val (IsB (pNeg 32 x))), (5, .val (Lit (.int .u64 (pM 32 x)))), (6, .val (Lit (.int .i64 (pE 32 x)))), (2, .box 52 2 (IsFrI lo (IsI 0))), (3, .val (IsB false)), (35, .val (Sz lo)), (36, .val (EnvV))]) 4 H10 rfl tyI rfl (.tmp 0 rfl) shape_Z shape_FrI rfl rfl ?_
    clear H10 w10
    intro w11 H11
    refine ops_one ?_
    refine tail_op (D := .val (IsB false)) (l' := [(3, .val (IsB false)), (23, .val (IsFrI lo (IsI 0))), (4, .val (IsB (pNeg 32 x))), (5, .val (Lit (.int .u64 (pM 32 x)))), (6, .val (Lit (.int .i64 (pE 32 x)))), (2, .box 52 2 (IsFrI lo (IsI 0))), (35, .val (Sz lo)), (36, .val (EnvV))]) H11 rfl rfl rfl (.plain rfl (ok_assign (.lit))) rfl rfl ?_
    clear H11 a10 w11 B10
    intro a12 w12 B12 H12
    refine ops_done ?_
    refine then_normal ?_
    refine wp_ret ?_
    refine then_ret ?_
    exact f_retN H12 rfl rfl (.cell 5 tyI rfl (fun v w B h => by exact isFrI_eq e1 h) (.tmp 0 rfl (fun v w B h => by exact isB_eq e2 h) (.nil)))
  · have eb13 : (pOk 32 x) = true := c0
    rw [eb13] at H2
    have e2 : true = intOk 32 x := by rw [K1, c0, decide_eq_true (by omega)]; rfl
    rw [← e2] at K2
    obtain ⟨s1, s2, s3, s4⟩ := shl_fits (pM 32 x) 2 (pE 32 x) hM.1 (Int.lt_of_lt_of_le hM.2 (by decide)) (by omega) (by omega)
    rw [show (if true = true then pM 32 x * 2 ^ (pE 32 x).toNat else 0) = shlNum (pM 32 x) (pE 32 x) from s2.symm] at K2
    have e1 : sI (pNeg 32 x) (shlNum (pM 32 x) (pE 32 x)) = intN 32 x := by rw [K3, K2]
    have hfs : FitK 4099 (shlNum (pM 32 x) (pE 32 x)) := by unfold FitK; rw [s2]; omega
    have hns : 0 ≤ shlNum (pM 32 x) (pE 32 x) := by rw [s2]; exact s3
    refine flow_region (dsts := [some 17, some 18, some 19, some 20, some 21, some 22]) (refs := [[.pre 3], [.res 0], [.res 1], [.res 2, .pre 2], [.res 2, .res 3], [.res 2, .res 4]]) (outs := [.res 5, .pre 0, .pre 1, .pre 2, .pre 4, .pre 5, .pre 6, .pre 7]) (als := [false, false, false, false, false, false]) (posts := [.val (IsB true), .val (IsB false), .val (IsB false), .val (Lit (.int .i64 (pE 32 x))), .val (IsB false), .val (IsB false)])
      (out := [(22, .val (IsB false)), (4, .val (IsB (pNeg 32 x))), (5, .val (Lit (.int .u64 (pM 32 x)))), (6, .val (Lit (.int .i64 (pE 32 x)))), (2, .box 52 2 (Zero2)), (3, .val (IsB false)), (35, .val (Sz lo)), (36, .val (EnvV))]) (nb := []) H2 6 [] rfl (by kernel_rfl) rfl rfl ?_ ?_
    · refine .cons (.plain rfl (ok_move (.tmp 0 rfl))) ?_
      refine .cons (.plain rfl (ok_not (b := true) (.tmp 0 rfl))) ?_
      refine .cons (.plain rfl (ok_move (.tmp 0 rfl))) ?_
      refine .cons (.wanted 2 false rfl rfl rfl 0 rfl (ok_move (.tmp 1 rfl))) ?_
      refine .cons (.wanted 2 false rfl rfl rfl 0 rfl (ok_cmp (b := false) (.tmp 1 rfl) (.lit) ((decide_eq_false (c1)).symm))) ?_
      refine .cons (.plain rfl (ok_pickF (.tmp 0 rfl) (.tmp 1 rfl))) ?_
      exact .nil
    clear H2 a2 w2 B2
    intro a14 w14 B14 H14
    refine ops_done ?_
    refine then_normal ?_
    refine f_condF H14 (.tmp 0 rfl) ?_
    refine wp_skip ?_
    refine then_normal ?_
    refine wp_seq ?_
    refine flow_region (dsts := [some 25, some 26, some 27, some 28, some 24, some 29, some 30, some 8, some 9]) (refs := [[.pre 2], [.res 0], [.pre 3], [.res 1, .res 2], [.res 3], [.res 4], [.res 4], [.res 5], [.res 6]]) (outs := [.res 7, .pre 1, .pre 4, .pre 5, .pre 6, .pre 7]) (als := [false, false, false, false, false, false, false, false, false]) (posts := [.val (Lit (.int .u64 (pM 32 x))), .val (IsCo (pM 32 x)), .val (Lit (.int .i64 (pE 32 x))), .val (Tup [IsCo (shlNum (pM 32 x) (pE 32 x)), IsB (shlOk (pM 32 x) (pE 32 x))]), .val (Tup [IsCo (shlNum (pM 32 x) (pE 32 x)), IsB (shlOk (pM 32 x) (pE 32 x))]), .val (IsCo (shlNum (pM 32 x) (pE 32 x))), .val (IsB (shlOk (pM 32 x) (pE 32 x))), .val (IsCo (shlNum (pM 32 x) (pE 32 x))), .val (IsB (shlOk (pM 32 x) (pE 32 x)))])
      (out := [(8, .val (IsCo (shlNum (pM 32 x) (pE 32 x)))), (4, .val (IsB (pNeg 32 x))), (2, .box 52 2 (Zero2)), (3, .val (IsB false)), (35, .val (Sz lo)), (36, .val (EnvV))]) (nb := []) H14 9 [] rfl (by kernel_rfl) rfl rfl ?_ ?_
    · refine .cons (.plain rfl (ok_move (.tmp 0 rfl))) ?_
      refine .cons (.plain rfl (ok_call (con_natfromO (pM 32 x) (by omega)) (.cons (.tmp 0 rfl) (.nil)))) ?_
      refine .cons (.plain rfl (ok_move (.tmp 0 rfl))) ?_
      refine .cons (.plain rfl (ok_call (con_natshlO (pM 32 x) (pE 32 x) (by omega) (hfs.fits (by omega)) hns) (.cons (.weak (.tmp 0 rfl) weakCoM) (.cons (.tmp 1 rfl) (.nil))))) ?_
      refine .cons (.plain rfl (ok_move (.tmp 0 rfl))) ?_
      refine .cons (.plain rfl (ok_extract 0 (.tmp 0 rfl) rfl)) ?_
      refine .cons (.plain rfl (ok_extract 1 (.tmp 0 rfl) rfl)) ?_
      refine .cons (.plain rfl (ok_assign (.tmp 0 rfl))) ?_
      refine .cons (.plain rfl (ok_assign (.tmp 0 rfl))) ?_
      exact .nil
    clear H14 a14 w14 B14
    intro a15 w15 B15 H15
    refine ops_done ?_
    refine then_normal ?_
    refine wp_seq ?_
    refine flow_region (dsts := [some 31, some 32, some 33, some 34]) (refs := [[.pre 1], [.pre 0], [.res 0, .res 1], [.res 2, .pre 4]]) (outs := [.res 3, .pre 2, .pre 3, .pre 4, .pre 5]) (als := [false, false, false, false]) (posts := [.val (IsB (pNeg 32 x)), .val (IsCo (shlNum (pM 32 x) (pE 32 x))), .val (IsN (sI (pNeg 32 x) (shlNum (pM 32 x) (pE 32 x)))), .val (IsFrI lo (IsI (sI (pNeg 32 x) (shlNum (pM 32 x) (pE 32 x)))))])
      (out := [(34, .val (IsFrI lo (IsI (sI (pNeg 32 x) (shlNum (pM 32 x) (pE 32 x)))))), (2, .box 52 2 (Zero2)), (3, .val (IsB false)), (35, .val (Sz lo)), (36, .val (EnvV))]) (nb := []) H15 4 [4, 5] rfl (by kernel_rfl) rfl rfl ?_ ?_
    · refine .cons (.plain rfl (ok_move (.tmp 0 rfl))) ?_
      refine .cons (.plain rfl (ok_move (.tmp 0 rfl))) ?_
      refine .cons (.plain rfl (ok_buildBN (.tmp 0 rfl) (.weak (.tmp 1 rfl) weakCoM))) ?_
      refine .cons (.plain rfl (ok_callF 1 ((con_normO (sI (pNeg 32 x) (shlNum (pM 32 x) (pE 32 x)))).freshI (FreeL.all ⟨free_N, trivial⟩)) rfl (.cons (.tmp 0 rfl) (.nil)))) ?_
      exact .nil
    clear H15 a15 w15 B15
    intro a16 w16 B16 H16
    refine ops_one ?_
    refine store_op (l' := [(34, .val (IsFrI lo (IsI (sI (pNeg 32 x) (shlNum (pM 32 x) (pE 32 x)))))), (2, .box 52 2 (IsFrI lo (IsI (sI (pNeg 32 x) (shlNum (pM 32 x) (pE 32 x)))))), (3, .val (IsB false)), (35, .val (Sz lo)), (36, .val (EnvV))]) 1 H16 rfl tyI rfl (.tmp 0 rfl) shape_Z shape_FrI rfl rfl ?_
    clear H16 w16
    intro w17 H17
    refine ops_one ?_
    refine tail_op (D := .val (IsB true)) (l' := [(3, .val (IsB true)), (34, .val (IsFrI lo (IsI (sI (pNeg 32 x) (shlNum (pM 32 x) (pE 32 x)))))), (2, .box 52 2 (IsFrI lo (IsI (sI (pNeg 32 x) (shlNum (pM 32 x) (pE 32 x)))))), (35, .val (Sz lo)), (36, .val (EnvV))]) H17 rfl rfl rfl (.plain rfl (ok_assign (.lit))) rfl rfl ?_
    clear H17 a16 w17 B16
    intro a18 w18 B18 H18
    refine ops_done ?_
    refine then_normal ?_
    refine wp_ret ?_
    exact f_retN H18 rfl rfl (.cell 2 tyI rfl (fun v w B h => by exact isFrI_eq e1 h) (.tmp 0 rfl (fun v w B h => by exact isB_eq e2 h) (.nil)))

theorem con_iparts64P (x : Int) (hx : 0 ≤ x ∧ x < 18446744073709551616) : ConE Tryz.prog 196 [Lit (.int .u64 x)] (Tup [IsB (pNeg 64 x), Lit (.int .u64 (pM 64 x)), Lit (.int .i64 (pE 64 x)), IsB (pOk 64 x)]) := by
  refine ⟨fun _ _ => by go_simp, fun vs w B hB hE hV => ?_⟩
  match vs, hV with
  | [v], ⟨h1, _⟩ =>
    obtain rfl := h1
    refine (parts_64 w hE.sh hE.tab x hx).mono ?_
    rintro e w' ⟨rfl, hb⟩
    exact ⟨_, rfl, ⟨[.bool _, .int .u64 _, .int .i64 _, .bool _], rfl, rfl, rfl, rfl, rfl, trivial⟩, hb⟩
set_option maxRecDepth 20000 in
set_option maxHeartbeats 2000000 in
theorem con_iint64F (x : Int) (hx : 0 ≤ x ∧ x < 18446744073709551616) : ConEF Tryz.prog 110 [Lit (.int .u64 x)] (fun lo => Tup [IsFrI lo (IsI (intN 64 x)), IsB (intOk 64 x)]) := by
  refine f_enterEF (N := 35) Tryz.ntmps110 (fun _ _ => by go_simp) Tryz.func110 rfl (by simp) ?_
  intro lo a0 w0 B0 H0
  replace H0 : St 35 w0 B0 a0 w0 B0 [(0, .val (Lit (.int .u64 x))), (35, .val (Sz lo)), (36, .val (EnvV))] [] := H0
  have hM := pM_bd (W := 64) (by unfold Wide; omega) x
  have hE := pE_bd (W := 64) (by unfold Wide; omega) x
  have K1 : intOk 64 x = (pOk 64 x && decide (0 ≤ pE 64 x)) := rfl
  have K2 : intV 64 x = if intOk 64 x then pM 64 x * 2 ^ (pE 64 x).toNat else 0 := rfl
  have K3 : intN 64 x = sI (pNeg 64 x) (intV 64 x) := rfl
  refine wp_seq ?_
  refine flow_region (dsts := [some 2, some 3]) (refs := [[], []]) (outs := [.res 0, .res 1, .pre 0, .pre 1, .pre 2]) (als := [true, false]) (posts := [.box 52 2 (Zero2), .val (IsB false)])
    (out := [(2, .box 52 2 (Zero2)), (3, .val (IsB false)), (0, .val (Lit (.int .u64 x))), (35, .val (Sz lo)), (36, .val (EnvV))]) (nb := [2]) H0 2 [] rfl (by kernel_rfl) rfl rfl ?_ ?_
  · refine .cons (.plain rfl (ok_alloc (D := Zero2) zeroI rfl (fun _ _ => rfl))) ?_
    refine .cons (.plain rfl (ok_assign (.lit))) ?_
    exact .nil
  clear H0
  intro a1 w1 B1 H1
  simp only [List.cons_append, List.nil_append] at H1
  refine ops_done ?_
  refine then_normal ?_
  refine wp_seq ?_
  refine flow_region (dsts := [some 11, some 12, some 10, some 13, some 14, some 15, some 16, some 4, some 5, some 6, some 7]) (refs := [[.pre 2], [.res 0, .pre 4], [.res 1], [.res 2], [.res 2], [.res 2], [.res 2], [.res 3], [.res 4], [.res 5], [.res 6]]) (outs := [.res 7, .res 8, .res 9, .res 10, .pre 0, .pre 1, .pre 3, .pre 4]) (als := [false, false, false, false, false, false, false, false, false, false, false]) (posts := [.val (Lit (.int .u64 x)), .val (Tup [IsB (pNeg 64 x), Lit (.int .u64 (pM 64 x)), Lit (.int .i64 (pE 64 x)), IsB (pOk 64 x)]), .val (Tup [IsB (pNeg 64 x), Lit (.int .u64 (pM 64 x)), Lit (.int .i64 (pE 64 x)), IsB (pOk 64 x)]), .val (IsB (pNeg 64 x)), .val (Lit (.int .u64 (pM 64 x))), .val (Lit (.int .i64 (pE 64 x))), .val (IsB (pOk 64 x)), .val (IsB (pNeg 64 x)), .val (Lit (.int .u64 (pM 64 x))), .val (Lit (.int .i64 (pE 64 x))), .val (IsB (pOk 64 x))])
    (out := [(4, .val (IsB (pNeg 64 x))), (5, .val (Lit (.int .u64 (pM 64 x)))), (6, .val (Lit (.int .i64 (pE 64 x)))), (7, .val (IsB (pOk 64 x))), (2, .box 52 2 (Zero2)), (3, .val (IsB false)), (35, .val (Sz lo)), (36, .val (EnvV))]) (nb := []) H1 11 [] rfl (by kernel_rfl) rfl rfl ?_ ?_
  · refine .cons (.plain rfl (ok_move (.tmp 0 rfl))) ?_
    refine .cons (.plain rfl (ok_callE (con_iparts64P x hx) 1 rfl (.cons (.tmp 0 rfl) (.nil)))) ?_
    refine .cons (.plain rfl (ok_move (.tmp 0 rfl))) ?_
    refine .cons (.plain rfl (ok_extract 0 (.tmp 0 rfl) rfl)) ?_
    refine .cons (.plain rfl (ok_extract 1 (.tmp 0 rfl) rfl)) ?_
    refine .cons (.plain rfl (ok_extract 2 (.tmp 0 rfl) rfl)) ?_
    refine .cons (.plain rfl (ok_extract 3 (.tmp 0 rfl) rfl)) ?_
    refine .cons (.plain rfl (ok_assign (.tmp 0 rfl))) ?_
    refine .cons (.plain rfl (ok_assign (.tmp 0 rfl))) ?_
    refine .cons (.plain rfl (ok_assign (.tmp 0 rfl))) ?_
    refine .cons (.plain rfl (ok_assign (.tmp 0 rfl))) ?_
    exact .nil
  clear H1 a1 w1 B1
  intro a2 w2 B2 H2
  refine ops_done ?_
  refine then_normal ?_
  refine wp_seq ?_
  refine wp_seq ?_
  rcases (show pOk 64 x = false ∨ (pOk 64 x = true ∧ pE 64 x < 0) ∨ (pOk 64 x = true ∧ ¬ pE 64 x < 0) by cases pOk 64 x <;> simp <;> omega) with c0 | ⟨c0, c1⟩ | ⟨c0, c1⟩
  · have eb3 : (pOk 64 x) = false := c0
    rw [eb3] at H2
    have e2 : false = intOk 64 x := by rw [K1, c0]; rfl
    have e1 : (0 : Int) = intN 64 x := by rw [K3, K2, ← e2]; cases pNeg 64 x <;> rfl
    refine flow_region (dsts := [some 17, some 18, some 19, some 20, some 21, some 22]) (refs := [[.pre 3], [.res 0], [.res 1], [.res 2], [.res 2], [.res 2]]) (outs := [.res 5, .pre 0, .pre 1, .pre 2, .pre 4, .pre 5, .pre 6, .pre 7]) (als := [false, false, false, false, false, false]) (posts := [.val (IsB false), .val (IsB true), .val (IsB true), .val (IsUndef), .val (IsUndef), .val (IsB true)])
      (out := [(22, .val (IsB true)), (4, .val (IsB (pNeg 64 x))), (5, .val (Lit (.int .u64 (pM 64 x)))), (6, .val (Lit (.int .i64 (pE 64 x)))), (2, .box 52 2 (Zero2)), (3, .val (IsB false)), (35, .val (Sz lo)), (36, .val (EnvV))]) (nb := []) H2 6 [] rfl (by kernel_rfl) rfl rfl ?_ ?_
    · refine .cons (.plain rfl (ok_move (.tmp 0 rfl))) ?_
      refine .cons (.plain rfl (ok_not (b := false) (.tmp 0 rfl))) ?_
      refine .cons (.plain rfl (ok_move (.tmp 0 rfl))) ?_
      refine .cons (.unwanted 2 false rfl rfl rfl 0 rfl) ?_
      refine .cons (.unwanted 2 false rfl rfl rfl 0 rfl) ?_
      refine .cons (.plain rfl (ok_pickT (.tmp 0 rfl) (.lit))) ?_
      exact .nil
    clear H2 a2 w2 B2
    intro a4 w4 B4 H4
    refine ops_done ?_
    refine then_normal ?_
    refine f_condT H4 (.tmp 0 rfl) ?_
    refine wp_seq ?_
    refine flow_region (dsts := [some 23]) (refs := [[]]) (outs := [.res 0, .pre 1, .pre 2, .pre 3, .pre 4, .pre 5, .pre 6, .pre 7]) (als := [false]) (posts := [.val (IsFrI lo (IsI 0))])
      (out := [(23, .val (IsFrI lo (IsI 0))), (4, .val (IsB (pNeg 64 x))), (5, .val (Lit (.int .u64 (pM 64 x)))), (6, .val (Lit (.int .i64 (pE 64 x)))), (2, .box 52 2 (Zero2)), (3, .val (IsB false)), (35, .val (Sz lo)), (36, .val (EnvV))]) (nb := []) H4 1 [1, 2] rfl (by kernel_rfl) rfl rfl ?_ ?_
    · refine .cons (.plain rfl (ok_build0F)) ?_
      exact .nil
    clear H4 a4 w4 B4
    intro a5 w5 B5 H5
    refine ops_one ?_
    refine store_op (l' := [(23, .val (IsFrI lo (IsI 0))), (4, .val (IsB (pNeg 64 x))), (5, .val (Lit (.int .u64 (pM 64 x)))), (6, .val (Lit (.int .i64 (pE 64 x)))), (2, .box 52 2 (IsFrI lo (IsI 0))), (3, .val (IsB false)), (35, .val (Sz lo)), (36, .val (EnvV))]) 4 H5 rfl tyI rfl (.tmp 0 rfl) shape_Z shape_FrI rfl rfl ?_
    clear H5 w5
    intro w6 H6
    refine ops_one ?_
    refine tail_op (D := .val (IsB false)) (l' := [(3, .val (IsB false)), (23, .val (IsFrI lo (IsI 0))), (4, .val (IsB (pNeg 64 x))), (5, .val (Lit (.int .u64 (pM 64 x)))), (6, .val (Lit (.int .i64 (pE 64 x)))), (2, .box 52 2 (IsFrI lo (IsI 0))), (35, .val (Sz lo)), (36, .val (EnvV))]) H6 rfl rfl rfl (.plain rfl (ok_assign (.lit))) rfl rfl ?_
    clear H6 a5 w6 B5
    intro a7 w7 B7 H7
    refine ops_done ?_
    refine then_normal ?_
    refine wp_ret ?_
    refine then_ret ?_
    exact f_retN H7 rfl rfl (.cell 5 tyI rfl (fun v w B h => by exact isFrI_eq e1 h) (.tmp 0 rfl (fun v w B h => by exact isB_eq e2 h) (.nil)))
  · have eb8 : (pOk 64 x) = true := c0
    rw [eb8] at H2
    have e2 : false = intOk 64 x := by rw [K1, decide_eq_false (by omega), Bool.and_false]
    have e1 : (0 : Int) = intN 64 x := by rw [K3, K2, ← e2]; cases pNeg 64 x <;> rfl
    refine flow_region (dsts := [some 17, some 18, some 19, some 20, some 21, some 22]) (refs := [[.pre 3], [.res 0], [.res 1], [.res 2, .pre 2], [.res 2, .res 3], [.res 2, .res 4]]) (outs := [.res 5, .pre 0, .pre 1, .pre 2, .pre 4, .pre 5, .pre 6, .pre 7]) (als := [false, false, false, false, false, false]) (posts := [.val (IsB true), .val (IsB false), .val (IsB false), .val (Lit (.int .i64 (pE 64 x))), .val (IsB true), .val (IsB true)])
      (out := [(22, .val (IsB true)), (4, .val (IsB (pNeg 64 x))), (5, .val (Lit (.int .u64 (pM 64 x)))), (6, .val (Lit (.int .i64 (pE 64 x)))), (2, .box 52 2 (Zero2)), (3, .val (IsB false)), (35, .val (Sz lo)), (36, .val (EnvV))]) (nb := []) H2 6 [] rfl (by kernel_rfl) rfl rfl ?_ ?_
    · refine .cons (.plain rfl (ok_move (.tmp 0 rfl))) ?_
      refine .cons (.plain rfl (ok_not (b := true) (.tmp 0 rfl))) ?_
      refine .cons (.plain rfl (ok_move (.tmp 0 rfl))) ?_
      refine .cons (.wanted 2 false rfl rfl rfl 0 rfl (ok_move (.tmp 1 rfl))) ?_
      refine .cons (.wanted 2 false rfl rfl rfl 0 rfl (ok_cmp (b := true) (.tmp 1 rfl) (.lit) ((decide_eq_true (c1)).symm))) ?_
      refine .cons (.plain rfl (ok_pickF (.tmp 0 rfl) (.tmp 1 rfl))) ?_
      exact .nil
    clear H2 a2 w2 B2
    intro a9 w9 B9 H9
    refine ops_done ?_
    refine then_normal ?_
    refine f_condT H9 (.tmp 0 rfl) ?_
    refine wp_seq ?_
    refine flow_region (dsts := [some 23]) (refs := [[]]) (outs := [.res 0, .pre 1, .pre 2, .pre 3, .pre 4, .pre 5, .pre 6, .pre 7]) (als := [false]) (posts := [.val (IsFrI lo (IsI 0))])
      (out := [(23, .val (IsFrI lo (IsI 0))), (4, .val (IsB (pNeg 64 x))), (5, .val (Lit (.int .u64 (pM 64 x)))), (6, .val (Lit (.int .i64 (pE 64 x)))), (2, .box 52 2 (Zero2)), (3, .val (IsB false)), (35, .val (Sz lo)), (36, .val (EnvV))]) (nb := []) H9 1 [1, 2] rfl (by kernel_rfl) rfl rfl ?_ ?_
    · refine .cons (.plain rfl (ok_build0F)) ?_
      exact .nil
    clear H9 a9 w9 B9
    intro a10 w10 B10 H10
    refine ops_one ?_
    refine store_op (l' := [(23, .val (IsFrI lo (IsI 0))), (4, .val (IsB (pNeg 64 x))), (5, .val (Lit (.int .u64 (pM 64 x)))), (6, .val (Lit (.int .i64 (pE 64 x)))), (2, .box 52 2 (IsFrI lo (IsI 0))), (3, .val (IsB false)), (35, .val (Sz lo)), (36, .val (EnvV))]) 4 H10 rfl tyI rfl (.tmp 0 rfl) shape_Z shape_FrI rfl rfl ?_
    clear H10 w10
    intro w11 H11
    refine ops_one ?_
    refine tail_op (D := .val (IsB false)) (l' := [(3, .val (IsB false)), (23, .val (IsFrI lo (IsI 0))), (4, .val (IsB (pNeg 64 x))), (5, .val (Lit (.int .u64 (pM 64 x)))), (6, .val (Lit (.int .i64 (pE 64 x)))), (2, .box 52 2 (IsFrI lo (IsI 0))), (35, .val (Sz lo)), (36, .val (EnvV))]) H11 rfl rfl rfl (.plain rfl (ok_assign (.lit))) rfl rfl ?_
    clear H11 a10 w11 B10
    intro a12 w12 B12 H12
    refine ops_done ?_
    refine then_normal ?_
    refine wp_ret ?_
    refine then_ret ?_
    exact f_retN H12 rfl rfl (.cell 5 tyI rfl (fun v w B h => by exact isFrI_eq e1 h) (.tmp 0 rfl (fun v w B h => by exact isB_eq e2 h) (.nil)))
  · have eb13 : (pOk 64 x) = true := c0
    rw [eb13] at H2
    have e2 : true = intOk 64 x := by rw [K1, c0, decide_eq_true (by omega)]; rfl
    rw [← e2] at K2
    obtain ⟨s1, s2, s3, s4⟩ := shl_fits (pM 64 x) 2 (pE 64 x) hM.1 (Int.lt_of_lt_of_le hM.2 (by decide)) (by omega) (by omega)
    rw [show (if true = true then pM 64 x * 2 ^ (pE 64 x).toNat else 0) = shlNum (pM 64 x) (pE 64 x) from s2.symm] at K2
    have e1 : sI (pNeg 64 x) (shlNum (pM 64 x) (pE 64 x)) = intN 64 x := by rw [K3, K2]
    have hfs : FitK 4099 (shlNum (pM 64 x) (pE 64 x)) := by unfold FitK; rw [s2]; omega
    have hns : 0 ≤ shlNum (pM 64 x) (pE 64 x) := by rw [s2]; exact s3
    refine flow_region (dsts := [some 17, some 18, some 19, some 20, some 21, some 22]) (refs := [[.pre 3], [.res 0], [.res 1], [.res 2, .pre 2], [.res 2, .res 3], [.res 2, .res 4]]) (outs := [.res 5, .pre 0, .pre 1, .pre 2, .pre 4, .pre 5, .pre 6, .pre 7]) (als := [false, false, false, false, false, false]) (posts := [.val (IsB true), .val (IsB false), .val (IsB false), .val (Lit (.int .i64 (pE 64 x))), .val (IsB false), .val (IsB false)])
      (out := [(22, .val (IsB false)), (4, .val (IsB (pNeg 64 x))), (5, .val (Lit (.int .u64 (pM 64 x)))), (6, .val (Lit (.int .i64 (pE 64 x)))), (2, .box 52 2 (Zero2)), (3, .val (IsB false)), (35, .val (Sz lo)), (36, .val (EnvV))]) (nb := []) H2 6 [] rfl (by kernel_rfl) rfl rfl ?_ ?_
    · refine .cons (.plain rfl (ok_move (.tmp 0 rfl))) ?_
      refine .cons (.plain rfl (ok_not (b := true) (.tmp 0 rfl))) ?_
      refine .cons (.plain rfl (ok_move (.tmp 0 rfl))) ?_
      refine .cons (.wanted 2 false rfl rfl rfl 0 rfl (ok_move (.tmp 1 rfl))) ?_
      refine .cons (.wanted 2 false rfl rfl rfl 0 rfl (ok_cmp (b := false) (.tmp 1 rfl) (.lit) ((decide_eq_false (c1)).symm))) ?_
      refine .cons (.plain rfl (ok_pickF (.tmp 0 rfl) (.tmp 1 rfl))) ?_
      exact .nil
    clear H2 a2 w2 B2
    intro a14 w14 B14 H14
    refine ops_done ?_
    refine then_normal ?_
    refine f_condF H14 (.tmp 0 rfl) ?_
    refine wp_skip ?_
    refine then_normal ?_
    refine wp_seq ?_
    refine flow_region (dsts := [some 25, some 26, some 27, some 28, some 24, some 29, some 30, some 8, some 9]) (refs := [[.pre 2], [.res 0], [.pre 3], [.res 1, .res 2], [.res 3], [.res 4], [.res 4], [.res 5], [.res 6]]) (outs := [.res 7, .pre 1, .pre 4, .pre 5, .pre 6, .pre 7]) (als := [false, false, false, false, false, false, false, false, false]) (posts := [.val (Lit (.int .u64 (pM 64 x))), .val (IsCo (pM 64 x)), .val (Lit (.int .i64 (pE 64 x))), .val (Tup [IsCo (shlNum (pM 64 x) (pE 64 x)), IsB (shlOk (pM 64 x) (pE 64 x))]), .val (Tup [IsCo (shlNum (pM 64 x) (pE 64 x)), IsB (shlOk (pM 64 x) (pE 64 x))]), .val (IsCo (shlNum (pM 64 x) (pE 64 x))), .val (IsB (shlOk (pM 64 x) (pE 64 x))), .val (IsCo (shlNum (pM 64 x) (pE 64 x))), .val (IsB (shlOk (pM 64 x) (pE 64 x)))])
      (out := [(8, .val (IsCo (shlNum (pM 64 x) (pE 64 x)))), (4, .val (IsB (pNeg 64 x))), (2, .box 52 2 (Zero2)), (3, .val (IsB false)), (35, .val (Sz lo)), (36, .val (EnvV))]) (nb := []) H14 9 [] rfl (by kernel_rfl) rfl rfl ?_ ?_
    · refine .cons (.plain rfl (ok_move (.tmp 0 rfl))) ?_
      refine .cons (.plain rfl (ok_call (con_natfromO (pM 64 x) (by omega)) (.cons (.tmp 0 rfl) (.nil)))) ?_
      refine .cons (.plain rfl (ok_move (.tmp 0 rfl))) ?_
      refine .cons (.plain rfl (ok_call (con_natshlO (pM 64 x) (pE 64 x) (by omega) (hfs.fits (by omega)) hns) (.cons (.weak (.tmp 0 rfl) weakCoM) (.cons (.tmp 1 rfl) (.nil))))) ?_
      refine .cons (.plain rfl (ok_move (.tmp 0 rfl))) ?_
      refine .cons (.plain rfl (ok_extract 0 (.tmp 0 rfl) rfl)) ?_
      refine .cons (.plain rfl (ok_extract 1 (.tmp 0 rfl) rfl)) ?_
      refine .cons (.plain rfl (ok_assign (.tmp 0 rfl))) ?_
      refine .cons (.plain rfl (ok_assign (.tmp 0 rfl))) ?_
      exact .nil
    clear H14 a14 w14 B14
    intro a15 w15 B15 H15
    refine ops_done ?_
    refine then_normal ?_
    refine wp_seq ?_
    refine flow_region (dsts := [some 31, some 32, some 33, some 34]) (refs := [[.pre 1], [.pre 0], [.res 0, .res 1], [.res 2, .pre 4]]) (outs := [.res 3, .pre 2, .pre 3, .pre 4, .pre 5]) (als := [false, false, false, false]) (posts := [.val (IsB (pNeg 64 x)), .val (IsCo (shlNum (pM 64 x) (pE 64 x))), .val (IsN (sI (pNeg 64 x) (shlNum (pM 64 x) (pE 64 x)))), .val (IsFrI lo (IsI (sI (pNeg 64 x) (shlNum (pM 64 x) (pE 64 x)))))])
      (out := [(34, .val (IsFrI lo (IsI (sI (pNeg 64 x) (shlNum (pM 64 x) (pE 64 x)))))), (2, .box 52 2 (Zero2)), (3, .val (IsB false)), (35, .val (Sz lo)), (36, .val (EnvV))]) (nb := []) H15 4 [4, 5] rfl (by kernel_rfl) rfl rfl ?_ ?_
    · refine .cons (.plain rfl (ok_move (.tmp 0 rfl))) ?_
      refine .cons (.plain rfl (ok_move (.tmp 0 rfl))) ?_
      refine .cons (.plain rfl (ok_buildBN (.tmp 0 rfl) (.weak (.tmp 1 rfl) weakCoM))) ?_
      refine .cons (.plain rfl (ok_callF 1 ((con_normO (sI (pNeg 64 x) (shlNum (pM 64 x) (pE 64 x)))).freshI (FreeL.all ⟨free_N, trivial⟩)) rfl (.cons (.tmp 0 rfl) (.nil)))) ?_
      exact .nil
    clear H15 a15 w15 B15
    intro a16 w16 B16 H16
    refine ops_one ?_
    refine store_op (l' := [(34, .val (IsFrI lo (IsI (sI (pNeg 64 x) (shlNum (pM 64 x) (pE 64 x)))))), (2, .box 52 2 (IsFrI lo (IsI (sI (pNeg 64 x) (shlNum (pM 64 x) (pE 64 x)))))), (3, .val (IsB false)), (35, .val (Sz lo)), (36, .val (EnvV))]) 1 H16 rfl tyI rfl (.tmp 0 rfl) shape_Z shape_FrI rfl rfl ?_
    clear H16 w16
    intro w17 H17
    refine ops_one ?_
    refine tail_op (D := .val (IsB true)) (l' := [(3, .val (IsB true)), (34, .val (IsFrI lo (IsI (sI (pNeg 64 x) (shlNum (pM 64 x) (pE 64 x)))))), (2, .box 52 2 (IsFrI lo (IsI (sI (pNeg 64 x) (shlNum (pM 64 x) (pE 64 x)))))), (35, .val (Sz lo)), (36, .val (EnvV))]) H17 rfl rfl rfl (.plain rfl (ok_assign (.lit))) rfl rfl ?_
    clear H17 a16 w17 B16
    intro a18 w18 B18 H18
    refine ops_done ?_
    refine then_normal ?_
    refine wp_ret ?_
    exact f_retN H18 rfl rfl (.cell 2 tyI rfl (fun v w B h => by exact isFrI_eq e1 h) (.tmp 0 rfl (fun v w B h => by exact isB_eq e2 h) (.nil)))

theorem con_ipartsOwnP (x : Int) (hx : 0 ≤ x ∧ x < 4294967296) : ConE Tryz.prog 197 [Lit (.int .u32 x)] (Tup [IsB (pNeg 32 x), Lit (.int .u64 (pM 32 x)), Lit (.int .i64 (pE 32 x)), IsB (pOk 32 x)]) := by
  refine ⟨fun _ _ => by go_simp, fun vs w B hB hE hV => ?_⟩
  match vs, hV with
  | [v], ⟨h1, _⟩ =>
    obtain rfl := h1
    refine (parts_Own w hE.sh hE.tab x hx).mono ?_
    rintro e w' ⟨rfl, hb⟩
    exact ⟨_, rfl, ⟨[.bool _, .int .u64 _, .int .i64 _, .bool _], rfl, rfl, rfl, rfl, rfl, trivial⟩, hb⟩
set_option maxRecDepth 20000 in
set_option maxHeartbeats 2000000 in
theorem con_iintOwnF (x : Int) (hx : 0 ≤ x ∧ x < 4294967296) : ConEF Tryz.prog 111 [Lit (.int .u32 x)] (fun lo => Tup [IsFrI lo (IsI (intN 32 x)), IsB (intOk 32 x)]) := by
  refine f_enterEF (N := 35) Tryz.ntmps111 (fun _ _ => by go_simp) Tryz.func111 rfl (by simp) ?_
  intro lo a0 w0 B0 H0
  replace H0 : St 35 w0 B0 a0 w0 B0 [(0, .val (Lit (.int .u32 x))), (35, .val (Sz lo)), (36, .val (EnvV))] [] := H0
  have hM := pM_bd (W := 32) (by unfold Wide; omega) x
  have hE := pE_bd (W := 32) (by unfold Wide; omega) x
  have K1 : intOk 32 x = (pOk 32 x && decide (0 ≤ pE 32 x)) := rfl
  have K2 : intV 32 x = if intOk 32 x then pM 32 x * 2 ^ (pE 32 x).toNat else 0 := rfl
  have K3 : intN 32 x = sI (pNeg 32 x) (intV 32 x) := rfl
  refine wp_seq ?_
  refine flow_region (dsts := [some 2, some 3]) (refs := [[], []]) (outs := [.res 0, .res 1, .pre 0, .pre 1, .pre 2]) (als := [true, false]) (posts := [.box 52 2 (Zero2), .val (IsB false)])
    (out := [(2, .box 52 2 (Zero2)), (3, .val (IsB false)), (0, .val (Lit (.int .u32 x))), (35, .val (Sz lo)), (36, .val (EnvV))]) (nb := [2]) H0 2 [] rfl (by kernel_rfl) rfl rfl ?_ ?_
  · refine .cons (.plain rfl (ok_alloc (D := Zero2) zeroI rfl (fun _ _ => rfl))) ?_
    refine .cons (.plain rfl (ok_assign (.lit))) ?_
    exact .nil
  clear H0
  intro a1 w1 B1 H1
  simp only [List.cons_append, List.nil_append] at H1
  refine ops_done ?_
  refine then_normal ?_
  refine wp_seq ?_
  refine flow_region (dsts := [some 11, some 12, some 10, some 13, some 14, some 15, some 16, some 4, some 5, some 6, some 7]) (refs := [[.pre 2], [.res 0, .pre 4], [.res 1], [.res 2], [.res 2], [.res 2], [.res 2], [.res 3], [.res 4], [.res 5], [.res 6]]) (outs := [.res 7, .res 8, .res 9, .res 10, .pre 0, .pre 1, .pre 3, .pre 4]) (als := [false, false, false, false, false, false, false, false, false, false, false]) (posts := [.val (Lit (.int .u32 x)), .val (Tup [IsB (pNeg 32 x), Lit (.int .u64 (pM 32 x)), Lit (.int .i64 (pE 32 x)), IsB (pOk 32 x)]), .val (Tup [IsB (pNeg 32 x), Lit (.int .u64 (pM 32 x)), Lit (.int .i64 (pE 32 x)), IsB (pOk 32 x)]), .val (IsB (pNeg 32 x)), .val (Lit (.int .u64 (pM 32 x))), .val (Lit (.int .i64 (pE 32 x))), .val (IsB (pOk 32 x)), .val (IsB (pNeg 32 x)), .val (Lit (.int .u64 (pM 32 x))), .val (Lit (.int .i64 (pE 32 x))), .val (IsB (pOk 32 x))])
    (out := [(4, .val (IsB (pNeg 32 x))), (5, .val (Lit (.int .u64 (pM 32 x)))), (6, .val (Lit (.int .i64 (pE 32 x)))), (7, .val (IsB (pOk 32 x))), (2, .box 52 2 (Zero2)), (3, .val (IsB false)), (35, .val (Sz lo)), (36, .val (EnvV))]) (nb := []) H1 11 [] rfl (by kernel_rfl) rfl rfl ?_ ?_
  · refine .cons (.plain rfl (ok_move (.tmp 0 rfl))) ?_
    refine .cons (.plain rfl (ok_callE (con_ipartsOwnP x hx) 1 rfl (.cons (.tmp 0 rfl) (.nil)))) ?_
    refine .cons (.plain rfl (ok_move (.tmp 0 rfl))) ?_
    refine .cons (.plain rfl (ok_extract 0 (.tmp 0 rfl) rfl)) ?_
    refine .cons (.plain rfl (ok_extract 1 (.tmp 0 rfl) rfl)) ?_
    refine .cons (.plain rfl (ok_extract 2 (.tmp 0 rfl) rfl)) ?_
    refine .cons (.plain rfl (ok_extract 3 (.tmp 0 rfl) rfl)) ?_
    refine .cons (.plain rfl (ok_assign (.tmp 0 rfl))) ?_
    refine .cons (.plain rfl (ok_assign (.tmp 0 rfl))) ?_
    refine .cons (.plain rfl (ok_assign (.tmp 0 rfl))) ?_
    refine .cons (.plain rfl (ok_assign (.tmp 0 rfl))) ?_
    exact .nil
  clear H1 a1 w1 B1
  intro a2 w2 B2 H2
  refine ops_done ?_
  refine then_normal ?_
  refine wp_seq ?_
  refine wp_seq ?_
  rcases (show pOk 32 x = false ∨ (pOk 32 x = true ∧ pE 32 x < 0) ∨ (pOk 32 x = true ∧ ¬ pE 32 x < 0) by cases pOk 32 x <;> simp <;> omega) with c0 | ⟨c0, c1⟩ | ⟨c0, c1⟩
  · have eb3 : (pOk 32 x) = false := c0
    rw [eb3] at H2
    have e2 : false = intOk 32 x := by rw [K1, c0]; rfl
    have e1 : (0 : Int) = intN 32 x := by rw [K3, K2, ← e2]; cases pNeg 32 x <;> rfl
    refine flow_region (dsts := [some 17, some 18, some 19, some 20, some 21, some 22]) (refs := [[.pre 3], [.res 0], [.res 1], [.res 2], [.res 2], [.res 2]]) (outs := [.res 5, .pre 0, .pre 1, .pre 2, .pre 4, .pre 5, .pre 6, .pre 7]) (als := [false, false, false, false, false, false]) (posts := [.val (IsB false), .val (IsB true), .val (IsB true), .val (IsUndef), .val (IsUndef), .val (IsB true)])
      (out := [(22, .val (IsB true)), (4, .val (IsB (pNeg 32 x))), (5, .val (Lit (.int .u64 (pM 32 x)))), (6, .val (Lit (.int .i64 (pE 32 x)))), (2, .box 52 2 (Zero2)), (3, .val (IsB false)), (35, .val (Sz lo)), (36, .val (EnvV))]) (nb := []) H2 6 [] rfl (by kernel_rfl) rfl rfl ?_ ?_
    · refine .cons (.plain rfl (ok_move (.tmp 0 rfl))) ?_
      refine .cons (.plain rfl (ok_not (b := false) (.tmp 0 rfl))) ?_
      refine .cons (.plain rfl (ok_move (.tmp 0 rfl))) ?_
      refine .cons (.unwanted 2 false rfl rfl rfl 0 rfl) ?_
      refine .cons (.unwanted 2 false rfl rfl rfl 0 rfl) ?_
      refine .cons (.plain rfl (ok_pickT (.tmp 0 rfl) (.lit))) ?_
      exact .nil
    clear H2 a2 w2 B2
    intro a4 w4 B4 H4
    refine ops_done ?_
    refine then_normal ?_
    refine f_condT H4 (.tmp 0 rfl) ?_
    refine wp_seq ?_
    refine flow_region (dsts := [some 23]) (refs := [[]]) (outs := [.res 0, .pre 1, .pre 2, .pre 3, .pre 4, .pre 5, .pre 6, .pre 7]) (als := [false]) (posts := [.val (IsFrI lo (IsI 0))])
      (out := [(23, .val (IsFrI lo (IsI 0))), (4, .val (IsB (pNeg 32 x))), (5, .val (Lit (.int .u64 (pM 32 x)))), (6, .val (Lit (.int .i64 (pE 32 x)))), (2, .box 52 2 (Zero2)), (3, .val (IsB false)), (35, .val (Sz lo)), (36, .val (EnvV))]) (nb := []) H4 1 [1, 2] rfl (by kernel_rfl) rfl rfl ?_ ?_
    · refine .cons (.plain rfl (ok_build0F)) ?_
      exact .nil
    clear H4 a4 w4 B4
    intro a5 w5 B5 H5
    refine ops_one ?_
    refine store_op (l' := [(23, .val (IsFrI lo (IsI 0))), (4, .val (IsB (pNeg 32 x))), (5, .val (Lit (.int .u64 (pM 32 x)))), (6, .val (Lit (.int .i64 (pE 32 x)))), (2, .box 52 2 (IsFrI lo (IsI 0))), (3, .val (IsB false)), (35, .val (Sz lo)), (36, .val (EnvV))]) 4 H5 rfl tyI rfl (.tmp 0 rfl) shape_Z shape_FrI rfl rfl ?_
    clear H5 w5
    intro w6 H6
    refine ops_one ?_
    refine tail_op (D := .val (IsB false)) (l' := [(3, .val (IsB false)), (23, .val (IsFrI lo (IsI 0))), (4, .val (IsB (pNeg 32 x))), (5, .val (Lit (.int .u64 (pM 32 x)))), (6, .val (Lit (.int .i64 (pE 32 x)))), (2, .box 52 2 (IsFrI lo (IsI 0))), (35, .val (Sz lo)), (36, .val (EnvV))]) H6 rfl rfl rfl (.plain rfl (ok_assign (.lit))) rfl rfl ?_
    clear H6 a5 w6 B5
    intro a7 w7 B7 H7
    refine ops_done ?_
    refine then_normal ?_
    refine wp_ret ?_
    refine then_ret ?_
    exact f_retN H7 rfl rfl (.cell 5 tyI rfl (fun v w B h => by exact isFrI_eq e1 h) (.tmp 0 rfl (fun v w B h => by exact isB_eq e2 h) (.nil)))
  · have eb8 : (pOk 32 x) = true := c0
    rw [eb8] at H2
    have e2 : false = intOk 32 x := by rw [K1, decide_eq_false (by omega), Bool.and_false]
    have e1 : (0 : Int) = intN 32 x := by rw [K3, K2, ← e2]; cases pNeg 32 x <;> rfl
    refine flow_region (dsts := [some 17, some 18, some 19, some 20, some 21, some 22]) (refs := [[.pre 3], [.res 0], [.res 1], [.res 2, .pre 2], [.res 2, .res 3], [.res 2, .res 4]]) (outs := [.res 5, .pre 0, .pre 1, .pre 2, .pre 4, .pre 5, .pre 6, .pre 7]) (als := [false, false, false, false, false, false]) (posts := [.val (IsB true), .val (IsB false), .val (IsB false), .val (Lit (.int .i64 (pE 32 x))), .val (IsB true), .val (IsB true)])
      (out := [(22, .val (IsB true)), (4, .val (IsB (pNeg 32 x))), (5, .val (Lit (.int .u64 (pM 32 x)))), (6, .val (Lit (.int .i64 (pE 32 x)))), (2, .box 52 2 (Zero2)), (3, .val (IsB false)), (35, .val (Sz lo)), (36, .val (EnvV))]) (nb := []) H2 6 [] rfl (by kernel_rfl) rfl rfl ?_ ?_
    · refine .cons (.plain rfl (ok_move (.tmp 0 rfl))) ?_
      refine .cons (.plain rfl (ok_not (b := true) (.tmp 0 rfl))) ?_
      refine .cons (.plain rfl (ok_move (.tmp 0 rfl))) ?_
      refine .cons (.wanted 2 false rfl rfl rfl 0 rfl (ok_move (.tmp 1 rfl))) ?_
      refine .cons (.wanted 2 false rfl rfl rfl 0 rfl (ok_cmp (b := true) (.tmp 1 rfl) (.lit) ((decide_eq_true (c1)).symm))) ?_
      refine .cons (.plain rfl (ok_pickF (.tmp 0 rfl) (.tmp 1 rfl))) ?_
      exact .nil
    clear H2 a2 w2 B2
    intro a9 w9 B9 H9
    refine ops_done ?_
    refine then_normal ?_
    refine f_condT H9 (.tmp 0 rfl) ?_
    refine wp_seq ?_
    refine flow_region (dsts := [some 23]) (refs := [[]]) (outs := [.res 0, .pre 1, .pre 2, .pre 3, .pre 4, .pre 5, .pre 6, .pre 7]) (als := [false]) (posts := [.val (IsFrI lo (IsI 0))])
      (out := [(23, .val (IsFrI lo (IsI 0))), (4, .val (IsB (pNeg 32 x))), (5, .val (Lit (.int .u64 (pM 32 x)))), (6, .val (Lit (.int .i64 (pE 32 x)))), (2, .box 52 2 (Zero2)), (3, .val (IsB false)), (35, .val (Sz lo)), (36, .val (EnvV))]) (nb := []) H9 1 [1, 2] rfl (by kernel_rfl) rfl rfl ?_ ?_
    · refine .cons (.plain rfl (ok_build0F)) ?_
      exact .nil
    clear H9 a9 w9 B9
    intro a10 w10 B10 H10
    refine ops_one ?_
    refine store_op (l' := [(23, .val (IsFrI lo (IsI 0))), (4, .val (IsB (pNeg 32 x))), (5, .val (Lit (.int .u64 (pM 32 x)))), (6, .val (Lit (.int .i64 (pE 32 x)))), (2, .box 52 2 (IsFrI lo (IsI 0))), (3, .val (IsB false)), (35, .val (Sz lo)), (36, .val (EnvV))]) 4 H10 rfl tyI rfl (.tmp 0 rfl) shape_Z shape_FrI rfl rfl ?_
    clear H10 w10
    intro w11 H11
    refine ops_one ?_
    refine tail_op (D := .val (IsB false)) (l' := [(3, .val (IsB false)), (23, .val (IsFrI lo (IsI 0))), (4, .val (IsB (pNeg 32 x))), (5, .val (Lit (.int .u64 (pM 32 x)))), (6, .val (Lit (.int .i64 (pE 32 x)))), (2, .box 52 2 (IsFrI lo (IsI 0))), (35, .val (Sz lo)), (36, .val (EnvV))]) H11 rfl rfl rfl (.plain rfl (ok_assign (.lit))) rfl rfl ?_
    clear H11 a10 w11 B10
    intro a12 w12 B12 H12
    refine ops_done ?_
    refine then_normal ?_
    refine wp_ret ?_
    refine then_ret ?_
    exact f_retN H12 rfl rfl (.cell 5 tyI rfl (fun v w B h => by exact isFrI_eq e1 h) (.tmp 0 rfl (fun v w B h => by exact isB_eq e2 h) (.nil)))
  · have eb13 : (pOk 32 x) = true := c0
    rw [eb13] at H2
    have e2 : true = intOk 32 x := by rw [K1, c0, decide_eq_true (by omega)]; rfl
    rw [← e2] at K2
    obtain ⟨s1, s2, s3, s4⟩ := shl_fits (pM 32 x) 2 (pE 32 x) hM.1 (Int.lt_of_lt_of_le hM.2 (by decide)) (by omega) (by omega)
    rw [show (if true = true then pM 32 x * 2 ^ (pE 32 x).toNat else 0) = shlNum (pM 32 x) (pE 32 x) from s2.symm] at K2
    have e1 : sI (pNeg 32 x) (shlNum (pM 32 x) (pE 32 x)) = intN 32 x := by rw [K3, K2]
    have hfs : FitK 4099 (shlNum (pM 32 x) (pE 32 x)) := by unfold FitK; rw [s2]; omega
    have hns : 0 ≤ shlNum (pM 32 x) (pE 32 x) := by rw [s2]; exact s3
    refine flow_region (dsts := [some 17, some 18, some 19, some 20, some 21, some 22]) (refs := [[.pre 3], [.res 0], [.res 1], [.res 2, .pre 2], [.res 2, .res 3], [.res 2, .res 4]]) (outs := [.res 5, .pre 0, .pre 1, .pre 2, .pre 4, .pre 5, .pre 6, .pre 7]) (als := [false, false, false, false, false, false]) (posts := [.val (IsB true), .val (IsB false), .val (IsB false), .val (Lit (.int .i64 (pE 32 x))), .val (IsB false), .val (IsB false)])
      (out := [(22, .val (IsB false)), (4, .val (IsB (pNeg 32 x))), (5, .val (Lit (.int .u64 (pM 32 x)))), (6, .val (Lit (.int .i64 (pE 32 x)))), (2, .box 52 2 (Zero2)), (3, .val (IsB false)), (35, .val (Sz lo)), (36, .val (EnvV))]) (nb := []) H2 6 [] rfl (by kernel_rfl) rfl rfl ?_ ?_
    · refine .cons (.plain rfl (ok_move (.tmp 0 rfl))) ?_
      refine .cons (.plain rfl (ok_not (b := true) (.tmp 0 rfl))) ?_
      refine .cons (.plain rfl (ok_move (.tmp 0 rfl))) ?_
      refine .cons (.wanted 2 false rfl rfl rfl 0 rfl (ok_move (.tmp 1 rfl))) ?_
      refine .cons (.wanted 2 false rfl rfl rfl 0 rfl (ok_cmp (b := false) (.tmp 1 rfl) (.lit) ((decide_eq_false (c1)).symm))) ?_
      refine .cons (.plain rfl (ok_pickF (.tmp 0 rfl) (.tmp 1 rfl))) ?_
      exact .nil
    clear H2 a2 w2 B2
    intro a14 w14 B14 H14
    refine ops_done ?_
    refine then_normal ?_
    refine f_condF H14 (.tmp 0 rfl) ?_
    refine wp_skip ?_
    refine then_normal ?_
    refine wp_seq ?_
    refine flow_region (dsts := [some 25, some 26, some 27, some 28, some 24, some 29, some 30, some 8, some 9]) (refs := [[.pre 2], [.res 0], [.pre 3], [.res 1, .res 2], [.res 3], [.res 4], [.res 4], [.res 5], [.res 6]]) (outs := [.res 7, .pre 1, .pre 4, .pre 5, .pre 6, .pre 7]) (als := [false, false, false, false, false, false, false, false, false]) (posts := [.val (Lit (.int .u64 (pM 32 x))), .val (IsCo (pM 32 x)), .val (Lit (.int .i64 (pE 32 x))), .val (Tup [IsCo (shlNum (pM 32 x) (pE 32 x)), IsB (shlOk (pM 32 x) (pE 32 x))]), .val (Tup [IsCo (shlNum (pM 32 x) (pE 32 x)), IsB (shlOk (pM 32 x) (pE 32 x))]), .val (IsCo (shlNum (pM 32 x) (pE 32 x))), .val (IsB (shlOk (pM 32 x) (pE 32 x))), .val (IsCo (shlNum (pM 32 x) (pE 32 x))), .val (IsB (shlOk (pM 32 x) (pE 32 x)))])
      (out := [(8, .val (IsCo (shlNum (pM 32 x) (pE 32 x)))), (4, .val (IsB (pNeg 32 x))), (2, .box 52 2 (Zero2)), (3, .val (IsB false)), (35, .val (Sz lo)), (36, .val (EnvV))]) (nb := []) H14 9 [] rfl (by kernel_rfl) rfl rfl ?_ ?_
    · refine .cons (.plain rfl (ok_move (.tmp 0 rfl))) ?_
      refine .cons (.plain rfl (ok_call (con_natfromO (pM 32 x) (by omega)) (.cons (.tmp 0 rfl) (.nil)))) ?_
      refine .cons (.plain rfl (ok_move (.tmp 0 rfl))) ?_
      refine .cons (.plain rfl (ok_call (con_natshlO (pM 32 x) (pE 32 x) (by omega) (hfs.fits (by omega)) hns) (.cons (.weak (.tmp 0 rfl) weakCoM) (.cons (.tmp 1 rfl) (.nil))))) ?_
      refine .cons (.plain rfl (ok_move (.tmp 0 rfl))) ?_
      refine .cons (.plain rfl (ok_extract 0 (.tmp 0 rfl) rfl)) ?_
      refine .cons (.plain rfl (ok_extract 1 (.tmp 0 rfl) rfl)) ?_
      refine .cons (.plain rfl (ok_assign (.tmp 0 rfl))) ?_
      refine .cons (.plain rfl (ok_assign (.tmp 0 rfl))) ?_
      exact .nil
    clear H14 a14 w14 B14
    intro a15 w15 B15 H15
    refine ops_done ?_
    refine then_normal ?_
    refine wp_seq ?_
    refine flow_region (dsts := [some 31, some 32, some 33, some 34]) (refs := [[.pre 1], [.pre 0], [.res 0, .res 1], [.res 2, .pre 4]]) (outs := [.res 3, .pre 2, .pre 3, .pre 4, .pre 5]) (als := [false, false, false, false]) (posts := [.val (IsB (pNeg 32 x)), .val (IsCo (shlNum (pM 32 x) (pE 32 x))), .val (IsN (sI (pNeg 32 x) (shlNum (pM 32 x) (pE 32 x)))), .val (IsFrI lo (IsI (sI (pNeg 32 x) (shlNum (pM 32 x) (pE 32 x)))))])
      (out := [(34, .val (IsFrI lo (IsI (sI (pNeg 32 x) (shlNum (pM 32 x) (pE 32 x)))))), (2, .box 52 2 (Zero2)), (3, .val (IsB false)), (35, .val (Sz lo)), (36, .val (EnvV))]) (nb := []) H15 4 [4, 5] rfl (by kernel_rfl) rfl rfl ?_ ?_
    · refine .cons (.plain rfl (ok_move (.tmp 0 rfl))) ?_
      refine .cons (.plain rfl (ok_move (.tmp 0 rfl))) ?_
      refine .cons (.plain rfl (ok_buildBN (.tmp 0 rfl) (.weak (.tmp 1 rfl) weakCoM))) ?_
      refine .cons (.plain rfl (ok_callF 1 ((con_normO (sI (pNeg 32 x) (shlNum (pM 32 x) (pE 32 x)))).freshI (FreeL.all ⟨free_N, trivial⟩)) rfl (.cons (.tmp 0 rfl) (.nil)))) ?_
      exact .nil
    clear H15 a15 w15 B15
    intro a16 w16 B16 H16
    refine ops_one ?_
    refine store_op (l' := [(34, .val (IsFrI lo (IsI (sI (pNeg 32 x) (shlNum (pM 32 x) (pE 32 x)))))), (2, .box 52 2 (IsFrI lo (IsI (sI (pNeg 32 x) (shlNum (pM 32 x) (pE 32 x)))))), (3, .val (IsB false)), (35, .val (Sz lo)), (36, .val (EnvV))]) 1 H16 rfl tyI rfl (.tmp 0 rfl) shape_Z shape_FrI rfl rfl ?_
    clear H16 w16
    intro w17 H17
    refine ops_one ?_
    refine tail_op (D := .val (IsB true)) (l' := [(3, .val (IsB true)), (34, .val (IsFrI lo (IsI (sI (pNeg 32 x) (shlNum (pM 32 x) (pE 32 x)))))), (2, .box 52 2 (IsFrI lo (IsI (sI (pNeg 32 x) (shlNum (pM 32 x) (pE 32 x)))))), (35, .val (Sz lo)), (36, .val (EnvV))]) H17 rfl rfl rfl (.plain rfl (ok_assign (.lit))) rfl rfl ?_
    clear H17 a16 w17 B16
    intro a18 w18 B18 H18
    refine ops_done ?_
    refine then_normal ?_
    refine wp_ret ?_
    exact f_retN H18 rfl rfl (.cell 2 tyI rfl (fun v w B h => by exact isFrI_eq e1 h) (.tmp 0 rfl (fun v w B h => by exact isB_eq e2 h) (.nil)))
end Go.Proofs.YtbcbmkeeoognpaaGreatDoor

