/- Contracts of functions, and plain facts, part 36. -/
import Derived.Test.YtoimhjcpeifegaaGreatDoorPk35
set_option linter.unusedVariables false
set_option linter.unusedSimpArgs false
/- VWhat. (Printed by flow15.py.) -/
namespace Go.Proofs.YtoimhjcpeifegaaGreatDoor
open Go Go.RowKit

/-- What the number of a pattern is. -/
noncomputable def oneF (b : Int) : One := if clsW 64 b = 4 then .endless b else if clsW 64 b = 5 then .nothing b else .broken b
noncomputable def whatV : NV → One
  | .int X => .exact X
  | .flt b => oneF b
theorem whatV_some (z : NV) : (whatV z).isNone = false := by
  cases z with
  | int X => rfl
  | flt b =>
    show (oneF b).isNone = false
    unfold oneF
    by_cases h1 : clsW 64 b = 4
    · rw [if_pos h1]; rfl
    · by_cases h2 : clsW 64 b = 5
      · rw [if_neg h1, if_pos h2]; rfl
      · rw [if_neg h1, if_neg h2]; rfl
noncomputable def bitsO : One → Int × Bool
  | .none => (0, false)
  | .exact X => if (fromW 64 X).2 = true then ((fromW 64 X).1, true) else (0, false)
  | .broken b => (b, true)
  | .endless b => (b, true)
  | .nothing b => (b, true)
theorem one_eq {o o' : One} (e : o = o') {v : Value} {w : World} {B : Bx} (h : (IsOne o).p v w B) : (IsOne o').p v w B := e ▸ h
theorem bits_yes {X : Int} (h : (fromW 64 X).2 = true) : bitsO (.exact X) = ((fromW 64 X).1, true) := if_pos h
theorem bits_no {X : Int} (h : (fromW 64 X).2 = false) : bitsO (.exact X) = (0, false) := if_neg (by rw [h]; exact Bool.false_ne_true)

set_option maxRecDepth 20000 in
set_option maxHeartbeats 2000000 in
theorem con_whatI (X : Int) : ConE Tryz.prog 79 [IsNum (.int X)] (IsOne (.exact X)) := by
  refine f_enterE (N := 42) Tryz.ntmps79 (fun _ _ => by go_simp) Tryz.func79 rfl (by simp) ?_
  intro a0 w0 B0 H0
  replace H0 : St 42 w0 B0 a0 w0 B0 [(0, .val (IsNum (.int X))), (42, .val (EnvV))] [] := H0
  refine wp_seq ?_
  refine flow_region (dsts := [some 1, some 2]) (refs := [[.pre 0], []]) (outs := [.res 0, .res 1, .pre 1]) (als := [true, false]) (posts := [.box 37 8 (IsNum (.int X)), .val (IsOne .none)])
    (out := [(1, .box 37 8 (IsNum (.int X))), (2, .val (IsOne .none)), (42, .val (EnvV))]) (nb := [1]) H0 2 [] rfl (by kernel_rfl) rfl rfl ?_ ?_
  · refine .cons (.plain rfl (ok_box (.tmp 0 rfl) shape_Num.two)) ?_
    refine .cons (.plain rfl (ok_assign (ok_nilIface))) ?_
    exact .nil
  clear H0
  intro a1 w1 B1 H1
  simp only [List.cons_append, List.nil_append] at H1
  refine ops_done ?_
  refine then_normal ?_
  refine wp_seq ?_
  refine wp_seq ?_
  refine flow_region (dsts := [some 3, some 4, some 5, some 6, some 7, some 8, some 9, some 10, some 11, some 12, some 13, some 14, some 15]) (refs := [[.pre 0], [.res 0], [.res 1], [.res 2], [.res 3], [.res 3], [.res 3], [.res 3], [.res 7], [.res 8, .pre 0], [.res 8, .res 9, .pre 2], [.res 8, .res 10], [.res 8, .res 11]]) (outs := [.res 12, .pre 0, .pre 1, .pre 2]) (als := [false, false, false, false, false, false, false, false, false, false, false, false, false]) (posts := [.ptr 37 8 (IsNum (.int X)) 0, .val (Lit (.int .i8 3)), .val (IsB false), .val (IsB false), .val (IsUndef), .val (IsUndef), .val (IsUndef), .val (IsB false), .val (IsB false), .val (IsNum (.int X)), .val (IsErr true), .val (IsB false), .val (IsB false)])
    (out := [(15, .val (IsB false)), (1, .box 37 8 (IsNum (.int X))), (2, .val (IsOne .none)), (42, .val (EnvV))]) (nb := []) H1 13 [] rfl (by kernel_rfl) rfl rfl ?_ ?_
  · refine .cons (.plain rfl (ok_addrV0 (.tmp 0 rfl))) ?_
    refine .cons (.plain rfl (ok_loadV0 (.tmp 0 rfl))) ?_
    refine .cons (.plain rfl (ok_cmp (b := false) (.tmp 0 rfl) (.lit) (by decide))) ?_
    refine .cons (.plain rfl (ok_move (.tmp 0 rfl))) ?_
    refine .cons (.unwanted 3 true rfl rfl rfl 0 rfl) ?_
    refine .cons (.unwanted 3 true rfl rfl rfl 0 rfl) ?_
    refine .cons (.unwanted 3 true rfl rfl rfl 0 rfl) ?_
    refine .cons (.plain rfl (ok_pickF (.tmp 0 rfl) (.lit))) ?_
    refine .cons (.plain rfl (ok_move (.tmp 0 rfl))) ?_
    refine .cons (.wanted 8 false rfl rfl rfl 0 rfl (ok_load tyV (.tmp 1 rfl))) ?_
    refine .cons (.wanted 8 false rfl rfl rfl 0 rfl (ok_callE (con_vcheck (.int X) trivial) 2 rfl (.cons (.tmp 1 rfl) (.nil)))) ?_
    refine .cons (.wanted 8 false rfl rfl rfl 0 rfl (ok_neErr (b := true) (.tmp 1 rfl))) ?_
    refine .cons (.plain rfl (ok_pickF (.tmp 0 rfl) (.tmp 1 rfl))) ?_
    exact .nil
  clear H1 a1 w1 B1
  intro a2 w2 B2 H2
  refine ops_done ?_
  refine then_normal ?_
  refine f_condF H2 (.tmp 0 rfl) ?_
  refine wp_skip ?_
  refine then_normal ?_
  refine wp_seq ?_
  refine wp_seq ?_
  refine flow_region (dsts := [some 16, some 17, some 18]) (refs := [[.pre 1], [.res 0], [.res 1]]) (outs := [.res 2, .pre 1, .pre 2, .pre 3]) (als := [false, false, false]) (posts := [.ptr 37 8 (IsNum (.int X)) 0, .val (Lit (.int .i8 3)), .val (IsB true)])
    (out := [(18, .val (IsB true)), (1, .box 37 8 (IsNum (.int X))), (2, .val (IsOne .none)), (42, .val (EnvV))]) (nb := []) H2 3 [] rfl (by kernel_rfl) rfl rfl ?_ ?_
  · refine .cons (.plain rfl (ok_addrV0 (.tmp 0 rfl))) ?_
    refine .cons (.plain rfl (ok_loadV0 (.tmp 0 rfl))) ?_
    refine .cons (.plain rfl (ok_cmp (b := true) (.tmp 0 rfl) (.lit) (by decide))) ?_
    exact .nil
  clear H2 a2 w2 B2
  intro a3 w3 B3 H3
  refine ops_done ?_
  refine then_normal ?_
  refine f_condT H3 (.tmp 0 rfl) ?_
  refine wp_seq ?_
  refine flow_region (dsts := [some 19, some 20, some 21, some 22, some 2]) (refs := [[.pre 1], [.res 0], [.res 1], [.res 2], [.res 3]]) (outs := [.res 4, .pre 1, .pre 3]) (als := [false, false, false, false, false]) (posts := [.ptr 37 8 (IsNum (.int X)) 2, .val (IsI X), .val (IsEx X), .val (IsOne (.exact X)), .val (IsOne (.exact X))])
    (out := [(2, .val (IsOne (.exact X))), (1, .box 37 8 (IsNum (.int X))), (42, .val (EnvV))]) (nb := []) H3 5 [] rfl (by kernel_rfl) rfl rfl ?_ ?_
  · refine .cons (.plain rfl (ok_addrV2 (.tmp 0 rfl))) ?_
    refine .cons (.plain rfl (ok_loadV2 (.tmp 0 rfl))) ?_
    refine .cons (.plain rfl (ok_buildEx (.tmp 0 rfl))) ?_
    refine .cons (.plain rfl (ok_mkEx (.tmp 0 rfl))) ?_
    refine .cons (.plain rfl (ok_assign (.tmp 0 rfl))) ?_
    exact .nil
  clear H3 a3 w3 B3
  intro a4 w4 B4 H4
  refine ops_done ?_
  refine then_normal ?_
  refine wp_ret ?_
  refine then_ret ?_
  exact f_ret H4 rfl 0 rfl (fun _ _ _ h => h)

set_option maxRecDepth 20000 in
set_option maxHeartbeats 2000000 in
theorem con_whatF (b : Int) (hz : okNV (.flt b)) : ConE Tryz.prog 79 [IsNum (.flt b)] (IsOne (whatV (.flt b))) := by
  refine f_enterE (N := 42) Tryz.ntmps79 (fun _ _ => by go_simp) Tryz.func79 rfl (by simp) ?_
  intro a0 w0 B0 H0
  replace H0 : St 42 w0 B0 a0 w0 B0 [(0, .val (IsNum (.flt b))), (42, .val (EnvV))] [] := H0
  refine wp_seq ?_
  refine flow_region (dsts := [some 1, some 2]) (refs := [[.pre 0], []]) (outs := [.res 0, .res 1, .pre 1]) (als := [true, false]) (posts := [.box 37 8 (IsNum (.flt b)), .val (IsOne .none)])
    (out := [(1, .box 37 8 (IsNum (.flt b))), (2, .val (IsOne .none)), (42, .val (EnvV))]) (nb := [1]) H0 2 [] rfl (by kernel_rfl) rfl rfl ?_ ?_
  · refine .cons (.plain rfl (ok_box (.tmp 0 rfl) shape_Num.two)) ?_
    refine .cons (.plain rfl (ok_assign (ok_nilIface))) ?_
    exact .nil
  clear H0
  intro a1 w1 B1 H1
  simp only [List.cons_append, List.nil_append] at H1
  refine ops_done ?_
  refine then_normal ?_
  refine wp_seq ?_
  refine wp_seq ?_
  refine flow_region (dsts := [some 3, some 4, some 5, some 6, some 7, some 8, some 9, some 10, some 11, some 12, some 13, some 14, some 15]) (refs := [[.pre 0], [.res 0], [.res 1], [.res 2], [.res 3, .pre 0], [.res 3, .res 4], [.res 3, .res 5], [.res 3, .res 6], [.res 7], [.res 8, .pre 0], [.res 8, .res 9, .pre 2], [.res 8, .res 10], [.res 8, .res 11]]) (outs := [.res 12, .pre 0, .pre 1, .pre 2]) (als := [false, false, false, false, false, false, false, false, false, false, false, false, false]) (posts := [.ptr 37 8 (IsNum (.flt b)) 0, .val (Lit (.int .i8 4)), .val (IsB true), .val (IsB true), .ptr 37 8 (IsNum (.flt b)) 0, .val (Lit (.int .i8 4)), .val (IsB false), .val (IsB false), .val (IsB false), .val (IsNum (.flt b)), .val (IsErr true), .val (IsB false), .val (IsB false)])
    (out := [(15, .val (IsB false)), (1, .box 37 8 (IsNum (.flt b))), (2, .val (IsOne .none)), (42, .val (EnvV))]) (nb := []) H1 13 [] rfl (by kernel_rfl) rfl rfl ?_ ?_
  · refine .cons (.plain rfl (ok_addrV0 (.tmp 0 rfl))) ?_
    refine .cons (.plain rfl (ok_loadV0 (.tmp 0 rfl))) ?_
    refine .cons (.plain rfl (ok_cmp (b := true) (.tmp 0 rfl) (.lit) (by decide))) ?_
    refine .cons (.plain rfl (ok_move (.tmp 0 rfl))) ?_
    refine .cons (.wanted 3 true rfl rfl rfl 0 rfl (ok_addrV0 (.tmp 1 rfl))) ?_
    refine .cons (.wanted 3 true rfl rfl rfl 0 rfl (ok_loadV0 (.tmp 1 rfl))) ?_
    refine .cons (.wanted 3 true rfl rfl rfl 0 rfl (ok_cmp (b := false) (.tmp 1 rfl) (.lit) (by decide))) ?_
    refine .cons (.plain rfl (ok_pickT (.tmp 0 rfl) (.tmp 1 rfl))) ?_
    refine .cons (.plain rfl (ok_move (.tmp 0 rfl))) ?_
    refine .cons (.wanted 8 false rfl rfl rfl 0 rfl (ok_load tyV (.tmp 1 rfl))) ?_
    refine .cons (.wanted 8 false rfl rfl rfl 0 rfl (ok_callE (con_vcheck (.flt b) hz) 2 rfl (.cons (.tmp 1 rfl) (.nil)))) ?_
    refine .cons (.wanted 8 false rfl rfl rfl 0 rfl (ok_neErr (b := true) (.tmp 1 rfl))) ?_
    refine .cons (.plain rfl (ok_pickF (.tmp 0 rfl) (.tmp 1 rfl))) ?_
    exact .nil
  clear H1 a1 w1 B1
  intro a2 w2 B2 H2
  refine ops_done ?_
  refine then_normal ?_
  refine f_condF H2 (.tmp 0 rfl) ?_
  refine wp_skip ?_
  refine then_normal ?_
  refine wp_seq ?_
  refine wp_seq ?_
  refine flow_region (dsts := [some 16, some 17, some 18]) (refs := [[.pre 1], [.res 0], [.res 1]]) (outs := [.res 2, .pre 1, .pre 2, .pre 3]) (als := [false, false, false]) (posts := [.ptr 37 8 (IsNum (.flt b)) 0, .val (Lit (.int .i8 4)), .val (IsB false)])
    (out := [(18, .val (IsB false)), (1, .box 37 8 (IsNum (.flt b))), (2, .val (IsOne .none)), (42, .val (EnvV))]) (nb := []) H2 3 [] rfl (by kernel_rfl) rfl rfl ?_ ?_
  · refine .cons (.plain rfl (ok_addrV0 (.tmp 0 rfl))) ?_
    refine .cons (.plain rfl (ok_loadV0 (.tmp 0 rfl))) ?_
    refine .cons (.plain rfl (ok_cmp (b := false) (.tmp 0 rfl) (.lit) (by decide))) ?_
    exact .nil
  clear H2 a2 w2 B2
  intro a3 w3 B3 H3
  refine ops_done ?_
  refine then_normal ?_
  refine f_condF H3 (.tmp 0 rfl) ?_
  refine wp_skip ?_
  refine then_normal ?_
  refine wp_seq ?_
  refine wp_seq ?_
  refine flow_region (dsts := [some 23, some 24, some 25]) (refs := [[.pre 1], [.res 0], [.res 1, .pre 3]]) (outs := [.res 2, .pre 1, .pre 2, .pre 3]) (als := [false, false, false]) (posts := [.ptr 37 8 (IsNum (.flt b)) 4, .val (Lit (.int .u64 b)), .val (Lit (.int .i8 (clsW 64 b)))])
    (out := [(25, .val (Lit (.int .i8 (clsW 64 b)))), (1, .box 37 8 (IsNum (.flt b))), (2, .val (IsOne .none)), (42, .val (EnvV))]) (nb := []) H3 3 [] rfl (by kernel_rfl) rfl rfl ?_ ?_
  · refine .cons (.plain rfl (ok_addrV3 (.tmp 0 rfl))) ?_
    refine .cons (.plain rfl (ok_loadV3 (.tmp 0 rfl))) ?_
    refine .cons (.plain rfl (ok_callE (con_class64 b hz.1) 1 rfl (.cons (.tmp 0 rfl) (.nil)))) ?_
    exact .nil
  clear H3 a3 w3 B3
  intro a4 w4 B4 H4
  refine ops_done ?_
  refine then_normal ?_
  refine wp_block ?_
  refine wp_seq ?_
  refine flow_region (dsts := [some 27, some 26]) (refs := [[.pre 0], [.res 0]]) (outs := [.res 1, .pre 0, .pre 1, .pre 2, .pre 3]) (als := [false, false]) (posts := [.val (IsB (decide (clsW 64 b = 4))), .val (IsB (decide (clsW 64 b = 4)))])
    (out := [(26, .val (IsB (decide (clsW 64 b = 4)))), (25, .val (Lit (.int .i8 (clsW 64 b)))), (1, .box 37 8 (IsNum (.flt b))), (2, .val (IsOne .none)), (42, .val (EnvV))]) (nb := []) H4 2 [] rfl (by kernel_rfl) rfl rfl ?_ ?_
  · refine .cons (.plain rfl (ok_cmp (.tmp 0 rfl) (.lit) rfl)) ?_
    refine .cons (.plain rfl (ok_assign (.tmp 0 rfl))) ?_
    exact .nil
  clear H4 a4 w4 B4
  intro a5 w5 B5 H5
  refine ops_done ?_
  refine then_normal ?_
  refine f_cond H5 (.tmp 0 rfl) ?_ ?_
  · intro hc6
    replace hc6 := of_decide_eq_true hc6
    refine wp_seq ?_
    refine flow_region (dsts := [some 28, some 29, some 30, some 31, some 2]) (refs := [[.pre 2], [.res 0], [.res 1], [.res 2], [.res 3]]) (outs := [.res 4, .pre 1, .pre 2, .pre 4]) (als := [false, false, false, false, false]) (posts := [.ptr 37 8 (IsNum (.flt b)) 4, .val (Lit (.int .u64 b)), .val (U1 b), .val (IsOne (.endless b)), .val (IsOne (.endless b))])
      (out := [(2, .val (IsOne (.endless b))), (25, .val (Lit (.int .i8 (clsW 64 b)))), (1, .box 37 8 (IsNum (.flt b))), (42, .val (EnvV))]) (nb := []) H5 5 [] rfl (by kernel_rfl) rfl rfl ?_ ?_
    · refine .cons (.plain rfl (ok_addrV3 (.tmp 0 rfl))) ?_
      refine .cons (.plain rfl (ok_loadV3 (.tmp 0 rfl))) ?_
      refine .cons (.plain rfl (ok_buildE (.tmp 0 rfl))) ?_
      refine .cons (.plain rfl (ok_mkE (.tmp 0 rfl))) ?_
      refine .cons (.plain rfl (ok_assign (.tmp 0 rfl))) ?_
      exact .nil
    clear H5 a5 w5 B5
    intro a7 w7 B7 H7
    refine ops_done ?_
    refine then_normal ?_
    refine wp_ret ?_
    refine block_ret ?_
    refine then_ret ?_
    exact f_ret H7 rfl 0 rfl (fun v w B h => by refine one_eq ?_ h; unfold whatV oneF; simp [*])
  · intro hc6
    replace hc6 := of_decide_eq_false hc6
    refine wp_seq ?_
    refine flow_region (dsts := [some 33, some 32]) (refs := [[.pre 1], [.res 0]]) (outs := [.res 1, .pre 2, .pre 3, .pre 4]) (als := [false, false]) (posts := [.val (IsB (decide (clsW 64 b = 5))), .val (IsB (decide (clsW 64 b = 5)))])
      (out := [(32, .val (IsB (decide (clsW 64 b = 5)))), (1, .box 37 8 (IsNum (.flt b))), (2, .val (IsOne .none)), (42, .val (EnvV))]) (nb := []) H5 2 [] rfl (by kernel_rfl) rfl rfl ?_ ?_
    · refine .cons (.plain rfl (ok_cmp (.tmp 0 rfl) (.lit) rfl)) ?_
      refine .cons (.plain rfl (ok_assign (.tmp 0 rfl))) ?_
      exact .nil
    clear H5 a5 w5 B5
    intro a8 w8 B8 H8
    refine ops_done ?_
    refine then_normal ?_
    refine f_cond H8 (.tmp 0 rfl) ?_ ?_
    · intro hc9
      replace hc9 := of_decide_eq_true hc9
      refine wp_seq ?_
      refine flow_region (dsts := [some 34, some 35, some 36, some 37, some 2]) (refs := [[.pre 1], [.res 0], [.res 1], [.res 2], [.res 3]]) (outs := [.res 4, .pre 1, .pre 3]) (als := [false, false, false, false, false]) (posts := [.ptr 37 8 (IsNum (.flt b)) 4, .val (Lit (.int .u64 b)), .val (U1 b), .val (IsOne (.nothing b)), .val (IsOne (.nothing b))])
        (out := [(2, .val (IsOne (.nothing b))), (1, .box 37 8 (IsNum (.flt b))), (42, .val (EnvV))]) (nb := []) H8 5 [] rfl (by kernel_rfl) rfl rfl ?_ ?_
      · refine .cons (.plain rfl (ok_addrV3 (.tmp 0 rfl))) ?_
        refine .cons (.plain rfl (ok_loadV3 (.tmp 0 rfl))) ?_
        refine .cons (.plain rfl (ok_buildN (.tmp 0 rfl))) ?_
        refine .cons (.plain rfl (ok_mkN (.tmp 0 rfl))) ?_
        refine .cons (.plain rfl (ok_assign (.tmp 0 rfl))) ?_
        exact .nil
      clear H8 a8 w8 B8
      intro a10 w10 B10 H10
      refine ops_done ?_
      refine then_normal ?_
      refine wp_ret ?_
      refine block_ret ?_
      refine then_ret ?_
      exact f_ret H10 rfl 0 rfl (fun v w B h => by refine one_eq ?_ h; unfold whatV oneF; simp [*])
    · intro hc9
      replace hc9 := of_decide_eq_false hc9
      refine wp_skip ?_
      refine block_normal ?_
      refine then_normal ?_
      refine wp_seq ?_
      refine flow_region (dsts := [some 38, some 39, some 40, some 41, some 2]) (refs := [[.pre 1], [.res 0], [.res 1], [.res 2], [.res 3]]) (outs := [.res 4, .pre 3]) (als := [false, false, false, false, false]) (posts := [.ptr 37 8 (IsNum (.flt b)) 4, .val (Lit (.int .u64 b)), .val (U1 b), .val (IsOne (.broken b)), .val (IsOne (.broken b))])
        (out := [(2, .val (IsOne (.broken b))), (42, .val (EnvV))]) (nb := []) H8 5 [] rfl (by kernel_rfl) rfl rfl ?_ ?_
      · refine .cons (.plain rfl (ok_addrV3 (.tmp 0 rfl))) ?_
        refine .cons (.plain rfl (ok_loadV3 (.tmp 0 rfl))) ?_
        refine .cons (.plain rfl (ok_buildB (.tmp 0 rfl))) ?_
        refine .cons (.plain rfl (ok_mkB (.tmp 0 rfl))) ?_
        refine .cons (.plain rfl (ok_assign (.tmp 0 rfl))) ?_
        exact .nil
      clear H8 a8 w8 B8
      intro a11 w11 B11 H11
      refine ops_done ?_
      refine then_normal ?_
      refine wp_ret ?_
      exact f_ret H11 rfl 0 rfl (fun v w B h => by refine one_eq ?_ h; unfold whatV oneF; simp [*])

theorem con_what (z : NV) (hz : okNV z) : ConE Tryz.prog 79 [IsNum z] (IsOne (whatV z)) := by cases z with | int X => exact con_whatI X | flt b => exact con_whatF b hz

set_option maxRecDepth 20000 in
set_option maxHeartbeats 2000000 in
theorem con_bitsEx (X : Int) : ConE Tryz.prog 245 [IsEx X] (Tup [Lit (.int .u64 (bitsO (.exact X)).1), IsB (bitsO (.exact X)).2]) := by
  refine f_enterE (N := 15) Tryz.ntmps245 (fun _ _ => by go_simp) Tryz.func245 rfl (by simp) ?_
  intro a0 w0 B0 H0
  replace H0 : St 15 w0 B0 a0 w0 B0 [(0, .val (IsEx X)), (15, .val (EnvV))] [] := H0
  refine wp_seq ?_
  refine flow_region (dsts := [some 1, some 2, some 3]) (refs := [[.pre 0], [], []]) (outs := [.res 0, .res 1, .res 2, .pre 1]) (als := [true, false, false]) (posts := [.box 166 2 (IsEx X), .val (Lit (.int .u64 0)), .val (IsB false)])
    (out := [(1, .box 166 2 (IsEx X)), (2, .val (Lit (.int .u64 0))), (3, .val (IsB false)), (15, .val (EnvV))]) (nb := [1]) H0 3 [] rfl (by kernel_rfl) rfl rfl ?_ ?_
  · refine .cons (.plain rfl (ok_box (.tmp 0 rfl) shape_Ex.two)) ?_
    refine .cons (.plain rfl (ok_assign (.lit))) ?_
    refine .cons (.plain rfl (ok_assign (.lit))) ?_
    exact .nil
  clear H0
  intro a1 w1 B1 H1
  simp only [List.cons_append, List.nil_append] at H1
  refine ops_done ?_
  refine then_normal ?_
  refine wp_seq ?_
  refine flow_region (dsts := [some 7, some 8, some 9, some 6, some 10, some 11, some 4, some 5]) (refs := [[.pre 0], [.res 0], [.res 1, .pre 3], [.res 2], [.res 3], [.res 3], [.res 4], [.res 5]]) (outs := [.res 6, .res 7, .pre 1, .pre 2, .pre 3]) (als := [false, false, false, false, false, false, false, false]) (posts := [.ptr 166 2 (IsEx X) 0, .val (IsI X), .val (Tup [Lit (.int .u64 ((fromW 64 X).1)), IsB ((fromW 64 X).2)]), .val (Tup [Lit (.int .u64 ((fromW 64 X).1)), IsB ((fromW 64 X).2)]), .val (Lit (.int .u64 ((fromW 64 X).1))), .val (IsB ((fromW 64 X).2)), .val (Lit (.int .u64 ((fromW 64 X).1))), .val (IsB ((fromW 64 X).2))])
    (out := [(4, .val (Lit (.int .u64 ((fromW 64 X).1)))), (5, .val (IsB ((fromW 64 X).2))), (2, .val (Lit (.int .u64 0))), (3, .val (IsB false)), (15, .val (EnvV))]) (nb := []) H1 8 [] rfl (by kernel_rfl) rfl rfl ?_ ?_
  · refine .cons (.plain rfl (ok_addrEx (.tmp 0 rfl))) ?_
    refine .cons (.plain rfl (ok_loadEx (.tmp 0 rfl))) ?_
    refine .cons (.plain rfl (ok_callE (con_ifrom64 X) 1 rfl (.cons (.weak (.tmp 0 rfl) weakIN) (.nil)))) ?_
    refine .cons (.plain rfl (ok_move (.tmp 0 rfl))) ?_
    refine .cons (.plain rfl (ok_extract 0 (.tmp 0 rfl) rfl)) ?_
    refine .cons (.plain rfl (ok_extract 1 (.tmp 0 rfl) rfl)) ?_
    refine .cons (.plain rfl (ok_assign (.tmp 0 rfl))) ?_
    refine .cons (.plain rfl (ok_assign (.tmp 0 rfl))) ?_
    exact .nil
  clear H1 a1 w1 B1
  intro a2 w2 B2 H2
  refine ops_done ?_
  refine then_normal ?_
  refine wp_seq ?_
  refine wp_seq ?_
  rcases (show (fromW 64 X).2 = true ∨ (fromW 64 X).2 = false by cases (fromW 64 X).2 <;> simp) with q | q
  · have eb3 : ((fromW 64 X).2) = true := q
    rw [eb3] at H2
    have e1 := congrArg Prod.fst (bits_yes q)
    have e2 := congrArg Prod.snd (bits_yes q)
    refine flow_region (dsts := [some 12, some 13]) (refs := [[.pre 1], [.res 0]]) (outs := [.res 1, .pre 0, .pre 2, .pre 3, .pre 4]) (als := [false, false]) (posts := [.val (IsB true), .val (IsB false)])
      (out := [(13, .val (IsB false)), (4, .val (Lit (.int .u64 ((fromW 64 X).1)))), (2, .val (Lit (.int .u64 0))), (3, .val (IsB false)), (15, .val (EnvV))]) (nb := []) H2 2 [] rfl (by kernel_rfl) rfl rfl ?_ ?_
    · refine .cons (.plain rfl (ok_move (.tmp 0 rfl))) ?_
      refine .cons (.plain rfl (ok_not (b := true) (.tmp 0 rfl))) ?_
      exact .nil
    clear H2 a2 w2 B2
    intro a4 w4 B4 H4
    refine ops_done ?_
    refine then_normal ?_
    refine f_condF H4 (.tmp 0 rfl) ?_
    refine wp_skip ?_
    refine then_normal ?_
    refine wp_seq ?_
    refine flow_region (dsts := [some 14, some 2, some 3]) (refs := [[.pre 1], [.res 0], []]) (outs := [.res 1, .res 2, .pre 4]) (als := [false, false, false]) (posts := [.val (Lit (.int .u64 ((fromW 64 X).1))), .val (Lit (.int .u64 ((fromW 64 X).1))), .val (IsB true)])
      (out := [(2, .val (Lit (.int .u64 ((fromW 64 X).1)))), (3, .val (IsB true)), (15, .val (EnvV))]) (nb := []) H4 3 [] rfl (by kernel_rfl) rfl rfl ?_ ?_
    · refine .cons (.plain rfl (ok_move (.tmp 0 rfl))) ?_
      refine .cons (.plain rfl (ok_assign (.tmp 0 rfl))) ?_
      refine .cons (.plain rfl (ok_assign (.lit))) ?_
      exact .nil
    clear H4 a4 w4 B4
    intro a5 w5 B5 H5
    refine ops_done ?_
    refine then_normal ?_
    refine wp_ret ?_
    exact f_retN H5 rfl rfl (.tmp 0 rfl (fun v w B h => by exact int_e e1.symm h) (.tmp 1 rfl (fun v w B h => by exact isB_e e2.symm h) (.nil)))
  · have eb6 : ((fromW 64 X).2) = false := q
    rw [eb6] at H2
    have e1 := congrArg Prod.fst (bits_no q)
    have e2 := congrArg Prod.snd (bits_no q)
    refine flow_region (dsts := [some 12, some 13]) (refs := [[.pre 1], [.res 0]]) (outs := [.res 1, .pre 0, .pre 2, .pre 3, .pre 4]) (als := [false, false]) (posts := [.val (IsB false), .val (IsB true)])
      (out := [(13, .val (IsB true)), (4, .val (Lit (.int .u64 ((fromW 64 X).1)))), (2, .val (Lit (.int .u64 0))), (3, .val (IsB false)), (15, .val (EnvV))]) (nb := []) H2 2 [] rfl (by kernel_rfl) rfl rfl ?_ ?_
    · refine .cons (.plain rfl (ok_move (.tmp 0 rfl))) ?_
      refine .cons (.plain rfl (ok_not (b := false) (.tmp 0 rfl))) ?_
      exact .nil
    clear H2 a2 w2 B2
    intro a7 w7 B7 H7
    refine ops_done ?_
    refine then_normal ?_
    refine f_condT H7 (.tmp 0 rfl) ?_
    refine wp_seq ?_
    refine flow_region (dsts := [some 2, some 3]) (refs := [[], []]) (outs := [.res 0, .res 1, .pre 1, .pre 4]) (als := [false, false]) (posts := [.val (Lit (.int .u64 0)), .val (IsB false)])
      (out := [(2, .val (Lit (.int .u64 0))), (3, .val (IsB false)), (4, .val (Lit (.int .u64 ((fromW 64 X).1)))), (15, .val (EnvV))]) (nb := []) H7 2 [] rfl (by kernel_rfl) rfl rfl ?_ ?_
    · refine .cons (.plain rfl (ok_assign (.lit))) ?_
      refine .cons (.plain rfl (ok_assign (.lit))) ?_
      exact .nil
    clear H7 a7 w7 B7
    intro a8 w8 B8 H8
    refine ops_done ?_
    refine then_normal ?_
    refine wp_ret ?_
    refine then_ret ?_
    exact f_retN H8 rfl rfl (.tmp 0 rfl (fun v w B h => by exact int_e e1.symm h) (.tmp 1 rfl (fun v w B h => by exact isB_e e2.symm h) (.nil)))

set_option maxRecDepth 20000 in
set_option maxHeartbeats 2000000 in
theorem con_bitsB (b : Int) : Con Tryz.prog 247 [U1 b] (Tup [Lit (.int .u64 b), IsB true]) := by
  refine f_enter (N := 6) Tryz.ntmps247 (fun _ _ => by go_simp) Tryz.func247 rfl (by simp) ?_
  intro a0 w0 B0 H0
  replace H0 : St 6 w0 B0 a0 w0 B0 [(0, .val (U1 b))] [] := H0
  refine wp_seq ?_
  refine flow_region (dsts := [some 1, some 2, some 3]) (refs := [[.pre 0], [], []]) (outs := [.res 0, .res 1, .res 2]) (als := [true, false, false]) (posts := [.box 167 1 (U1 b), .val (Lit (.int .u64 0)), .val (IsB false)])
    (out := [(1, .box 167 1 (U1 b)), (2, .val (Lit (.int .u64 0))), (3, .val (IsB false))]) (nb := [1]) H0 3 [] rfl (by kernel_rfl) rfl rfl ?_ ?_
  · refine .cons (.plain rfl (ok_box (.tmp 0 rfl) shape_U1.two)) ?_
    refine .cons (.plain rfl (ok_assign (.lit))) ?_
    refine .cons (.plain rfl (ok_assign (.lit))) ?_
    exact .nil
  clear H0
  intro a1 w1 B1 H1
  simp only [List.cons_append, List.nil_append] at H1
  refine ops_done ?_
  refine then_normal ?_
  refine wp_seq ?_
  refine flow_region (dsts := [some 4, some 5, some 2, some 3]) (refs := [[.pre 0], [.res 0], [.res 1], []]) (outs := [.res 2, .res 3]) (als := [false, false, false, false]) (posts := [.ptr 167 1 (U1 b) 0, .val (Lit (.int .u64 b)), .val (Lit (.int .u64 b)), .val (IsB true)])
    (out := [(2, .val (Lit (.int .u64 b))), (3, .val (IsB true))]) (nb := []) H1 4 [] rfl (by kernel_rfl) rfl rfl ?_ ?_
  · refine .cons (.plain rfl (ok_addrBr (.tmp 0 rfl))) ?_
    refine .cons (.plain rfl (ok_loadU1 (.tmp 0 rfl))) ?_
    refine .cons (.plain rfl (ok_assign (.tmp 0 rfl))) ?_
    refine .cons (.plain rfl (ok_assign (.lit))) ?_
    exact .nil
  clear H1 a1 w1 B1
  intro a2 w2 B2 H2
  refine ops_done ?_
  refine then_normal ?_
  refine wp_ret ?_
  exact f_retN H2 rfl rfl (.tmp 0 rfl (fun _ _ _ h => h) (.tmp 1 rfl (fun _ _ _ h => h) (.nil)))

set_option maxRecDepth 20000 in
set_option maxHeartbeats 2000000 in
theorem con_bitsE (b : Int) : Con Tryz.prog 243 [U1 b] (Tup [Lit (.int .u64 b), IsB true]) := by
  refine f_enter (N := 6) Tryz.ntmps243 (fun _ _ => by go_simp) Tryz.func243 rfl (by simp) ?_
  intro a0 w0 B0 H0
  replace H0 : St 6 w0 B0 a0 w0 B0 [(0, .val (U1 b))] [] := H0
  refine wp_seq ?_
  refine flow_region (dsts := [some 1, some 2, some 3]) (refs := [[.pre 0], [], []]) (outs := [.res 0, .res 1, .res 2]) (als := [true, false, false]) (posts := [.box 124 1 (U1 b), .val (Lit (.int .u64 0)), .val (IsB false)])
    (out := [(1, .box 124 1 (U1 b)), (2, .val (Lit (.int .u64 0))), (3, .val (IsB false))]) (nb := [1]) H0 3 [] rfl (by kernel_rfl) rfl rfl ?_ ?_
  · refine .cons (.plain rfl (ok_box (.tmp 0 rfl) shape_U1.two)) ?_
    refine .cons (.plain rfl (ok_assign (.lit))) ?_
    refine .cons (.plain rfl (ok_assign (.lit))) ?_
    exact .nil
  clear H0
  intro a1 w1 B1 H1
  simp only [List.cons_append, List.nil_append] at H1
  refine ops_done ?_
  refine then_normal ?_
  refine wp_seq ?_
  refine flow_region (dsts := [some 4, some 5, some 2, some 3]) (refs := [[.pre 0], [.res 0], [.res 1], []]) (outs := [.res 2, .res 3]) (als := [false, false, false, false]) (posts := [.ptr 124 1 (U1 b) 0, .val (Lit (.int .u64 b)), .val (Lit (.int .u64 b)), .val (IsB true)])
    (out := [(2, .val (Lit (.int .u64 b))), (3, .val (IsB true))]) (nb := []) H1 4 [] rfl (by kernel_rfl) rfl rfl ?_ ?_
  · refine .cons (.plain rfl (ok_addrEn (.tmp 0 rfl))) ?_
    refine .cons (.plain rfl (ok_loadU1 (.tmp 0 rfl))) ?_
    refine .cons (.plain rfl (ok_assign (.tmp 0 rfl))) ?_
    refine .cons (.plain rfl (ok_assign (.lit))) ?_
    exact .nil
  clear H1 a1 w1 B1
  intro a2 w2 B2 H2
  refine ops_done ?_
  refine then_normal ?_
  refine wp_ret ?_
  exact f_retN H2 rfl rfl (.tmp 0 rfl (fun _ _ _ h => h) (.tmp 1 rfl (fun _ _ _ h => h) (.nil)))

set_option maxRecDepth 20000 in
set_option maxHeartbeats 2000000 in
theorem con_bitsN (b : Int) : Con Tryz.prog 242 [U1 b] (Tup [Lit (.int .u64 b), IsB true]) := by
  refine f_enter (N := 6) Tryz.ntmps242 (fun _ _ => by go_simp) Tryz.func242 rfl (by simp) ?_
  intro a0 w0 B0 H0
  replace H0 : St 6 w0 B0 a0 w0 B0 [(0, .val (U1 b))] [] := H0
  refine wp_seq ?_
  refine flow_region (dsts := [some 1, some 2, some 3]) (refs := [[.pre 0], [], []]) (outs := [.res 0, .res 1, .res 2]) (als := [true, false, false]) (posts := [.box 123 1 (U1 b), .val (Lit (.int .u64 0)), .val (IsB false)])
    (out := [(1, .box 123 1 (U1 b)), (2, .val (Lit (.int .u64 0))), (3, .val (IsB false))]) (nb := [1]) H0 3 [] rfl (by kernel_rfl) rfl rfl ?_ ?_
  · refine .cons (.plain rfl (ok_box (.tmp 0 rfl) shape_U1.two)) ?_
    refine .cons (.plain rfl (ok_assign (.lit))) ?_
    refine .cons (.plain rfl (ok_assign (.lit))) ?_
    exact .nil
  clear H0
  intro a1 w1 B1 H1
  simp only [List.cons_append, List.nil_append] at H1
  refine ops_done ?_
  refine then_normal ?_
  refine wp_seq ?_
  refine flow_region (dsts := [some 4, some 5, some 2, some 3]) (refs := [[.pre 0], [.res 0], [.res 1], []]) (outs := [.res 2, .res 3]) (als := [false, false, false, false]) (posts := [.ptr 123 1 (U1 b) 0, .val (Lit (.int .u64 b)), .val (Lit (.int .u64 b)), .val (IsB true)])
    (out := [(2, .val (Lit (.int .u64 b))), (3, .val (IsB true))]) (nb := []) H1 4 [] rfl (by kernel_rfl) rfl rfl ?_ ?_
  · refine .cons (.plain rfl (ok_addrNo (.tmp 0 rfl))) ?_
    refine .cons (.plain rfl (ok_loadU1 (.tmp 0 rfl))) ?_
    refine .cons (.plain rfl (ok_assign (.tmp 0 rfl))) ?_
    refine .cons (.plain rfl (ok_assign (.lit))) ?_
    exact .nil
  clear H1 a1 w1 B1
  intro a2 w2 B2 H2
  refine ops_done ?_
  refine then_normal ?_
  refine wp_ret ?_
  exact f_retN H2 rfl rfl (.tmp 0 rfl (fun _ _ _ h => h) (.tmp 1 rfl (fun _ _ _ h => h) (.nil)))
end Go.Proofs.YtoimhjcpeifegaaGreatDoor

