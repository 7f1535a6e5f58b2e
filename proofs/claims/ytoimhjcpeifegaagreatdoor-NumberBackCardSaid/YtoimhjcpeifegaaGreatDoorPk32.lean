/- Contracts of functions, and plain facts, part 32. -/
import Derived.Test.YtoimhjcpeifegaaGreatDoorPk30
set_option linter.unusedVariables false
set_option linter.unusedSimpArgs false
/- VFloat. (Printed by flow15.py.) -/
namespace Go.Proofs.YtoimhjcpeifegaaGreatDoor
open Go Go.RowKit

/-- May the pattern be that of a VFloat? -/
noncomputable def fltB (b : Int) : Bool := if clsW 64 b = 5 then decide (b = 9221120237041090560) else if clsW 64 b = 4 then true else !intOk 64 b
/-- A number that may be. -/
def okNV : NV → Prop
  | .int _ => True
  | .flt b => (0 ≤ b ∧ b < 18446744073709551616) ∧ fltB b = true
theorem isB_e {a b : Bool} (e : a = b) {v : Value} {w : World} {B : Bx} (h : (IsB a).p v w B) : (IsB b).p v w B := e ▸ h
theorem int_e {k : IntKind} {a b : Int} (e : a = b) {v : Value} {w : World} {B : Bx} (h : (Lit (.int k a)).p v w B) : (Lit (.int k b)).p v w B := e ▸ h

set_option maxRecDepth 20000 in
set_option maxHeartbeats 2000000 in
theorem con_vfloat (x : Int) (hx : 0 ≤ x ∧ x < 18446744073709551616) : ConE Tryz.prog 151 [Lit (.int .u64 x)] (IsB (fltB x)) := by
  refine f_enterE (N := 20) Tryz.ntmps151 (fun _ _ => by go_simp) Tryz.func151 rfl (by simp) ?_
  intro a0 w0 B0 H0
  replace H0 : St 20 w0 B0 a0 w0 B0 [(0, .val (Lit (.int .u64 x))), (20, .val (EnvV))] [] := H0
  refine wp_seq ?_
  refine flow_region (dsts := [some 2]) (refs := [[]]) (outs := [.res 0, .pre 0, .pre 1]) (als := [false]) (posts := [.val (IsB false)])
    (out := [(2, .val (IsB false)), (0, .val (Lit (.int .u64 x))), (20, .val (EnvV))]) (nb := []) H0 1 [] rfl (by kernel_rfl) rfl rfl ?_ ?_
  · refine .cons (.plain rfl (ok_assign (.lit))) ?_
    exact .nil
  clear H0
  intro a1 w1 B1 H1
  refine ops_done ?_
  refine then_normal ?_
  refine wp_seq ?_
  refine wp_seq ?_
  refine flow_region (dsts := [some 5, some 6]) (refs := [[.pre 1], [.res 0, .pre 2]]) (outs := [.res 1, .pre 0, .pre 1, .pre 2]) (als := [false, false]) (posts := [.val (Lit (.int .u64 x)), .val (Lit (.int .i8 (clsW 64 x)))])
    (out := [(6, .val (Lit (.int .i8 (clsW 64 x)))), (2, .val (IsB false)), (0, .val (Lit (.int .u64 x))), (20, .val (EnvV))]) (nb := []) H1 2 [] rfl (by kernel_rfl) rfl rfl ?_ ?_
  · refine .cons (.plain rfl (ok_move (.tmp 0 rfl))) ?_
    refine .cons (.plain rfl (ok_callE (con_class64 x hx) 1 rfl (.cons (.tmp 0 rfl) (.nil)))) ?_
    exact .nil
  clear H1 a1 w1 B1
  intro a2 w2 B2 H2
  refine ops_done ?_
  refine then_normal ?_
  refine wp_block ?_
  refine wp_seq ?_
  refine flow_region (dsts := [some 8, some 7]) (refs := [[.pre 0], [.res 0]]) (outs := [.res 1, .pre 0, .pre 1, .pre 2, .pre 3]) (als := [false, false]) (posts := [.val (IsB (decide (clsW 64 x = 5))), .val (IsB (decide (clsW 64 x = 5)))])
    (out := [(7, .val (IsB (decide (clsW 64 x = 5)))), (6, .val (Lit (.int .i8 (clsW 64 x)))), (2, .val (IsB false)), (0, .val (Lit (.int .u64 x))), (20, .val (EnvV))]) (nb := []) H2 2 [] rfl (by kernel_rfl) rfl rfl ?_ ?_
  · refine .cons (.plain rfl (ok_cmp (.tmp 0 rfl) (.lit) rfl)) ?_
    refine .cons (.plain rfl (ok_assign (.tmp 0 rfl))) ?_
    exact .nil
  clear H2 a2 w2 B2
  intro a3 w3 B3 H3
  refine ops_done ?_
  refine then_normal ?_
  refine f_cond H3 (.tmp 0 rfl) ?_ ?_
  · intro hc4
    replace hc4 := of_decide_eq_true hc4
    refine wp_seq ?_
    refine flow_region (dsts := [some 9, some 10, some 2]) (refs := [[.pre 3], [.res 0], [.res 1]]) (outs := [.res 2, .pre 1, .pre 3, .pre 4]) (als := [false, false, false]) (posts := [.val (Lit (.int .u64 x)), .val (IsB (decide (x = 9221120237041090560))), .val (IsB (decide (x = 9221120237041090560)))])
      (out := [(2, .val (IsB (decide (x = 9221120237041090560)))), (6, .val (Lit (.int .i8 (clsW 64 x)))), (0, .val (Lit (.int .u64 x))), (20, .val (EnvV))]) (nb := []) H3 3 [] rfl (by kernel_rfl) rfl rfl ?_ ?_
    · refine .cons (.plain rfl (ok_move (.tmp 0 rfl))) ?_
      refine .cons (.plain rfl (ok_cmp (.tmp 0 rfl) (.lit) rfl)) ?_
      refine .cons (.plain rfl (ok_assign (.tmp 0 rfl))) ?_
      exact .nil
    clear H3 a3 w3 B3
    intro a5 w5 B5 H5
    refine ops_done ?_
    refine then_normal ?_
    refine wp_ret ?_
    refine block_ret ?_
    refine then_ret ?_
    exact f_ret H5 rfl 0 rfl (fun v w B h => by refine isB_e ?_ h; unfold fltB; simp [*])
  · intro hc4
    replace hc4 := of_decide_eq_false hc4
    refine wp_seq ?_
    refine flow_region (dsts := [some 12, some 11]) (refs := [[.pre 1], [.res 0]]) (outs := [.res 1, .pre 2, .pre 3, .pre 4]) (als := [false, false]) (posts := [.val (IsB (decide (clsW 64 x = 4))), .val (IsB (decide (clsW 64 x = 4)))])
      (out := [(11, .val (IsB (decide (clsW 64 x = 4)))), (2, .val (IsB false)), (0, .val (Lit (.int .u64 x))), (20, .val (EnvV))]) (nb := []) H3 2 [] rfl (by kernel_rfl) rfl rfl ?_ ?_
    · refine .cons (.plain rfl (ok_cmp (.tmp 0 rfl) (.lit) rfl)) ?_
      refine .cons (.plain rfl (ok_assign (.tmp 0 rfl))) ?_
      exact .nil
    clear H3 a3 w3 B3
    intro a6 w6 B6 H6
    refine ops_done ?_
    refine then_normal ?_
    refine f_cond H6 (.tmp 0 rfl) ?_ ?_
    · intro hc7
      replace hc7 := of_decide_eq_true hc7
      refine wp_seq ?_
      refine flow_region (dsts := [some 2]) (refs := [[]]) (outs := [.res 0, .pre 2, .pre 3]) (als := [false]) (posts := [.val (IsB true)])
        (out := [(2, .val (IsB true)), (0, .val (Lit (.int .u64 x))), (20, .val (EnvV))]) (nb := []) H6 1 [] rfl (by kernel_rfl) rfl rfl ?_ ?_
      · refine .cons (.plain rfl (ok_assign (.lit))) ?_
        exact .nil
      clear H6 a6 w6 B6
      intro a8 w8 B8 H8
      refine ops_done ?_
      refine then_normal ?_
      refine wp_ret ?_
      refine block_ret ?_
      refine then_ret ?_
      exact f_ret H8 rfl 0 rfl (fun v w B h => by refine isB_e ?_ h; unfold fltB; simp [*])
    · intro hc7
      replace hc7 := of_decide_eq_false hc7
      refine wp_skip ?_
      refine block_normal ?_
      refine then_normal ?_
      refine wp_seq ?_
      refine flow_region (dsts := [some 14, some 15, some 13, some 16, some 17, some 3]) (refs := [[.pre 2], [.res 0, .pre 3], [.res 1], [.res 2], [.res 2], []]) (outs := [.res 3, .res 4, .res 5, .pre 1, .pre 3]) (als := [false, false, false, false, false, true]) (posts := [.val (Lit (.int .u64 x)), .val (Tup [IsI (intN 64 x), IsB (intOk 64 x)]), .val (Tup [IsI (intN 64 x), IsB (intOk 64 x)]), .val (IsI (intN 64 x)), .val (IsB (intOk 64 x)), .box 34 2 (Zero2)])
        (out := [(16, .val (IsI (intN 64 x))), (17, .val (IsB (intOk 64 x))), (3, .box 34 2 (Zero2)), (2, .val (IsB false)), (20, .val (EnvV))]) (nb := [3]) H6 6 [6, 7] rfl (by kernel_rfl) rfl rfl ?_ ?_
      · refine .cons (.plain rfl (ok_move (.tmp 0 rfl))) ?_
        refine .cons (.plain rfl (ok_callE (con_iint64 x hx) 1 rfl (.cons (.tmp 0 rfl) (.nil)))) ?_
        refine .cons (.plain rfl (ok_move (.tmp 0 rfl))) ?_
        refine .cons (.plain rfl (ok_extract 0 (.tmp 0 rfl) rfl)) ?_
        refine .cons (.plain rfl (ok_extract 1 (.tmp 0 rfl) rfl)) ?_
        refine .cons (.plain rfl (ok_alloc (D := Zero2) zeroI rfl (fun _ _ => rfl))) ?_
        exact .nil
      clear H6 a6 w6 B6
      intro a9 w9 B9 H9
      simp only [List.cons_append, List.nil_append] at H9
      refine ops_one ?_
      refine store_op (l' := [(16, .val (IsI (intN 64 x))), (17, .val (IsB (intOk 64 x))), (3, .box 34 2 (IsI (intN 64 x))), (2, .val (IsB false)), (20, .val (EnvV))]) 2 H9 rfl tyI rfl (.tmp 0 rfl) shape_Z shape_I rfl rfl ?_
      clear H9 w9
      intro w10 H10
      refine ops_one ?_
      refine tail_op (D := .val (IsB (intOk 64 x))) (l' := [(4, .val (IsB (intOk 64 x))), (16, .val (IsI (intN 64 x))), (17, .val (IsB (intOk 64 x))), (3, .box 34 2 (IsI (intN 64 x))), (2, .val (IsB false)), (20, .val (EnvV))]) H10 rfl rfl rfl (.plain rfl (ok_assign (.tmp 1 rfl))) rfl rfl ?_
      clear H10 a9 w10 B9
      intro a11 w11 B11 H11
      refine ops_done ?_
      refine then_normal ?_
      refine wp_seq ?_
      refine flow_region (dsts := [some 18, some 19, some 2]) (refs := [[.pre 0], [.res 0], [.res 1]]) (outs := [.res 2, .pre 5]) (als := [false, false, false]) (posts := [.val (IsB (intOk 64 x)), .val (IsB (!(intOk 64 x))), .val (IsB (!(intOk 64 x)))])
        (out := [(2, .val (IsB (!(intOk 64 x)))), (20, .val (EnvV))]) (nb := []) H11 3 [] rfl (by kernel_rfl) rfl rfl ?_ ?_
      · refine .cons (.plain rfl (ok_move (.tmp 0 rfl))) ?_
        refine .cons (.plain rfl (ok_not (b := intOk 64 x) (.tmp 0 rfl))) ?_
        refine .cons (.plain rfl (ok_assign (.tmp 0 rfl))) ?_
        exact .nil
      clear H11 a11 w11 B11
      intro a12 w12 B12 H12
      refine ops_done ?_
      refine then_normal ?_
      refine wp_ret ?_
      exact f_ret H12 rfl 0 rfl (fun v w B h => by refine isB_e ?_ h; unfold fltB; simp [*])

set_option maxRecDepth 20000 in
set_option maxHeartbeats 2000000 in
theorem con_containerI (X : Int) : Con Tryz.prog 103 [IsNum (.int X)] (IsB false) := by
  refine f_enter (N := 16) Tryz.ntmps103 (fun _ _ => by go_simp) Tryz.func103 rfl (by simp) ?_
  intro a0 w0 B0 H0
  replace H0 : St 16 w0 B0 a0 w0 B0 [(0, .val (IsNum (.int X)))] [] := H0
  refine wp_seq ?_
  refine flow_region (dsts := [some 1, some 2]) (refs := [[.pre 0], []]) (outs := [.res 0, .res 1]) (als := [true, false]) (posts := [.box 37 8 (IsNum (.int X)), .val (IsB false)])
    (out := [(1, .box 37 8 (IsNum (.int X))), (2, .val (IsB false))]) (nb := [1]) H0 2 [] rfl (by kernel_rfl) rfl rfl ?_ ?_
  · refine .cons (.plain rfl (ok_box (.tmp 0 rfl) shape_Num.two)) ?_
    refine .cons (.plain rfl (ok_assign (.lit))) ?_
    exact .nil
  clear H0
  intro a1 w1 B1 H1
  simp only [List.cons_append, List.nil_append] at H1
  refine ops_done ?_
  refine then_normal ?_
  refine wp_seq ?_
  refine flow_region (dsts := [some 3, some 4, some 5, some 6, some 7, some 8, some 9, some 10, some 11, some 12, some 13, some 14, some 15, some 2]) (refs := [[.pre 0], [.res 0], [.res 1], [.res 2], [.res 3, .pre 0], [.res 3, .res 4], [.res 3, .res 5], [.res 3, .res 6], [.res 7], [.res 8, .pre 0], [.res 8, .res 9], [.res 8, .res 10], [.res 8, .res 11], [.res 12]]) (outs := [.res 13]) (als := [false, false, false, false, false, false, false, false, false, false, false, false, false, false]) (posts := [.ptr 37 8 (IsNum (.int X)) 0, .val (Lit (.int .i8 3)), .val (IsB false), .val (IsB false), .ptr 37 8 (IsNum (.int X)) 0, .val (Lit (.int .i8 3)), .val (IsB false), .val (IsB false), .val (IsB false), .ptr 37 8 (IsNum (.int X)) 0, .val (Lit (.int .i8 3)), .val (IsB false), .val (IsB false), .val (IsB false)])
    (out := [(2, .val (IsB false))]) (nb := []) H1 14 [] rfl (by kernel_rfl) rfl rfl ?_ ?_
  · refine .cons (.plain rfl (ok_addrV0 (.tmp 0 rfl))) ?_
    refine .cons (.plain rfl (ok_loadV0 (.tmp 0 rfl))) ?_
    refine .cons (.plain rfl (ok_cmp (b := false) (.tmp 0 rfl) (.lit) (by decide))) ?_
    refine .cons (.plain rfl (ok_move (.tmp 0 rfl))) ?_
    refine .cons (.wanted 3 false rfl rfl rfl 0 rfl (ok_addrV0 (.tmp 1 rfl))) ?_
    refine .cons (.wanted 3 false rfl rfl rfl 0 rfl (ok_loadV0 (.tmp 1 rfl))) ?_
    refine .cons (.wanted 3 false rfl rfl rfl 0 rfl (ok_cmp (b := false) (.tmp 1 rfl) (.lit) (by decide))) ?_
    refine .cons (.plain rfl (ok_pickF (.tmp 0 rfl) (.tmp 1 rfl))) ?_
    refine .cons (.plain rfl (ok_move (.tmp 0 rfl))) ?_
    refine .cons (.wanted 8 false rfl rfl rfl 0 rfl (ok_addrV0 (.tmp 1 rfl))) ?_
    refine .cons (.wanted 8 false rfl rfl rfl 0 rfl (ok_loadV0 (.tmp 1 rfl))) ?_
    refine .cons (.wanted 8 false rfl rfl rfl 0 rfl (ok_cmp (b := false) (.tmp 1 rfl) (.lit) (by decide))) ?_
    refine .cons (.plain rfl (ok_pickF (.tmp 0 rfl) (.tmp 1 rfl))) ?_
    refine .cons (.plain rfl (ok_assign (.tmp 0 rfl))) ?_
    exact .nil
  clear H1 a1 w1 B1
  intro a2 w2 B2 H2
  refine ops_done ?_
  refine then_normal ?_
  refine wp_ret ?_
  exact f_ret H2 rfl 0 rfl (fun _ _ _ h => h)

set_option maxRecDepth 20000 in
set_option maxHeartbeats 2000000 in
theorem con_containerF (b : Int) : Con Tryz.prog 103 [IsNum (.flt b)] (IsB false) := by
  refine f_enter (N := 16) Tryz.ntmps103 (fun _ _ => by go_simp) Tryz.func103 rfl (by simp) ?_
  intro a0 w0 B0 H0
  replace H0 : St 16 w0 B0 a0 w0 B0 [(0, .val (IsNum (.flt b)))] [] := H0
  refine wp_seq ?_
  refine flow_region (dsts := [some 1, some 2]) (refs := [[.pre 0], []]) (outs := [.res 0, .res 1]) (als := [true, false]) (posts := [.box 37 8 (IsNum (.flt b)), .val (IsB false)])
    (out := [(1, .box 37 8 (IsNum (.flt b))), (2, .val (IsB false))]) (nb := [1]) H0 2 [] rfl (by kernel_rfl) rfl rfl ?_ ?_
  · refine .cons (.plain rfl (ok_box (.tmp 0 rfl) shape_Num.two)) ?_
    refine .cons (.plain rfl (ok_assign (.lit))) ?_
    exact .nil
  clear H0
  intro a1 w1 B1 H1
  simp only [List.cons_append, List.nil_append] at H1
  refine ops_done ?_
  refine then_normal ?_
  refine wp_seq ?_
  refine flow_region (dsts := [some 3, some 4, some 5, some 6, some 7, some 8, some 9, some 10, some 11, some 12, some 13, some 14, some 15, some 2]) (refs := [[.pre 0], [.res 0], [.res 1], [.res 2], [.res 3, .pre 0], [.res 3, .res 4], [.res 3, .res 5], [.res 3, .res 6], [.res 7], [.res 8, .pre 0], [.res 8, .res 9], [.res 8, .res 10], [.res 8, .res 11], [.res 12]]) (outs := [.res 13]) (als := [false, false, false, false, false, false, false, false, false, false, false, false, false, false]) (posts := [.ptr 37 8 (IsNum (.flt b)) 0, .val (Lit (.int .i8 4)), .val (IsB false), .val (IsB false), .ptr 37 8 (IsNum (.flt b)) 0, .val (Lit (.int .i8 4)), .val (IsB false), .val (IsB false), .val (IsB false), .ptr 37 8 (IsNum (.flt b)) 0, .val (Lit (.int .i8 4)), .val (IsB false), .val (IsB false), .val (IsB false)])
    (out := [(2, .val (IsB false))]) (nb := []) H1 14 [] rfl (by kernel_rfl) rfl rfl ?_ ?_
  · refine .cons (.plain rfl (ok_addrV0 (.tmp 0 rfl))) ?_
    refine .cons (.plain rfl (ok_loadV0 (.tmp 0 rfl))) ?_
    refine .cons (.plain rfl (ok_cmp (b := false) (.tmp 0 rfl) (.lit) (by decide))) ?_
    refine .cons (.plain rfl (ok_move (.tmp 0 rfl))) ?_
    refine .cons (.wanted 3 false rfl rfl rfl 0 rfl (ok_addrV0 (.tmp 1 rfl))) ?_
    refine .cons (.wanted 3 false rfl rfl rfl 0 rfl (ok_loadV0 (.tmp 1 rfl))) ?_
    refine .cons (.wanted 3 false rfl rfl rfl 0 rfl (ok_cmp (b := false) (.tmp 1 rfl) (.lit) (by decide))) ?_
    refine .cons (.plain rfl (ok_pickF (.tmp 0 rfl) (.tmp 1 rfl))) ?_
    refine .cons (.plain rfl (ok_move (.tmp 0 rfl))) ?_
    refine .cons (.wanted 8 false rfl rfl rfl 0 rfl (ok_addrV0 (.tmp 1 rfl))) ?_
    refine .cons (.wanted 8 false rfl rfl rfl 0 rfl (ok_loadV0 (.tmp 1 rfl))) ?_
    refine .cons (.wanted 8 false rfl rfl rfl 0 rfl (ok_cmp (b := false) (.tmp 1 rfl) (.lit) (by decide))) ?_
    refine .cons (.plain rfl (ok_pickF (.tmp 0 rfl) (.tmp 1 rfl))) ?_
    refine .cons (.plain rfl (ok_assign (.tmp 0 rfl))) ?_
    exact .nil
  clear H1 a1 w1 B1
  intro a2 w2 B2 H2
  refine ops_done ?_
  refine then_normal ?_
  refine wp_ret ?_
  exact f_ret H2 rfl 0 rfl (fun _ _ _ h => h)

theorem con_container (z : NV) : Con Tryz.prog 103 [IsNum z] (IsB false) := by cases z with | int X => exact con_containerI X | flt b => exact con_containerF b
end Go.Proofs.YtoimhjcpeifegaaGreatDoor

