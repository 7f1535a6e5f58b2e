/- Contracts of functions, and plain facts, part 30. -/
import Derived.Test.YtoimhjcpeifegaaGreatDoorPk29
set_option linter.unusedVariables false
set_option linter.unusedSimpArgs false
/- VOf. (Printed by flow15.py.) -/
namespace Go.Proofs.YtoimhjcpeifegaaGreatDoor
open Go Go.RowKit

/-- What the pattern x of W bits is as a value. -/
noncomputable def ofV (W : Nat) (x : Int) : NV := if intOk W x = true then .int (intN W x) else .flt (toW 64 W x).1
theorem of_yes {W : Nat} {x : Int} (h : intOk W x = true) : ofV W x = .int (intN W x) := if_pos h
theorem of_no {W : Nat} {x : Int} (h : intOk W x = false) : ofV W x = .flt (toW 64 W x).1 := if_neg (by rw [h]; exact Bool.false_ne_true)
theorem num_eq {z z' : NV} (e : z = z') {v : Value} {w : World} {B : Bx} (h : (IsNum z).p v w B) : (IsNum z').p v w B := e ▸ h

set_option maxRecDepth 20000 in
set_option maxHeartbeats 2000000 in
theorem con_of64 (x : Int) (hx : 0 ≤ x ∧ x < 18446744073709551616) : ConE Tryz.prog 15 [Lit (.int .u64 x)] (IsNum (ofV 64 x)) := by
  refine f_enterE (N := 22) Tryz.ntmps15 (fun _ _ => by go_simp) Tryz.func15 rfl (by simp) ?_
  intro a0 w0 B0 H0
  replace H0 : St 22 w0 B0 a0 w0 B0 [(0, .val (Lit (.int .u64 x))), (22, .val (EnvV))] [] := H0
  refine wp_seq ?_
  refine flow_region (dsts := [some 2]) (refs := [[]]) (outs := [.res 0, .pre 0, .pre 1]) (als := [true]) (posts := [.box 37 8 (IsVal 0 0 (IsI 0) 0 0 (⟨#[]⟩) (K0))])
    (out := [(2, .box 37 8 (IsVal 0 0 (IsI 0) 0 0 (⟨#[]⟩) (K0))), (0, .val (Lit (.int .u64 x))), (22, .val (EnvV))]) (nb := [2]) H0 1 [] rfl (by kernel_rfl) rfl rfl ?_ ?_
  · refine .cons (.plain rfl (ok_allocV)) ?_
    exact .nil
  clear H0
  intro a1 w1 B1 H1
  simp only [List.cons_append, List.nil_append] at H1
  refine ops_done ?_
  refine then_normal ?_
  refine wp_seq ?_
  refine wp_seq ?_
  refine flow_region (dsts := [some 8, some 9, some 7, some 10, some 11, some 3]) (refs := [[.pre 1], [.res 0, .pre 2], [.res 1], [.res 2], [.res 2], []]) (outs := [.res 3, .res 4, .res 5, .pre 0, .pre 1, .pre 2]) (als := [false, false, false, false, false, true]) (posts := [.val (Lit (.int .u64 x)), .val (Tup [IsI (intN 64 x), IsB (intOk 64 x)]), .val (Tup [IsI (intN 64 x), IsB (intOk 64 x)]), .val (IsI (intN 64 x)), .val (IsB (intOk 64 x)), .box 34 2 (Zero2)])
    (out := [(10, .val (IsI (intN 64 x))), (11, .val (IsB (intOk 64 x))), (3, .box 34 2 (Zero2)), (2, .box 37 8 (IsVal 0 0 (IsI 0) 0 0 (⟨#[]⟩) (K0))), (0, .val (Lit (.int .u64 x))), (22, .val (EnvV))]) (nb := [3]) H1 6 [6, 7] rfl (by kernel_rfl) rfl rfl ?_ ?_
  · refine .cons (.plain rfl (ok_move (.tmp 0 rfl))) ?_
    refine .cons (.plain rfl (ok_callE (con_iint64 x hx) 1 rfl (.cons (.tmp 0 rfl) (.nil)))) ?_
    refine .cons (.plain rfl (ok_move (.tmp 0 rfl))) ?_
    refine .cons (.plain rfl (ok_extract 0 (.tmp 0 rfl) rfl)) ?_
    refine .cons (.plain rfl (ok_extract 1 (.tmp 0 rfl) rfl)) ?_
    refine .cons (.plain rfl (ok_alloc (D := Zero2) zeroI rfl (fun _ _ => rfl))) ?_
    exact .nil
  clear H1 a1 w1 B1
  intro a2 w2 B2 H2
  simp only [List.cons_append, List.nil_append] at H2
  refine ops_one ?_
  refine store_op (l' := [(10, .val (IsI (intN 64 x))), (11, .val (IsB (intOk 64 x))), (3, .box 34 2 (IsI (intN 64 x))), (2, .box 37 8 (IsVal 0 0 (IsI 0) 0 0 (⟨#[]⟩) (K0))), (0, .val (Lit (.int .u64 x))), (22, .val (EnvV))]) 2 H2 rfl tyI rfl (.tmp 0 rfl) shape_Z shape_I rfl rfl ?_
  clear H2 w2
  intro w3 H3
  refine ops_one ?_
  refine tail_op (D := .val (IsB (intOk 64 x))) (l' := [(4, .val (IsB (intOk 64 x))), (10, .val (IsI (intN 64 x))), (11, .val (IsB (intOk 64 x))), (3, .box 34 2 (IsI (intN 64 x))), (2, .box 37 8 (IsVal 0 0 (IsI 0) 0 0 (⟨#[]⟩) (K0))), (0, .val (Lit (.int .u64 x))), (22, .val (EnvV))]) H3 rfl rfl rfl (.plain rfl (ok_assign (.tmp 1 rfl))) rfl rfl ?_
  clear H3 a2 w3 B2
  intro a4 w4 B4 H4
  refine ops_done ?_
  refine then_normal ?_
  refine wp_seq ?_
  refine flow_region (dsts := [some 12]) (refs := [[.pre 0]]) (outs := [.res 0, .pre 3, .pre 4, .pre 5, .pre 6]) (als := [false]) (posts := [.val (IsB (intOk 64 x))])
    (out := [(12, .val (IsB (intOk 64 x))), (3, .box 34 2 (IsI (intN 64 x))), (2, .box 37 8 (IsVal 0 0 (IsI 0) 0 0 (⟨#[]⟩) (K0))), (0, .val (Lit (.int .u64 x))), (22, .val (EnvV))]) (nb := []) H4 1 [] rfl (by kernel_rfl) rfl rfl ?_ ?_
  · refine .cons (.plain rfl (ok_move (.tmp 0 rfl))) ?_
    exact .nil
  clear H4 a4 w4 B4
  intro a5 w5 B5 H5
  refine ops_done ?_
  refine then_normal ?_
  refine f_cond H5 (.tmp 0 rfl) ?_ ?_
  · intro hc6
    refine wp_seq ?_
    refine flow_region (dsts := [some 13, some 14]) (refs := [[.pre 1], [.res 0]]) (outs := [.res 1, .pre 2, .pre 3, .pre 4]) (als := [false, false]) (posts := [.val (IsI (intN 64 x)), .val (IsNum (.int (intN 64 x)))])
      (out := [(14, .val (IsNum (.int (intN 64 x)))), (2, .box 37 8 (IsVal 0 0 (IsI 0) 0 0 (⟨#[]⟩) (K0))), (0, .val (Lit (.int .u64 x))), (22, .val (EnvV))]) (nb := []) H5 2 [2] rfl (by kernel_rfl) rfl rfl ?_ ?_
    · refine .cons (.plain rfl (ok_load tyI (.tmp 0 rfl))) ?_
      refine .cons (.plain rfl (ok_buildVI (k := 3) (.lit) (.tmp 0 rfl) shape_I)) ?_
      exact .nil
    clear H5 a5 w5 B5
    intro a7 w7 B7 H7
    refine ops_one ?_
    refine store_op (l' := [(14, .val (IsNum (.int (intN 64 x)))), (2, .box 37 8 (IsNum (.int (intN 64 x)))), (0, .val (Lit (.int .u64 x))), (22, .val (EnvV))]) 1 H7 rfl tyV rfl (.tmp 0 rfl) (shape_Val shape_I oneK0) shape_Num rfl rfl ?_
    clear H7 w7
    intro w8 H8
    refine ops_done ?_
    refine then_normal ?_
    refine wp_ret ?_
    refine then_ret ?_
    exact f_retC H8 tyV rfl 1 rfl (fun v w B h => by exact num_eq (of_yes hc6).symm h)
  · intro hc6
    refine wp_skip ?_
    refine then_normal ?_
    refine wp_seq ?_
    refine flow_region (dsts := [some 16, some 17, some 15, some 18, some 19, some 5, some 6]) (refs := [[.pre 3], [.res 0, .pre 4], [.res 1], [.res 2], [.res 2], [.res 3], [.res 4]]) (outs := [.res 5, .pre 2, .pre 4]) (als := [false, false, false, false, false, false, false]) (posts := [.val (Lit (.int .u64 x)), .val (Tup [Lit (.int .u64 ((toW 64 64 x).1)), IsB ((toW 64 64 x).2)]), .val (Tup [Lit (.int .u64 ((toW 64 64 x).1)), IsB ((toW 64 64 x).2)]), .val (Lit (.int .u64 ((toW 64 64 x).1))), .val (IsB ((toW 64 64 x).2)), .val (Lit (.int .u64 ((toW 64 64 x).1))), .val (IsB ((toW 64 64 x).2))])
      (out := [(5, .val (Lit (.int .u64 ((toW 64 64 x).1)))), (2, .box 37 8 (IsVal 0 0 (IsI 0) 0 0 (⟨#[]⟩) (K0))), (22, .val (EnvV))]) (nb := []) H5 7 [] rfl (by kernel_rfl) rfl rfl ?_ ?_
    · refine .cons (.plain rfl (ok_move (.tmp 0 rfl))) ?_
      refine .cons (.plain rfl (ok_callE (con_to6464 x hx) 1 rfl (.cons (.tmp 0 rfl) (.nil)))) ?_
      refine .cons (.plain rfl (ok_move (.tmp 0 rfl))) ?_
      refine .cons (.plain rfl (ok_extract 0 (.tmp 0 rfl) rfl)) ?_
      refine .cons (.plain rfl (ok_extract 1 (.tmp 0 rfl) rfl)) ?_
      refine .cons (.plain rfl (ok_assign (.tmp 0 rfl))) ?_
      refine .cons (.plain rfl (ok_assign (.tmp 0 rfl))) ?_
      exact .nil
    clear H5 a5 w5 B5
    intro a9 w9 B9 H9
    refine ops_done ?_
    refine then_normal ?_
    refine wp_seq ?_
    refine flow_region (dsts := [some 20, some 21]) (refs := [[.pre 0], [.res 0]]) (outs := [.res 1, .pre 1, .pre 2]) (als := [false, false]) (posts := [.val (Lit (.int .u64 ((toW 64 64 x).1))), .val (IsNum (.flt ((toW 64 64 x).1)))])
      (out := [(21, .val (IsNum (.flt ((toW 64 64 x).1)))), (2, .box 37 8 (IsVal 0 0 (IsI 0) 0 0 (⟨#[]⟩) (K0))), (22, .val (EnvV))]) (nb := []) H9 2 [2] rfl (by kernel_rfl) rfl rfl ?_ ?_
    · refine .cons (.plain rfl (ok_move (.tmp 0 rfl))) ?_
      refine .cons (.plain rfl (ok_buildVF (k := 4) (.lit) (.tmp 0 rfl))) ?_
      exact .nil
    clear H9 a9 w9 B9
    intro a10 w10 B10 H10
    refine ops_one ?_
    refine store_op (l' := [(21, .val (IsNum (.flt ((toW 64 64 x).1)))), (2, .box 37 8 (IsNum (.flt ((toW 64 64 x).1)))), (22, .val (EnvV))]) 1 H10 rfl tyV rfl (.tmp 0 rfl) (shape_Val shape_I oneK0) shape_Num rfl rfl ?_
    clear H10 w10
    intro w11 H11
    refine ops_done ?_
    refine then_normal ?_
    refine wp_ret ?_
    exact f_retC H11 tyV rfl 1 rfl (fun v w B h => by exact num_eq (of_no hc6).symm h)

set_option maxRecDepth 20000 in
set_option maxHeartbeats 2000000 in
theorem con_of32 (x : Int) (hx : 0 ≤ x ∧ x < 4294967296) : ConE Tryz.prog 18 [Lit (.int .u32 x)] (IsNum (ofV 32 x)) := by
  refine f_enterE (N := 22) Tryz.ntmps18 (fun _ _ => by go_simp) Tryz.func18 rfl (by simp) ?_
  intro a0 w0 B0 H0
  replace H0 : St 22 w0 B0 a0 w0 B0 [(0, .val (Lit (.int .u32 x))), (22, .val (EnvV))] [] := H0
  refine wp_seq ?_
  refine flow_region (dsts := [some 2]) (refs := [[]]) (outs := [.res 0, .pre 0, .pre 1]) (als := [true]) (posts := [.box 37 8 (IsVal 0 0 (IsI 0) 0 0 (⟨#[]⟩) (K0))])
    (out := [(2, .box 37 8 (IsVal 0 0 (IsI 0) 0 0 (⟨#[]⟩) (K0))), (0, .val (Lit (.int .u32 x))), (22, .val (EnvV))]) (nb := [2]) H0 1 [] rfl (by kernel_rfl) rfl rfl ?_ ?_
  · refine .cons (.plain rfl (ok_allocV)) ?_
    exact .nil
  clear H0
  intro a1 w1 B1 H1
  simp only [List.cons_append, List.nil_append] at H1
  refine ops_done ?_
  refine then_normal ?_
  refine wp_seq ?_
  refine wp_seq ?_
  refine flow_region (dsts := [some 8, some 9, some 7, some 10, some 11, some 3]) (refs := [[.pre 1], [.res 0, .pre 2], [.res 1], [.res 2], [.res 2], []]) (outs := [.res 3, .res 4, .res 5, .pre 0, .pre 1, .pre 2]) (als := [false, false, false, false, false, true]) (posts := [.val (Lit (.int .u32 x)), .val (Tup [IsI (intN 32 x), IsB (intOk 32 x)]), .val (Tup [IsI (intN 32 x), IsB (intOk 32 x)]), .val (IsI (intN 32 x)), .val (IsB (intOk 32 x)), .box 34 2 (Zero2)])
    (out := [(10, .val (IsI (intN 32 x))), (11, .val (IsB (intOk 32 x))), (3, .box 34 2 (Zero2)), (2, .box 37 8 (IsVal 0 0 (IsI 0) 0 0 (⟨#[]⟩) (K0))), (0, .val (Lit (.int .u32 x))), (22, .val (EnvV))]) (nb := [3]) H1 6 [6, 7] rfl (by kernel_rfl) rfl rfl ?_ ?_
  · refine .cons (.plain rfl (ok_move (.tmp 0 rfl))) ?_
    refine .cons (.plain rfl (ok_callE (con_iint32 x hx) 1 rfl (.cons (.tmp 0 rfl) (.nil)))) ?_
    refine .cons (.plain rfl (ok_move (.tmp 0 rfl))) ?_
    refine .cons (.plain rfl (ok_extract 0 (.tmp 0 rfl) rfl)) ?_
    refine .cons (.plain rfl (ok_extract 1 (.tmp 0 rfl) rfl)) ?_
    refine .cons (.plain rfl (ok_alloc (D := Zero2) zeroI rfl (fun _ _ => rfl))) ?_
    exact .nil
  clear H1 a1 w1 B1
  intro a2 w2 B2 H2
  simp only [List.cons_append, List.nil_append] at H2
  refine ops_one ?_
  refine store_op (l' := [(10, .val (IsI (intN 32 x))), (11, .val (IsB (intOk 32 x))), (3, .box 34 2 (IsI (intN 32 x))), (2, .box 37 8 (IsVal 0 0 (IsI 0) 0 0 (⟨#[]⟩) (K0))), (0, .val (Lit (.int .u32 x))), (22, .val (EnvV))]) 2 H2 rfl tyI rfl (.tmp 0 rfl) shape_Z shape_I rfl rfl ?_
  clear H2 w2
  intro w3 H3
  refine ops_one ?_
  refine tail_op (D := .val (IsB (intOk 32 x))) (l' := [(4, .val (IsB (intOk 32 x))), (10, .val (IsI (intN 32 x))), (11, .val (IsB (intOk 32 x))), (3, .box 34 2 (IsI (intN 32 x))), (2, .box 37 8 (IsVal 0 0 (IsI 0) 0 0 (⟨#[]⟩) (K0))), (0, .val (Lit (.int .u32 x))), (22, .val (EnvV))]) H3 rfl rfl rfl (.plain rfl (ok_assign (.tmp 1 rfl))) rfl rfl ?_
  clear H3 a2 w3 B2
  intro a4 w4 B4 H4
  refine ops_done ?_
  refine then_normal ?_
  refine wp_seq ?_
  refine flow_region (dsts := [some 12]) (refs := [[.pre 0]]) (outs := [.res 0, .pre 3, .pre 4, .pre 5, .pre 6]) (als := [false]) (posts := [.val (IsB (intOk 32 x))])
    (out := [(12, .val (IsB (intOk 32 x))), (3, .box 34 2 (IsI (intN 32 x))), (2, .box 37 8 (IsVal 0 0 (IsI 0) 0 0 (⟨#[]⟩) (K0))), (0, .val (Lit (.int .u32 x))), (22, .val (EnvV))]) (nb := []) H4 1 [] rfl (by kernel_rfl) rfl rfl ?_ ?_
  · refine .cons (.plain rfl (ok_move (.tmp 0 rfl))) ?_
    exact .nil
  clear H4 a4 w4 B4
  intro a5 w5 B5 H5
  refine ops_done ?_
  refine then_normal ?_
  refine f_cond H5 (.tmp 0 rfl) ?_ ?_
  · intro hc6
    refine wp_seq ?_
    refine flow_region (dsts := [some 13, some 14]) (refs := [[.pre 1], [.res 0]]) (outs := [.res 1, .pre 2, .pre 3, .pre 4]) (als := [false, false]) (posts := [.val (IsI (intN 32 x)), .val (IsNum (.int (intN 32 x)))])
      (out := [(14, .val (IsNum (.int (intN 32 x)))), (2, .box 37 8 (IsVal 0 0 (IsI 0) 0 0 (⟨#[]⟩) (K0))), (0, .val (Lit (.int .u32 x))), (22, .val (EnvV))]) (nb := []) H5 2 [2] rfl (by kernel_rfl) rfl rfl ?_ ?_
    · refine .cons (.plain rfl (ok_load tyI (.tmp 0 rfl))) ?_
      refine .cons (.plain rfl (ok_buildVI (k := 3) (.lit) (.tmp 0 rfl) shape_I)) ?_
      exact .nil
    clear H5 a5 w5 B5
    intro a7 w7 B7 H7
    refine ops_one ?_
    refine store_op (l' := [(14, .val (IsNum (.int (intN 32 x)))), (2, .box 37 8 (IsNum (.int (intN 32 x)))), (0, .val (Lit (.int .u32 x))), (22, .val (EnvV))]) 1 H7 rfl tyV rfl (.tmp 0 rfl) (shape_Val shape_I oneK0) shape_Num rfl rfl ?_
    clear H7 w7
    intro w8 H8
    refine ops_done ?_
    refine then_normal ?_
    refine wp_ret ?_
    refine then_ret ?_
    exact f_retC H8 tyV rfl 1 rfl (fun v w B h => by exact num_eq (of_yes hc6).symm h)
  · intro hc6
    refine wp_skip ?_
    refine then_normal ?_
    refine wp_seq ?_
    refine flow_region (dsts := [some 16, some 17, some 15, some 18, some 19, some 5, some 6]) (refs := [[.pre 3], [.res 0, .pre 4], [.res 1], [.res 2], [.res 2], [.res 3], [.res 4]]) (outs := [.res 5, .pre 2, .pre 4]) (als := [false, false, false, false, false, false, false]) (posts := [.val (Lit (.int .u32 x)), .val (Tup [Lit (.int .u64 ((toW 64 32 x).1)), IsB ((toW 64 32 x).2)]), .val (Tup [Lit (.int .u64 ((toW 64 32 x).1)), IsB ((toW 64 32 x).2)]), .val (Lit (.int .u64 ((toW 64 32 x).1))), .val (IsB ((toW 64 32 x).2)), .val (Lit (.int .u64 ((toW 64 32 x).1))), .val (IsB ((toW 64 32 x).2))])
      (out := [(5, .val (Lit (.int .u64 ((toW 64 32 x).1)))), (2, .box 37 8 (IsVal 0 0 (IsI 0) 0 0 (⟨#[]⟩) (K0))), (22, .val (EnvV))]) (nb := []) H5 7 [] rfl (by kernel_rfl) rfl rfl ?_ ?_
    · refine .cons (.plain rfl (ok_move (.tmp 0 rfl))) ?_
      refine .cons (.plain rfl (ok_callE (con_to6432 x hx) 1 rfl (.cons (.tmp 0 rfl) (.nil)))) ?_
      refine .cons (.plain rfl (ok_move (.tmp 0 rfl))) ?_
      refine .cons (.plain rfl (ok_extract 0 (.tmp 0 rfl) rfl)) ?_
      refine .cons (.plain rfl (ok_extract 1 (.tmp 0 rfl) rfl)) ?_
      refine .cons (.plain rfl (ok_assign (.tmp 0 rfl))) ?_
      refine .cons (.plain rfl (ok_assign (.tmp 0 rfl))) ?_
      exact .nil
    clear H5 a5 w5 B5
    intro a9 w9 B9 H9
    refine ops_done ?_
    refine then_normal ?_
    refine wp_seq ?_
    refine flow_region (dsts := [some 20, some 21]) (refs := [[.pre 0], [.res 0]]) (outs := [.res 1, .pre 1, .pre 2]) (als := [false, false]) (posts := [.val (Lit (.int .u64 ((toW 64 32 x).1))), .val (IsNum (.flt ((toW 64 32 x).1)))])
      (out := [(21, .val (IsNum (.flt ((toW 64 32 x).1)))), (2, .box 37 8 (IsVal 0 0 (IsI 0) 0 0 (⟨#[]⟩) (K0))), (22, .val (EnvV))]) (nb := []) H9 2 [2] rfl (by kernel_rfl) rfl rfl ?_ ?_
    · refine .cons (.plain rfl (ok_move (.tmp 0 rfl))) ?_
      refine .cons (.plain rfl (ok_buildVF (k := 4) (.lit) (.tmp 0 rfl))) ?_
      exact .nil
    clear H9 a9 w9 B9
    intro a10 w10 B10 H10
    refine ops_one ?_
    refine store_op (l' := [(21, .val (IsNum (.flt ((toW 64 32 x).1)))), (2, .box 37 8 (IsNum (.flt ((toW 64 32 x).1)))), (22, .val (EnvV))]) 1 H10 rfl tyV rfl (.tmp 0 rfl) (shape_Val shape_I oneK0) shape_Num rfl rfl ?_
    clear H10 w10
    intro w11 H11
    refine ops_done ?_
    refine then_normal ?_
    refine wp_ret ?_
    exact f_retC H11 tyV rfl 1 rfl (fun v w B h => by exact num_eq (of_no hc6).symm h)

set_option maxRecDepth 20000 in
set_option maxHeartbeats 2000000 in
theorem con_of16 (x : Int) (hx : 0 ≤ x ∧ x < 65536) : ConE Tryz.prog 17 [Lit (.int .u16 x)] (IsNum (ofV 16 x)) := by
  refine f_enterE (N := 22) Tryz.ntmps17 (fun _ _ => by go_simp) Tryz.func17 rfl (by simp) ?_
  intro a0 w0 B0 H0
  replace H0 : St 22 w0 B0 a0 w0 B0 [(0, .val (Lit (.int .u16 x))), (22, .val (EnvV))] [] := H0
  refine wp_seq ?_
  refine flow_region (dsts := [some 2]) (refs := [[]]) (outs := [.res 0, .pre 0, .pre 1]) (als := [true]) (posts := [.box 37 8 (IsVal 0 0 (IsI 0) 0 0 (⟨#[]⟩) (K0))])
    (out := [(2, .box 37 8 (IsVal 0 0 (IsI 0) 0 0 (⟨#[]⟩) (K0))), (0, .val (Lit (.int .u16 x))), (22, .val (EnvV))]) (nb := [2]) H0 1 [] rfl (by kernel_rfl) rfl rfl ?_ ?_
  · refine .cons (.plain rfl (ok_allocV)) ?_
    exact .nil
  clear H0
  intro a1 w1 B1 H1
  simp only [List.cons_append, List.nil_append] at H1
  refine ops_done ?_
  refine then_normal ?_
  refine wp_seq ?_
  refine wp_seq ?_
  refine flow_region (dsts := [some 8, some 9, some 7, some 10, some 11, some 3]) (refs := [[.pre 1], [.res 0, .pre 2], [.res 1], [.res 2], [.res 2], []]) (outs := [.res 3, .res 4, .res 5, .pre 0, .pre 1, .pre 2]) (als := [false, false, false, false, false, true]) (posts := [.val (Lit (.int .u16 x)), .val (Tup [IsI (intN 16 x), IsB (intOk 16 x)]), .val (Tup [IsI (intN 16 x), IsB (intOk 16 x)]), .val (IsI (intN 16 x)), .val (IsB (intOk 16 x)), .box 34 2 (Zero2)])
    (out := [(10, .val (IsI (intN 16 x))), (11, .val (IsB (intOk 16 x))), (3, .box 34 2 (Zero2)), (2, .box 37 8 (IsVal 0 0 (IsI 0) 0 0 (⟨#[]⟩) (K0))), (0, .val (Lit (.int .u16 x))), (22, .val (EnvV))]) (nb := [3]) H1 6 [6, 7] rfl (by kernel_rfl) rfl rfl ?_ ?_
  · refine .cons (.plain rfl (ok_move (.tmp 0 rfl))) ?_
    refine .cons (.plain rfl (ok_callE (con_iint16 x hx) 1 rfl (.cons (.tmp 0 rfl) (.nil)))) ?_
    refine .cons (.plain rfl (ok_move (.tmp 0 rfl))) ?_
    refine .cons (.plain rfl (ok_extract 0 (.tmp 0 rfl) rfl)) ?_
    refine .cons (.plain rfl (ok_extract 1 (.tmp 0 rfl) rfl)) ?_
    refine .cons (.plain rfl (ok_alloc (D := Zero2) zeroI rfl (fun _ _ => rfl))) ?_
    exact .nil
  clear H1 a1 w1 B1
  intro a2 w2 B2 H2
  simp only [List.cons_append, List.nil_append] at H2
  refine ops_one ?_
  refine store_op (l' := [(10, .val (IsI (intN 16 x))), (11, .val (IsB (intOk 16 x))), (3, .box 34 2 (IsI (intN 16 x))), (2, .box 37 8 (IsVal 0 0 (IsI 0) 0 0 (⟨#[]⟩) (K0))), (0, .val (Lit (.int .u16 x))), (22, .val (EnvV))]) 2 H2 rfl tyI rfl (.tmp 0 rfl) shape_Z shape_I rfl rfl ?_
  clear H2 w2
  intro w3 H3
  refine ops_one ?_
  refine tail_op (D := .val (IsB (intOk 16 x))) (l' := [(4, .val (IsB (intOk 16 x))), (10, .val (IsI (intN 16 x))), (11, .val (IsB (intOk 16 x))), (3, .box 34 2 (IsI (intN 16 x))), (2, .box 37 8 (IsVal 0 0 (IsI 0) 0 0 (⟨#[]⟩) (K0))), (0, .val (Lit (.int .u16 x))), (22, .val (EnvV))]) H3 rfl rfl rfl (.plain rfl (ok_assign (.tmp 1 rfl))) rfl rfl ?_
  clear H3 a2 w3 B2
  intro a4 w4 B4 H4
  refine ops_done ?_
  refine then_normal ?_
  refine wp_seq ?_
  refine flow_region (dsts := [some 12]) (refs := [[.pre 0]]) (outs := [.res 0, .pre 3, .pre 4, .pre 5, .pre 6]) (als := [false]) (posts := [.val (IsB (intOk 16 x))])
    (out := [(12, .val (IsB (intOk 16 x))), (3, .box 34 2 (IsI (intN 16 x))), (2, .box 37 8 (IsVal 0 0 (IsI 0) 0 0 (⟨#[]⟩) (K0))), (0, .val (Lit (.int .u16 x))), (22, .val (EnvV))]) (nb := []) H4 1 [] rfl (by kernel_rfl) rfl rfl ?_ ?_
  · refine .cons (.plain rfl (ok_move (.tmp 0 rfl))) ?_
    exact .nil
  clear H4 a4 w4 B4
  intro a5 w5 B5 H5
  refine ops_done ?_
  refine then_normal ?_
  refine f_cond H5 (.tmp 0 rfl) ?_ ?_
  · intro hc6
    refine wp_seq ?_
    refine flow_region (dsts := [some 13, some 14]) (refs := [[.pre 1], [.res 0]]) (outs := [.res 1, .pre 2, .pre 3, .pre 4]) (als := [false, false]) (posts := [.val (IsI (intN 16 x)), .val (IsNum (.int (intN 16 x)))])
      (out := [(14, .val (IsNum (.int (intN 16 x)))), (2, .box 37 8 (IsVal 0 0 (IsI 0) 0 0 (⟨#[]⟩) (K0))), (0, .val (Lit (.int .u16 x))), (22, .val (EnvV))]) (nb := []) H5 2 [2] rfl (by kernel_rfl) rfl rfl ?_ ?_
    · refine .cons (.plain rfl (ok_load tyI (.tmp 0 rfl))) ?_
      refine .cons (.plain rfl (ok_buildVI (k := 3) (.lit) (.tmp 0 rfl) shape_I)) ?_
      exact .nil
    clear H5 a5 w5 B5
    intro a7 w7 B7 H7
    refine ops_one ?_
    refine store_op (l' := [(14, .val (IsNum (.int (intN 16 x)))), (2, .box 37 8 (IsNum (.int (intN 16 x)))), (0, .val (Lit (.int .u16 x))), (22, .val (EnvV))]) 1 H7 rfl tyV rfl (.tmp 0 rfl) (shape_Val shape_I oneK0) shape_Num rfl rfl ?_
    clear H7 w7
    intro w8 H8
    refine ops_done ?_
    refine then_normal ?_
    refine wp_ret ?_
    refine then_ret ?_
    exact f_retC H8 tyV rfl 1 rfl (fun v w B h => by exact num_eq (of_yes hc6).symm h)
  · intro hc6
    refine wp_skip ?_
    refine then_normal ?_
    refine wp_seq ?_
    refine flow_region (dsts := [some 16, some 17, some 15, some 18, some 19, some 5, some 6]) (refs := [[.pre 3], [.res 0, .pre 4], [.res 1], [.res 2], [.res 2], [.res 3], [.res 4]]) (outs := [.res 5, .pre 2, .pre 4]) (als := [false, false, false, false, false, false, false]) (posts := [.val (Lit (.int .u16 x)), .val (Tup [Lit (.int .u64 ((toW 64 16 x).1)), IsB ((toW 64 16 x).2)]), .val (Tup [Lit (.int .u64 ((toW 64 16 x).1)), IsB ((toW 64 16 x).2)]), .val (Lit (.int .u64 ((toW 64 16 x).1))), .val (IsB ((toW 64 16 x).2)), .val (Lit (.int .u64 ((toW 64 16 x).1))), .val (IsB ((toW 64 16 x).2))])
      (out := [(5, .val (Lit (.int .u64 ((toW 64 16 x).1)))), (2, .box 37 8 (IsVal 0 0 (IsI 0) 0 0 (⟨#[]⟩) (K0))), (22, .val (EnvV))]) (nb := []) H5 7 [] rfl (by kernel_rfl) rfl rfl ?_ ?_
    · refine .cons (.plain rfl (ok_move (.tmp 0 rfl))) ?_
      refine .cons (.plain rfl (ok_callE (con_to6416 x hx) 1 rfl (.cons (.tmp 0 rfl) (.nil)))) ?_
      refine .cons (.plain rfl (ok_move (.tmp 0 rfl))) ?_
      refine .cons (.plain rfl (ok_extract 0 (.tmp 0 rfl) rfl)) ?_
      refine .cons (.plain rfl (ok_extract 1 (.tmp 0 rfl) rfl)) ?_
      refine .cons (.plain rfl (ok_assign (.tmp 0 rfl))) ?_
      refine .cons (.plain rfl (ok_assign (.tmp 0 rfl))) ?_
      exact .nil
    clear H5 a5 w5 B5
    intro a9 w9 B9 H9
    refine ops_done ?_
    refine then_normal ?_
    refine wp_seq ?_
    refine flow_region (dsts := [some 20, some 21]) (refs := [[.pre 0], [.res 0]]) (outs := [.res 1, .pre 1, .pre 2]) (als := [false, false]) (posts := [.val (Lit (.int .u64 ((toW 64 16 x).1))), .val (IsNum (.flt ((toW 64 16 x).1)))])
      (out := [(21, .val (IsNum (.flt ((toW 64 16 x).1)))), (2, .box 37 8 (IsVal 0 0 (IsI 0) 0 0 (⟨#[]⟩) (K0))), (22, .val (EnvV))]) (nb := []) H9 2 [2] rfl (by kernel_rfl) rfl rfl ?_ ?_
    · refine .cons (.plain rfl (ok_move (.tmp 0 rfl))) ?_
      refine .cons (.plain rfl (ok_buildVF (k := 4) (.lit) (.tmp 0 rfl))) ?_
      exact .nil
    clear H9 a9 w9 B9
    intro a10 w10 B10 H10
    refine ops_one ?_
    refine store_op (l' := [(21, .val (IsNum (.flt ((toW 64 16 x).1)))), (2, .box 37 8 (IsNum (.flt ((toW 64 16 x).1)))), (22, .val (EnvV))]) 1 H10 rfl tyV rfl (.tmp 0 rfl) (shape_Val shape_I oneK0) shape_Num rfl rfl ?_
    clear H10 w10
    intro w11 H11
    refine ops_done ?_
    refine then_normal ?_
    refine wp_ret ?_
    exact f_retC H11 tyV rfl 1 rfl (fun v w B h => by exact num_eq (of_no hc6).symm h)

end Go.Proofs.YtoimhjcpeifegaaGreatDoor

