/- The law NumberBack: its walk. -/
import Derived.Test.YtoimhjcpeifegaaGreatDoorPk42
import Derived.Test.YtoimhjcpeifegaaGreatDoorPk44
set_option linter.unusedVariables false
set_option linter.unusedSimpArgs false
/- WalkNumberBack. (Printed by flow15.py.) -/
namespace Go.Proofs.YtoimhjcpeifegaaGreatDoor
open Go Go.RowKit

set_option maxRecDepth 20000 in
set_option maxHeartbeats 4000000 in
theorem con_NumberBack (x : Int) (hx : 0 ≤ x ∧ x < 18446744073709551616) (t : VT) (okt : VOk (VT.d t)) : ConE Tryz.prog 9 [Lit (.int .u64 x), IsVA t] (IsB true) := by
  refine f_enterE (N := 113) Tryz.ntmps9 (fun _ _ => by go_simp) Tryz.func9 rfl (by simp) ?_
  intro a0 w0 B0 H0
  replace H0 : St 113 w0 B0 a0 w0 B0 [(0, .val (Lit (.int .u64 x))), (1, .val (IsVA t)), (113, .val (EnvV))] [] := H0
  refine wp_seq ?_
  refine flow_region (dsts := [some 3, some 4]) (refs := [[.pre 1], []]) (outs := [.res 0, .res 1, .pre 0, .pre 2]) (als := [true, false]) (posts := [.box 37 8 (IsVA t), .val (IsB false)])
    (out := [(3, .box 37 8 (IsVA t)), (4, .val (IsB false)), (0, .val (Lit (.int .u64 x))), (113, .val (EnvV))]) (nb := [3]) H0 2 [] rfl (by kernel_rfl) rfl rfl ?_ ?_
  · refine .cons (.plain rfl (ok_box (.tmp 0 rfl) shape_VA.two)) ?_
    refine .cons (.plain rfl (ok_assign (.lit))) ?_
    exact .nil
  clear H0
  intro a1 w1 B1 H1
  simp only [List.cons_append, List.nil_append] at H1
  refine ops_done ?_
  refine then_normal ?_
  refine wp_seq ?_
  refine wp_seq ?_
  refine flow_region (dsts := [some 17, some 18, some 19]) (refs := [[.pre 0], [.res 0], [.res 1]]) (outs := [.res 2, .pre 0, .pre 1, .pre 2, .pre 3]) (als := [false, false, false]) (posts := [.val (IsVA t), .val (IsVq ([t])), .val (IsIf True (∀ u ∈ [t], Wn u))])
    (out := [(19, .val (IsIf True (∀ u ∈ [t], Wn u))), (3, .box 37 8 (IsVA t)), (4, .val (IsB false)), (0, .val (Lit (.int .u64 x))), (113, .val (EnvV))]) (nb := []) H1 3 [] rfl (by kernel_rfl) rfl rfl ?_ ?_
  · refine .cons (.plain rfl (ok_load tyV (.tmp 0 rfl))) ?_
    refine .cons (.plain rfl (ok_oneVq (.tmp 0 rfl))) ?_
    refine .cons (.plain rfl (ok_call (con_beyondV [t]) (.cons (.tmp 0 rfl) (.nil)))) ?_
    exact .nil
  clear H1 a1 w1 B1
  intro a2 w2 B2 H2
  refine ops_done ?_
  refine then_normal ?_
  refine f_condI H2 (.tmp 0 rfl) ?_ ?_
  · intro hc3
    refine wp_seq ?_
    refine flow_region (dsts := [some 4]) (refs := [[]]) (outs := [.res 0, .pre 1, .pre 3, .pre 4]) (als := [false]) (posts := [.val (IsB true)])
      (out := [(4, .val (IsB true)), (3, .box 37 8 (IsVA t)), (0, .val (Lit (.int .u64 x))), (113, .val (EnvV))]) (nb := []) H2 1 [] rfl (by kernel_rfl) rfl rfl ?_ ?_
    · refine .cons (.plain rfl (ok_assign (.lit))) ?_
      exact .nil
    clear H2 a2 w2 B2
    intro a4 w4 B4 H4
    refine ops_done ?_
    refine then_normal ?_
    refine wp_ret ?_
    refine then_ret ?_
    exact f_ret H4 rfl 0 rfl (fun _ _ _ h => h)
  · intro hc3
    have hW : Wn t := hc3 t (List.mem_singleton.2 rfl)
    refine wp_skip ?_
    refine then_normal ?_
    refine wp_seq ?_
    refine wp_seq ?_
    rcases (val_cases t okt.b hW) with hno | ⟨z, hvn, hz, hq⟩ | ⟨z, b, y, hvn, hz, hq, hof, hb, hq3, hof3, hy⟩ | ⟨z, b, y, hvn, hz, hq, hof, hb, hq3, hof3, hy⟩ | ⟨z, b, y, hvn, hz, hq, hof, hb, hq3, hof3, hy⟩
    · refine flow_region (dsts := [some 21, some 22, some 20, some 23, some 24, some 5, some 6]) (refs := [[.pre 1], [.res 0, .pre 4], [.res 1], [.res 2], [.res 2], [.res 3], [.res 4]]) (outs := [.res 5, .res 6, .pre 1, .pre 2, .pre 3, .pre 4]) (als := [false, false, false, false, false, false, false]) (posts := [.val (IsVA t), .val (Tup [Lit (.int .u64 0), IsB false]), .val (Tup [Lit (.int .u64 0), IsB false]), .val (Lit (.int .u64 0)), .val (IsB false), .val (Lit (.int .u64 0)), .val (IsB false)])
        (out := [(5, .val (Lit (.int .u64 0))), (6, .val (IsB false)), (3, .box 37 8 (IsVA t)), (4, .val (IsB false)), (0, .val (Lit (.int .u64 x))), (113, .val (EnvV))]) (nb := []) H2 7 [] rfl (by kernel_rfl) rfl rfl ?_ ?_
      · refine .cons (.plain rfl (ok_load tyV (.tmp 0 rfl))) ?_
        refine .cons (.plain rfl (ok_callE (con_nbitsN t okt.b hno) 1 rfl (.cons (.tmp 0 rfl) (.nil)))) ?_
        refine .cons (.plain rfl (ok_move (.tmp 0 rfl))) ?_
        refine .cons (.plain rfl (ok_extract 0 (.tmp 0 rfl) rfl)) ?_
        refine .cons (.plain rfl (ok_extract 1 (.tmp 0 rfl) rfl)) ?_
        refine .cons (.plain rfl (ok_assign (.tmp 0 rfl))) ?_
        refine .cons (.plain rfl (ok_assign (.tmp 0 rfl))) ?_
        exact .nil
      clear H2 a2 w2 B2
      intro a5 w5 B5 H5
      refine ops_done ?_
      refine then_normal ?_
      refine wp_seq ?_
      refine flow_region (dsts := [some 25]) (refs := [[.pre 1]]) (outs := [.res 0, .pre 0, .pre 2, .pre 3, .pre 4, .pre 5]) (als := [false]) (posts := [.val (IsB false)])
        (out := [(25, .val (IsB false)), (5, .val (Lit (.int .u64 0))), (3, .box 37 8 (IsVA t)), (4, .val (IsB false)), (0, .val (Lit (.int .u64 x))), (113, .val (EnvV))]) (nb := []) H5 1 [] rfl (by kernel_rfl) rfl rfl ?_ ?_
      · refine .cons (.plain rfl (ok_move (.tmp 0 rfl))) ?_
        exact .nil
      clear H5 a5 w5 B5
      intro a6 w6 B6 H6
      refine ops_done ?_
      refine then_normal ?_
      refine f_condF H6 (.tmp 0 rfl) ?_
      refine wp_skip ?_
      refine then_normal ?_
      refine wp_seq ?_
      rcases (back_x x hx) with ⟨hn, hof2, hq2⟩ | ⟨hn, z2, b2, hof2, hq2, hb2, hcmp, hzk⟩
      · have hz2 := ok_of wd64 x (hx64v hx)
        rw [hof2] at hz2
        refine flow_region (dsts := [some 61, some 62, some 10]) (refs := [[.pre 4], [.res 0, .pre 5], []]) (outs := [.res 1, .res 2, .pre 3, .pre 4, .pre 5]) (als := [false, false, true]) (posts := [.val (Lit (.int .u64 x)), .val (IsNum (.flt 9221120237041090560)), .box 37 8 (IsVal 0 0 (IsI 0) 0 0 (⟨#[]⟩) (K0))])
          (out := [(62, .val (IsNum (.flt 9221120237041090560))), (10, .box 37 8 (IsVal 0 0 (IsI 0) 0 0 (⟨#[]⟩) (K0))), (4, .val (IsB false)), (0, .val (Lit (.int .u64 x))), (113, .val (EnvV))]) (nb := [10]) H6 3 [3] rfl (by kernel_rfl) rfl rfl ?_ ?_
        · refine .cons (.plain rfl (ok_move (.tmp 0 rfl))) ?_
          refine .cons (.plain rfl (ok_callE ((con_of64 x hx).weak (fun v w B h => num_eq hof2 h)) 1 rfl (.cons (.tmp 0 rfl) (.nil)))) ?_
          refine .cons (.plain rfl (ok_allocV)) ?_
          exact .nil
        clear H6 a6 w6 B6
        intro a7 w7 B7 H7
        simp only [List.cons_append, List.nil_append] at H7
        refine ops_one ?_
        refine store_op (l' := [(62, .val (IsNum (.flt 9221120237041090560))), (10, .box 37 8 (IsNum (.flt 9221120237041090560))), (4, .val (IsB false)), (0, .val (Lit (.int .u64 x))), (113, .val (EnvV))]) 1 H7 rfl tyV rfl (.tmp 0 rfl) (shape_Val shape_I oneK0) shape_Num rfl rfl ?_
        clear H7 w7
        intro w8 H8
        refine ops_done ?_
        refine then_normal ?_
        refine wp_seq ?_
        refine flow_region (dsts := [some 64, some 65, some 63, some 66, some 67, some 11, some 12]) (refs := [[.pre 1], [.res 0, .pre 4], [.res 1], [.res 2], [.res 2], [.res 3], [.res 4]]) (outs := [.res 5, .res 6, .pre 1, .pre 2, .pre 3, .pre 4]) (als := [false, false, false, false, false, false, false]) (posts := [.val (IsNum (.flt 9221120237041090560)), .val (Tup [Lit (.int .u64 9221120237041090560), IsB true]), .val (Tup [Lit (.int .u64 9221120237041090560), IsB true]), .val (Lit (.int .u64 9221120237041090560)), .val (IsB true), .val (Lit (.int .u64 9221120237041090560)), .val (IsB true)])
          (out := [(11, .val (Lit (.int .u64 9221120237041090560))), (12, .val (IsB true)), (10, .box 37 8 (IsNum (.flt 9221120237041090560))), (4, .val (IsB false)), (0, .val (Lit (.int .u64 x))), (113, .val (EnvV))]) (nb := []) H8 7 [] rfl (by kernel_rfl) rfl rfl ?_ ?_
        · refine .cons (.plain rfl (ok_load tyV (.tmp 0 rfl))) ?_
          refine .cons (.plain rfl (ok_callE ((con_nbits (.flt 9221120237041090560) hz2).weak (fun v w B h => by rw [hq2] at h; exact h)) 1 rfl (.cons (.tmp 0 rfl) (.nil)))) ?_
          refine .cons (.plain rfl (ok_move (.tmp 0 rfl))) ?_
          refine .cons (.plain rfl (ok_extract 0 (.tmp 0 rfl) rfl)) ?_
          refine .cons (.plain rfl (ok_extract 1 (.tmp 0 rfl) rfl)) ?_
          refine .cons (.plain rfl (ok_assign (.tmp 0 rfl))) ?_
          refine .cons (.plain rfl (ok_assign (.tmp 0 rfl))) ?_
          exact .nil
        clear H8 a7 w8 B7
        intro a9 w9 B9 H9
        refine ops_done ?_
        refine then_normal ?_
        refine wp_seq ?_
        refine wp_seq ?_
        refine flow_region (dsts := [some 68, some 69, some 70, some 71, some 72, some 73, some 74]) (refs := [[.pre 2], [.res 0, .pre 5], [.res 1], [.res 2], [.res 3, .pre 1], [.res 3, .res 4], [.res 3, .res 5]]) (outs := [.res 6, .pre 0, .pre 2, .pre 3, .pre 4, .pre 5]) (als := [false, false, false, false, false, false, false]) (posts := [.val (IsNum (.flt 9221120237041090560)), .val (IsErr true), .val (IsB false), .val (IsB false), .val (IsB true), .val (IsB false), .val (IsB false)])
          (out := [(74, .val (IsB false)), (11, .val (Lit (.int .u64 9221120237041090560))), (10, .box 37 8 (IsNum (.flt 9221120237041090560))), (4, .val (IsB false)), (0, .val (Lit (.int .u64 x))), (113, .val (EnvV))]) (nb := []) H9 7 [] rfl (by kernel_rfl) rfl rfl ?_ ?_
        · refine .cons (.plain rfl (ok_load tyV (.tmp 0 rfl))) ?_
          refine .cons (.plain rfl (ok_callE (con_vcheck (.flt 9221120237041090560) hz2) 1 rfl (.cons (.tmp 0 rfl) (.nil)))) ?_
          refine .cons (.plain rfl (ok_neErr (b := true) (.tmp 0 rfl))) ?_
          refine .cons (.plain rfl (ok_move (.tmp 0 rfl))) ?_
          refine .cons (.wanted 3 false rfl rfl rfl 0 rfl (ok_move (.tmp 1 rfl))) ?_
          refine .cons (.wanted 3 false rfl rfl rfl 0 rfl (ok_not (b := true) (.tmp 1 rfl))) ?_
          refine .cons (.plain rfl (ok_pickF (.tmp 0 rfl) (.tmp 1 rfl))) ?_
          exact .nil
        clear H9 a9 w9 B9
        intro a10 w10 B10 H10
        refine ops_done ?_
        refine then_normal ?_
        refine f_condF H10 (.tmp 0 rfl) ?_
        refine wp_skip ?_
        refine then_normal ?_
        refine wp_seq ?_
        refine wp_seq ?_
        refine flow_region (dsts := [some 75, some 76]) (refs := [[.pre 4], [.res 0, .pre 5]]) (outs := [.res 1, .pre 1, .pre 2, .pre 3, .pre 4, .pre 5]) (als := [false, false]) (posts := [.val (Lit (.int .u64 x)), .val (IsB true)])
          (out := [(76, .val (IsB true)), (11, .val (Lit (.int .u64 9221120237041090560))), (10, .box 37 8 (IsNum (.flt 9221120237041090560))), (4, .val (IsB false)), (0, .val (Lit (.int .u64 x))), (113, .val (EnvV))]) (nb := []) H10 2 [] rfl (by kernel_rfl) rfl rfl ?_ ?_
        · refine .cons (.plain rfl (ok_move (.tmp 0 rfl))) ?_
          refine .cons (.plain rfl (ok_callE ((con_nan15 x hx).weak (fun v w B h => by rw [hn] at h; exact h)) 1 rfl (.cons (.tmp 0 rfl) (.nil)))) ?_
          exact .nil
        clear H10 a10 w10 B10
        intro a11 w11 B11 H11
        refine ops_done ?_
        refine then_normal ?_
        refine f_condT H11 (.tmp 0 rfl) ?_
        refine wp_seq ?_
        refine flow_region (dsts := [some 77, some 78, some 79, some 80, some 81, some 82, some 83, some 84, some 85, some 86, some 4]) (refs := [[.pre 1], [.res 0], [.res 1], [.res 2, .pre 2], [.res 2, .res 3], [.res 2, .res 4], [.res 2, .res 5], [.res 6], [.res 7, .pre 5], [.res 7, .res 8], [.res 9]]) (outs := [.res 10, .pre 1, .pre 2, .pre 4, .pre 5]) (als := [false, false, false, false, false, false, false, false, false, false, false]) (posts := [.val (Lit (.int .u64 9221120237041090560)), .val (IsB true), .val (IsB true), .ptr 37 8 (IsNum (.flt 9221120237041090560)) 0, .val (Lit (.int .i8 4)), .val (IsB true), .val (IsB true), .val (IsB true), .val (IsB true), .val (IsB true), .val (IsB true)])
          (out := [(4, .val (IsB true)), (11, .val (Lit (.int .u64 9221120237041090560))), (10, .box 37 8 (IsNum (.flt 9221120237041090560))), (0, .val (Lit (.int .u64 x))), (113, .val (EnvV))]) (nb := []) H11 11 [] rfl (by kernel_rfl) rfl rfl ?_ ?_
        · refine .cons (.plain rfl (ok_move (.tmp 0 rfl))) ?_
          refine .cons (.plain rfl (ok_cmp (b := true) (.tmp 0 rfl) (.lit) (by decide))) ?_
          refine .cons (.plain rfl (ok_move (.tmp 0 rfl))) ?_
          refine .cons (.wanted 2 true rfl rfl rfl 0 rfl (ok_addrV0 (.tmp 1 rfl))) ?_
          refine .cons (.wanted 2 true rfl rfl rfl 0 rfl (ok_loadV0 (.tmp 1 rfl))) ?_
          refine .cons (.wanted 2 true rfl rfl rfl 0 rfl (ok_cmp (b := true) (.tmp 1 rfl) (.lit) (by decide))) ?_
          refine .cons (.plain rfl (ok_pickT (.tmp 0 rfl) (.tmp 1 rfl))) ?_
          refine .cons (.plain rfl (ok_move (.tmp 0 rfl))) ?_
          refine .cons (.wanted 7 true rfl rfl rfl 0 rfl (ok_callE (con_lives15) 1 rfl (.nil))) ?_
          refine .cons (.plain rfl (ok_pickT (.tmp 0 rfl) (.tmp 1 rfl))) ?_
          refine .cons (.plain rfl (ok_assign (.tmp 0 rfl))) ?_
          exact .nil
        clear H11 a11 w11 B11
        intro a12 w12 B12 H12
        refine ops_done ?_
        refine then_normal ?_
        refine wp_ret ?_
        refine then_ret ?_
        exact f_ret H12 rfl 0 rfl (fun _ _ _ h => h)
      · have hz2 := ok_of wd64 x (hx64v hx)
        rw [hof2] at hz2
        refine flow_region (dsts := [some 61, some 62, some 10]) (refs := [[.pre 4], [.res 0, .pre 5], []]) (outs := [.res 1, .res 2, .pre 3, .pre 4, .pre 5]) (als := [false, false, true]) (posts := [.val (Lit (.int .u64 x)), .val (IsNum z2), .box 37 8 (IsVal 0 0 (IsI 0) 0 0 (⟨#[]⟩) (K0))])
          (out := [(62, .val (IsNum z2)), (10, .box 37 8 (IsVal 0 0 (IsI 0) 0 0 (⟨#[]⟩) (K0))), (4, .val (IsB false)), (0, .val (Lit (.int .u64 x))), (113, .val (EnvV))]) (nb := [10]) H6 3 [3] rfl (by kernel_rfl) rfl rfl ?_ ?_
        · refine .cons (.plain rfl (ok_move (.tmp 0 rfl))) ?_
          refine .cons (.plain rfl (ok_callE ((con_of64 x hx).weak (fun v w B h => num_eq hof2 h)) 1 rfl (.cons (.tmp 0 rfl) (.nil)))) ?_
          refine .cons (.plain rfl (ok_allocV)) ?_
          exact .nil
        clear H6 a6 w6 B6
        intro a13 w13 B13 H13
        simp only [List.cons_append, List.nil_append] at H13
        refine ops_one ?_
        refine store_op (l' := [(62, .val (IsNum z2)), (10, .box 37 8 (IsNum z2)), (4, .val (IsB false)), (0, .val (Lit (.int .u64 x))), (113, .val (EnvV))]) 1 H13 rfl tyV rfl (.tmp 0 rfl) (shape_Val shape_I oneK0) shape_Num rfl rfl ?_
        clear H13 w13
        intro w14 H14
        refine ops_done ?_
        refine then_normal ?_
        refine wp_seq ?_
        refine flow_region (dsts := [some 64, some 65, some 63, some 66, some 67, some 11, some 12]) (refs := [[.pre 1], [.res 0, .pre 4], [.res 1], [.res 2], [.res 2], [.res 3], [.res 4]]) (outs := [.res 5, .res 6, .pre 1, .pre 2, .pre 3, .pre 4]) (als := [false, false, false, false, false, false, false]) (posts := [.val (IsNum z2), .val (Tup [Lit (.int .u64 b2), IsB true]), .val (Tup [Lit (.int .u64 b2), IsB true]), .val (Lit (.int .u64 b2)), .val (IsB true), .val (Lit (.int .u64 b2)), .val (IsB true)])
          (out := [(11, .val (Lit (.int .u64 b2))), (12, .val (IsB true)), (10, .box 37 8 (IsNum z2)), (4, .val (IsB false)), (0, .val (Lit (.int .u64 x))), (113, .val (EnvV))]) (nb := []) H14 7 [] rfl (by kernel_rfl) rfl rfl ?_ ?_
        · refine .cons (.plain rfl (ok_load tyV (.tmp 0 rfl))) ?_
          refine .cons (.plain rfl (ok_callE ((con_nbits z2 hz2).weak (fun v w B h => by rw [hq2] at h; exact h)) 1 rfl (.cons (.tmp 0 rfl) (.nil)))) ?_
          refine .cons (.plain rfl (ok_move (.tmp 0 rfl))) ?_
          refine .cons (.plain rfl (ok_extract 0 (.tmp 0 rfl) rfl)) ?_
          refine .cons (.plain rfl (ok_extract 1 (.tmp 0 rfl) rfl)) ?_
          refine .cons (.plain rfl (ok_assign (.tmp 0 rfl))) ?_
          refine .cons (.plain rfl (ok_assign (.tmp 0 rfl))) ?_
          exact .nil
        clear H14 a13 w14 B13
        intro a15 w15 B15 H15
        refine ops_done ?_
        refine then_normal ?_
        refine wp_seq ?_
        refine wp_seq ?_
        refine flow_region (dsts := [some 68, some 69, some 70, some 71, some 72, some 73, some 74]) (refs := [[.pre 2], [.res 0, .pre 5], [.res 1], [.res 2], [.res 3, .pre 1], [.res 3, .res 4], [.res 3, .res 5]]) (outs := [.res 6, .pre 0, .pre 2, .pre 3, .pre 4, .pre 5]) (als := [false, false, false, false, false, false, false]) (posts := [.val (IsNum z2), .val (IsErr true), .val (IsB false), .val (IsB false), .val (IsB true), .val (IsB false), .val (IsB false)])
          (out := [(74, .val (IsB false)), (11, .val (Lit (.int .u64 b2))), (10, .box 37 8 (IsNum z2)), (4, .val (IsB false)), (0, .val (Lit (.int .u64 x))), (113, .val (EnvV))]) (nb := []) H15 7 [] rfl (by kernel_rfl) rfl rfl ?_ ?_
        · refine .cons (.plain rfl (ok_load tyV (.tmp 0 rfl))) ?_
          refine .cons (.plain rfl (ok_callE (con_vcheck (z2) hz2) 1 rfl (.cons (.tmp 0 rfl) (.nil)))) ?_
          refine .cons (.plain rfl (ok_neErr (b := true) (.tmp 0 rfl))) ?_
          refine .cons (.plain rfl (ok_move (.tmp 0 rfl))) ?_
          refine .cons (.wanted 3 false rfl rfl rfl 0 rfl (ok_move (.tmp 1 rfl))) ?_
          refine .cons (.wanted 3 false rfl rfl rfl 0 rfl (ok_not (b := true) (.tmp 1 rfl))) ?_
          refine .cons (.plain rfl (ok_pickF (.tmp 0 rfl) (.tmp 1 rfl))) ?_
          exact .nil
        clear H15 a15 w15 B15
        intro a16 w16 B16 H16
        refine ops_done ?_
        refine then_normal ?_
        refine f_condF H16 (.tmp 0 rfl) ?_
        refine wp_skip ?_
        refine then_normal ?_
        refine wp_seq ?_
        refine wp_seq ?_
        refine flow_region (dsts := [some 75, some 76]) (refs := [[.pre 4], [.res 0, .pre 5]]) (outs := [.res 1, .pre 1, .pre 2, .pre 3, .pre 4, .pre 5]) (als := [false, false]) (posts := [.val (Lit (.int .u64 x)), .val (IsB false)])
          (out := [(76, .val (IsB false)), (11, .val (Lit (.int .u64 b2))), (10, .box 37 8 (IsNum z2)), (4, .val (IsB false)), (0, .val (Lit (.int .u64 x))), (113, .val (EnvV))]) (nb := []) H16 2 [] rfl (by kernel_rfl) rfl rfl ?_ ?_
        · refine .cons (.plain rfl (ok_move (.tmp 0 rfl))) ?_
          refine .cons (.plain rfl (ok_callE ((con_nan15 x hx).weak (fun v w B h => by rw [hn] at h; exact h)) 1 rfl (.cons (.tmp 0 rfl) (.nil)))) ?_
          exact .nil
        clear H16 a16 w16 B16
        intro a17 w17 B17 H17
        refine ops_done ?_
        refine then_normal ?_
        refine f_condF H17 (.tmp 0 rfl) ?_
        refine wp_skip ?_
        refine then_normal ?_
        refine wp_seq ?_
        refine flow_region (dsts := [some 88, some 89, some 90, some 87, some 91, some 92, some 13, some 14]) (refs := [[.pre 4], [.pre 1], [.res 0, .res 1, .pre 5], [.res 2], [.res 3], [.res 3], [.res 4], [.res 5]]) (outs := [.res 6, .res 7, .pre 2, .pre 3, .pre 4, .pre 5]) (als := [false, false, false, false, false, false, false, false]) (posts := [.val (Lit (.int .u64 x)), .val (Lit (.int .u64 b2)), .val (Tup [Lit (.int .i64 0), IsB true]), .val (Tup [Lit (.int .i64 0), IsB true]), .val (Lit (.int .i64 0)), .val (IsB true), .val (Lit (.int .i64 0)), .val (IsB true)])
          (out := [(13, .val (Lit (.int .i64 0))), (14, .val (IsB true)), (10, .box 37 8 (IsNum z2)), (4, .val (IsB false)), (0, .val (Lit (.int .u64 x))), (113, .val (EnvV))]) (nb := []) H17 8 [] rfl (by kernel_rfl) rfl rfl ?_ ?_
        · refine .cons (.plain rfl (ok_move (.tmp 0 rfl))) ?_
          refine .cons (.plain rfl (ok_move (.tmp 0 rfl))) ?_
          refine .cons (.plain rfl (ok_callE ((con_icmp64 x b2 hx hb2).weak (fun v w B h => by rw [hcmp] at h; exact h)) 2 rfl (.cons (.tmp 0 rfl) (.cons (.tmp 1 rfl) (.nil))))) ?_
          refine .cons (.plain rfl (ok_move (.tmp 0 rfl))) ?_
          refine .cons (.plain rfl (ok_extract 0 (.tmp 0 rfl) rfl)) ?_
          refine .cons (.plain rfl (ok_extract 1 (.tmp 0 rfl) rfl)) ?_
          refine .cons (.plain rfl (ok_assign (.tmp 0 rfl))) ?_
          refine .cons (.plain rfl (ok_assign (.tmp 0 rfl))) ?_
          exact .nil
        clear H17 a17 w17 B17
        intro a18 w18 B18 H18
        refine ops_done ?_
        refine then_normal ?_
        refine wp_seq ?_
        refine flow_region (dsts := [some 94, some 95, some 93, some 96, some 97, some 15]) (refs := [[.pre 4], [.res 0, .pre 5], [.res 1], [.res 2], [.res 2], []]) (outs := [.res 3, .res 4, .res 5, .pre 0, .pre 1, .pre 2, .pre 3, .pre 5]) (als := [false, false, false, false, false, true]) (posts := [.val (Lit (.int .u64 x)), .val (Tup [IsI (intN 64 x), IsB (intOk 64 x)]), .val (Tup [IsI (intN 64 x), IsB (intOk 64 x)]), .val (IsI (intN 64 x)), .val (IsB (intOk 64 x)), .box 34 2 (Zero2)])
          (out := [(96, .val (IsI (intN 64 x))), (97, .val (IsB (intOk 64 x))), (15, .box 34 2 (Zero2)), (13, .val (Lit (.int .i64 0))), (14, .val (IsB true)), (10, .box 37 8 (IsNum z2)), (4, .val (IsB false)), (113, .val (EnvV))]) (nb := [15]) H18 6 [6, 7] rfl (by kernel_rfl) rfl rfl ?_ ?_
        · refine .cons (.plain rfl (ok_move (.tmp 0 rfl))) ?_
          refine .cons (.plain rfl (ok_callE (con_iint64 x hx) 1 rfl (.cons (.tmp 0 rfl) (.nil)))) ?_
          refine .cons (.plain rfl (ok_move (.tmp 0 rfl))) ?_
          refine .cons (.plain rfl (ok_extract 0 (.tmp 0 rfl) rfl)) ?_
          refine .cons (.plain rfl (ok_extract 1 (.tmp 0 rfl) rfl)) ?_
          refine .cons (.plain rfl (ok_alloc (D := Zero2) zeroI rfl (fun _ _ => rfl))) ?_
          exact .nil
        clear H18 a18 w18 B18
        intro a19 w19 B19 H19
        simp only [List.cons_append, List.nil_append] at H19
        refine ops_one ?_
        refine store_op (l' := [(96, .val (IsI (intN 64 x))), (97, .val (IsB (intOk 64 x))), (15, .box 34 2 (IsI (intN 64 x))), (13, .val (Lit (.int .i64 0))), (14, .val (IsB true)), (10, .box 37 8 (IsNum z2)), (4, .val (IsB false)), (113, .val (EnvV))]) 2 H19 rfl tyI rfl (.tmp 0 rfl) shape_Z shape_I rfl rfl ?_
        clear H19 w19
        intro w20 H20
        refine ops_one ?_
        refine tail_op (D := .val (IsB (intOk 64 x))) (l' := [(16, .val (IsB (intOk 64 x))), (96, .val (IsI (intN 64 x))), (97, .val (IsB (intOk 64 x))), (15, .box 34 2 (IsI (intN 64 x))), (13, .val (Lit (.int .i64 0))), (14, .val (IsB true)), (10, .box 37 8 (IsNum z2)), (4, .val (IsB false)), (113, .val (EnvV))]) H20 rfl rfl rfl (.plain rfl (ok_assign (.tmp 1 rfl))) rfl rfl ?_
        clear H20 a19 w20 B19
        intro a21 w21 B21 H21
        refine ops_done ?_
        refine then_normal ?_
        refine wp_seq ?_
        refine flow_region (dsts := [some 98, some 99, some 100, some 101, some 102, some 103, some 104, some 105, some 106, some 107, some 108, some 109, some 110, some 111, some 112, some 4]) (refs := [[.pre 4], [.res 0], [.res 1], [.res 2, .pre 5], [.res 2, .res 3], [.res 4], [.res 5, .pre 6], [.res 5, .res 6], [.res 5, .res 7], [.res 5, .pre 0], [.res 5, .res 8, .res 9], [.res 5, .res 10], [.res 11], [.res 12, .pre 8], [.res 12, .res 13], [.res 14]]) (outs := [.res 15, .pre 8]) (als := [false, false, false, false, false, false, false, false, false, false, false, false, false, false, false, false]) (posts := [.val (Lit (.int .i64 0)), .val (IsB true), .val (IsB true), .val (IsB true), .val (IsB true), .val (IsB true), .ptr 37 8 (IsNum z2) 0, .val (Lit (.int .i8 z2.k)), .val (IsB (decide (z2.k = 3))), .val (IsB (intOk 64 x)), .val (IsB true), .val (IsB true), .val (IsB true), .val (IsB true), .val (IsB true), .val (IsB true)])
          (out := [(4, .val (IsB true)), (113, .val (EnvV))]) (nb := []) H21 16 [] rfl (by kernel_rfl) rfl rfl ?_ ?_
        · refine .cons (.plain rfl (ok_move (.tmp 0 rfl))) ?_
          refine .cons (.plain rfl (ok_cmp (b := true) (.tmp 0 rfl) (.lit) (by decide))) ?_
          refine .cons (.plain rfl (ok_move (.tmp 0 rfl))) ?_
          refine .cons (.wanted 2 true rfl rfl rfl 0 rfl (ok_move (.tmp 1 rfl))) ?_
          refine .cons (.plain rfl (ok_pickT (.tmp 0 rfl) (.tmp 1 rfl))) ?_
          refine .cons (.plain rfl (ok_move (.tmp 0 rfl))) ?_
          refine .cons (.wanted 5 true rfl rfl rfl 0 rfl (ok_addrV0 (.tmp 1 rfl))) ?_
          refine .cons (.wanted 5 true rfl rfl rfl 0 rfl (ok_loadV0 (.tmp 1 rfl))) ?_
          refine .cons (.wanted 5 true rfl rfl rfl 0 rfl (ok_cmp (.tmp 1 rfl) (.lit) rfl)) ?_
          refine .cons (.wanted 5 true rfl rfl rfl 0 rfl (ok_move (.tmp 1 rfl))) ?_
          refine .cons (.wanted 5 true rfl rfl rfl 0 rfl (OpOk.eqB (b := (decide (z2.k = 3)) == (intOk 64 x)) (ok_eqB Tryz.underlying4 (.tmp 1 rfl) (.tmp 2 rfl)) (hzk))) ?_
          refine .cons (.plain rfl (ok_pickT (.tmp 0 rfl) (.tmp 1 rfl))) ?_
          refine .cons (.plain rfl (ok_move (.tmp 0 rfl))) ?_
          refine .cons (.wanted 12 true rfl rfl rfl 0 rfl (ok_callE (con_lives15) 1 rfl (.nil))) ?_
          refine .cons (.plain rfl (ok_pickT (.tmp 0 rfl) (.tmp 1 rfl))) ?_
          refine .cons (.plain rfl (ok_assign (.tmp 0 rfl))) ?_
          exact .nil
        clear H21 a21 w21 B21
        intro a22 w22 B22 H22
        refine ops_done ?_
        refine then_normal ?_
        refine wp_ret ?_
        exact f_ret H22 rfl 0 rfl (fun _ _ _ h => h)
    · refine flow_region (dsts := [some 21, some 22, some 20, some 23, some 24, some 5, some 6]) (refs := [[.pre 1], [.res 0, .pre 4], [.res 1], [.res 2], [.res 2], [.res 3], [.res 4]]) (outs := [.res 5, .res 6, .pre 1, .pre 2, .pre 3, .pre 4]) (als := [false, false, false, false, false, false, false]) (posts := [.val (IsVA t), .val (Tup [Lit (.int .u64 ((bitsO (whatV z)).1)), IsB false]), .val (Tup [Lit (.int .u64 ((bitsO (whatV z)).1)), IsB false]), .val (Lit (.int .u64 ((bitsO (whatV z)).1))), .val (IsB false), .val (Lit (.int .u64 ((bitsO (whatV z)).1))), .val (IsB false)])
        (out := [(5, .val (Lit (.int .u64 ((bitsO (whatV z)).1)))), (6, .val (IsB false)), (3, .box 37 8 (IsVA t)), (4, .val (IsB false)), (0, .val (Lit (.int .u64 x))), (113, .val (EnvV))]) (nb := []) H2 7 [] rfl (by kernel_rfl) rfl rfl ?_ ?_
      · refine .cons (.plain rfl (ok_load tyV (.tmp 0 rfl))) ?_
        refine .cons (.plain rfl (ok_callE ((con_nbits z hz).weak (fun v w B h => by rw [hq] at h; exact h)) 1 rfl (.cons (.weak (.tmp 0 rfl) hvn) (.nil)))) ?_
        refine .cons (.plain rfl (ok_move (.tmp 0 rfl))) ?_
        refine .cons (.plain rfl (ok_extract 0 (.tmp 0 rfl) rfl)) ?_
        refine .cons (.plain rfl (ok_extract 1 (.tmp 0 rfl) rfl)) ?_
        refine .cons (.plain rfl (ok_assign (.tmp 0 rfl))) ?_
        refine .cons (.plain rfl (ok_assign (.tmp 0 rfl))) ?_
        exact .nil
      clear H2 a2 w2 B2
      intro a23 w23 B23 H23
      refine ops_done ?_
      refine then_normal ?_
      refine wp_seq ?_
      refine flow_region (dsts := [some 25]) (refs := [[.pre 1]]) (outs := [.res 0, .pre 0, .pre 2, .pre 3, .pre 4, .pre 5]) (als := [false]) (posts := [.val (IsB false)])
        (out := [(25, .val (IsB false)), (5, .val (Lit (.int .u64 ((bitsO (whatV z)).1)))), (3, .box 37 8 (IsVA t)), (4, .val (IsB false)), (0, .val (Lit (.int .u64 x))), (113, .val (EnvV))]) (nb := []) H23 1 [] rfl (by kernel_rfl) rfl rfl ?_ ?_
      · refine .cons (.plain rfl (ok_move (.tmp 0 rfl))) ?_
        exact .nil
      clear H23 a23 w23 B23
      intro a24 w24 B24 H24
      refine ops_done ?_
      refine then_normal ?_
      refine f_condF H24 (.tmp 0 rfl) ?_
      refine wp_skip ?_
      refine then_normal ?_
      refine wp_seq ?_
      rcases (back_x x hx) with ⟨hn, hof2, hq2⟩ | ⟨hn, z2, b2, hof2, hq2, hb2, hcmp, hzk⟩
      · have hz2 := ok_of wd64 x (hx64v hx)
        rw [hof2] at hz2
        refine flow_region (dsts := [some 61, some 62, some 10]) (refs := [[.pre 4], [.res 0, .pre 5], []]) (outs := [.res 1, .res 2, .pre 3, .pre 4, .pre 5]) (als := [false, false, true]) (posts := [.val (Lit (.int .u64 x)), .val (IsNum (.flt 9221120237041090560)), .box 37 8 (IsVal 0 0 (IsI 0) 0 0 (⟨#[]⟩) (K0))])
          (out := [(62, .val (IsNum (.flt 9221120237041090560))), (10, .box 37 8 (IsVal 0 0 (IsI 0) 0 0 (⟨#[]⟩) (K0))), (4, .val (IsB false)), (0, .val (Lit (.int .u64 x))), (113, .val (EnvV))]) (nb := [10]) H24 3 [3] rfl (by kernel_rfl) rfl rfl ?_ ?_
        · refine .cons (.plain rfl (ok_move (.tmp 0 rfl))) ?_
          refine .cons (.plain rfl (ok_callE ((con_of64 x hx).weak (fun v w B h => num_eq hof2 h)) 1 rfl (.cons (.tmp 0 rfl) (.nil)))) ?_
          refine .cons (.plain rfl (ok_allocV)) ?_
          exact .nil
        clear H24 a24 w24 B24
        intro a25 w25 B25 H25
        simp only [List.cons_append, List.nil_append] at H25
        refine ops_one ?_
        refine store_op (l' := [(62, .val (IsNum (.flt 9221120237041090560))), (10, .box 37 8 (IsNum (.flt 9221120237041090560))), (4, .val (IsB false)), (0, .val (Lit (.int .u64 x))), (113, .val (EnvV))]) 1 H25 rfl tyV rfl (.tmp 0 rfl) (shape_Val shape_I oneK0) shape_Num rfl rfl ?_
        clear H25 w25
        intro w26 H26
        refine ops_done ?_
        refine then_normal ?_
        refine wp_seq ?_
        refine flow_region (dsts := [some 64, some 65, some 63, some 66, some 67, some 11, some 12]) (refs := [[.pre 1], [.res 0, .pre 4], [.res 1], [.res 2], [.res 2], [.res 3], [.res 4]]) (outs := [.res 5, .res 6, .pre 1, .pre 2, .pre 3, .pre 4]) (als := [false, false, false, false, false, false, false]) (posts := [.val (IsNum (.flt 9221120237041090560)), .val (Tup [Lit (.int .u64 9221120237041090560), IsB true]), .val (Tup [Lit (.int .u64 9221120237041090560), IsB true]), .val (Lit (.int .u64 9221120237041090560)), .val (IsB true), .val (Lit (.int .u64 9221120237041090560)), .val (IsB true)])
          (out := [(11, .val (Lit (.int .u64 9221120237041090560))), (12, .val (IsB true)), (10, .box 37 8 (IsNum (.flt 9221120237041090560))), (4, .val (IsB false)), (0, .val (Lit (.int .u64 x))), (113, .val (EnvV))]) (nb := []) H26 7 [] rfl (by kernel_rfl) rfl rfl ?_ ?_
        · refine .cons (.plain rfl (ok_load tyV (.tmp 0 rfl))) ?_
          refine .cons (.plain rfl (ok_callE ((con_nbits (.flt 9221120237041090560) hz2).weak (fun v w B h => by rw [hq2] at h; exact h)) 1 rfl (.cons (.tmp 0 rfl) (.nil)))) ?_
          refine .cons (.plain rfl (ok_move (.tmp 0 rfl))) ?_
          refine .cons (.plain rfl (ok_extract 0 (.tmp 0 rfl) rfl)) ?_
          refine .cons (.plain rfl (ok_extract 1 (.tmp 0 rfl) rfl)) ?_
          refine .cons (.plain rfl (ok_assign (.tmp 0 rfl))) ?_
          refine .cons (.plain rfl (ok_assign (.tmp 0 rfl))) ?_
          exact .nil
        clear H26 a25 w26 B25
        intro a27 w27 B27 H27
        refine ops_done ?_
        refine then_normal ?_
        refine wp_seq ?_
        refine wp_seq ?_
        refine flow_region (dsts := [some 68, some 69, some 70, some 71, some 72, some 73, some 74]) (refs := [[.pre 2], [.res 0, .pre 5], [.res 1], [.res 2], [.res 3, .pre 1], [.res 3, .res 4], [.res 3, .res 5]]) (outs := [.res 6, .pre 0, .pre 2, .pre 3, .pre 4, .pre 5]) (als := [false, false, false, false, false, false, false]) (posts := [.val (IsNum (.flt 9221120237041090560)), .val (IsErr true), .val (IsB false), .val (IsB false), .val (IsB true), .val (IsB false), .val (IsB false)])
          (out := [(74, .val (IsB false)), (11, .val (Lit (.int .u64 9221120237041090560))), (10, .box 37 8 (IsNum (.flt 9221120237041090560))), (4, .val (IsB false)), (0, .val (Lit (.int .u64 x))), (113, .val (EnvV))]) (nb := []) H27 7 [] rfl (by kernel_rfl) rfl rfl ?_ ?_
        · refine .cons (.plain rfl (ok_load tyV (.tmp 0 rfl))) ?_
          refine .cons (.plain rfl (ok_callE (con_vcheck (.flt 9221120237041090560) hz2) 1 rfl (.cons (.tmp 0 rfl) (.nil)))) ?_
          refine .cons (.plain rfl (ok_neErr (b := true) (.tmp 0 rfl))) ?_
          refine .cons (.plain rfl (ok_move (.tmp 0 rfl))) ?_
          refine .cons (.wanted 3 false rfl rfl rfl 0 rfl (ok_move (.tmp 1 rfl))) ?_
          refine .cons (.wanted 3 false rfl rfl rfl 0 rfl (ok_not (b := true) (.tmp 1 rfl))) ?_
          refine .cons (.plain rfl (ok_pickF (.tmp 0 rfl) (.tmp 1 rfl))) ?_
          exact .nil
        clear H27 a27 w27 B27
        intro a28 w28 B28 H28
        refine ops_done ?_
        refine then_normal ?_
        refine f_condF H28 (.tmp 0 rfl) ?_
        refine wp_skip ?_
        refine then_normal ?_
        refine wp_seq ?_
        refine wp_seq ?_
        refine flow_region (dsts := [some 75, some 76]) (refs := [[.pre 4], [.res 0, .pre 5]]) (outs := [.res 1, .pre 1, .pre 2, .pre 3, .pre 4, .pre 5]) (als := [false, false]) (posts := [.val (Lit (.int .u64 x)), .val (IsB true)])
          (out := [(76, .val (IsB true)), (11, .val (Lit (.int .u64 9221120237041090560))), (10, .box 37 8 (IsNum (.flt 9221120237041090560))), (4, .val (IsB false)), (0, .val (Lit (.int .u64 x))), (113, .val (EnvV))]) (nb := []) H28 2 [] rfl (by kernel_rfl) rfl rfl ?_ ?_
        · refine .cons (.plain rfl (ok_move (.tmp 0 rfl))) ?_
          refine .cons (.plain rfl (ok_callE ((con_nan15 x hx).weak (fun v w B h => by rw [hn] at h; exact h)) 1 rfl (.cons (.tmp 0 rfl) (.nil)))) ?_
          exact .nil
        clear H28 a28 w28 B28
        intro a29 w29 B29 H29
        refine ops_done ?_
        refine then_normal ?_
        refine f_condT H29 (.tmp 0 rfl) ?_
        refine wp_seq ?_
        refine flow_region (dsts := [some 77, some 78, some 79, some 80, some 81, some 82, some 83, some 84, some 85, some 86, some 4]) (refs := [[.pre 1], [.res 0], [.res 1], [.res 2, .pre 2], [.res 2, .res 3], [.res 2, .res 4], [.res 2, .res 5], [.res 6], [.res 7, .pre 5], [.res 7, .res 8], [.res 9]]) (outs := [.res 10, .pre 1, .pre 2, .pre 4, .pre 5]) (als := [false, false, false, false, false, false, false, false, false, false, false]) (posts := [.val (Lit (.int .u64 9221120237041090560)), .val (IsB true), .val (IsB true), .ptr 37 8 (IsNum (.flt 9221120237041090560)) 0, .val (Lit (.int .i8 4)), .val (IsB true), .val (IsB true), .val (IsB true), .val (IsB true), .val (IsB true), .val (IsB true)])
          (out := [(4, .val (IsB true)), (11, .val (Lit (.int .u64 9221120237041090560))), (10, .box 37 8 (IsNum (.flt 9221120237041090560))), (0, .val (Lit (.int .u64 x))), (113, .val (EnvV))]) (nb := []) H29 11 [] rfl (by kernel_rfl) rfl rfl ?_ ?_
        · refine .cons (.plain rfl (ok_move (.tmp 0 rfl))) ?_
          refine .cons (.plain rfl (ok_cmp (b := true) (.tmp 0 rfl) (.lit) (by decide))) ?_
          refine .cons (.plain rfl (ok_move (.tmp 0 rfl))) ?_
          refine .cons (.wanted 2 true rfl rfl rfl 0 rfl (ok_addrV0 (.tmp 1 rfl))) ?_
          refine .cons (.wanted 2 true rfl rfl rfl 0 rfl (ok_loadV0 (.tmp 1 rfl))) ?_
          refine .cons (.wanted 2 true rfl rfl rfl 0 rfl (ok_cmp (b := true) (.tmp 1 rfl) (.lit) (by decide))) ?_
          refine .cons (.plain rfl (ok_pickT (.tmp 0 rfl) (.tmp 1 rfl))) ?_
          refine .cons (.plain rfl (ok_move (.tmp 0 rfl))) ?_
          refine .cons (.wanted 7 true rfl rfl rfl 0 rfl (ok_callE (con_lives15) 1 rfl (.nil))) ?_
          refine .cons (.plain rfl (ok_pickT (.tmp 0 rfl) (.tmp 1 rfl))) ?_
          refine .cons (.plain rfl (ok_assign (.tmp 0 rfl))) ?_
          exact .nil
        clear H29 a29 w29 B29
        intro a30 w30 B30 H30
        refine ops_done ?_
        refine then_normal ?_
        refine wp_ret ?_
        refine then_ret ?_
        exact f_ret H30 rfl 0 rfl (fun _ _ _ h => h)
      · have hz2 := ok_of wd64 x (hx64v hx)
        rw [hof2] at hz2
        refine flow_region (dsts := [some 61, some 62, some 10]) (refs := [[.pre 4], [.res 0, .pre 5], []]) (outs := [.res 1, .res 2, .pre 3, .pre 4, .pre 5]) (als := [false, false, true]) (posts := [.val (Lit (.int .u64 x)), .val (IsNum z2), .box 37 8 (IsVal 0 0 (IsI 0) 0 0 (⟨#[]⟩) (K0))])
          (out := [(62, .val (IsNum z2)), (10, .box 37 8 (IsVal 0 0 (IsI 0) 0 0 (⟨#[]⟩) (K0))), (4, .val (IsB false)), (0, .val (Lit (.int .u64 x))), (113, .val (EnvV))]) (nb := [10]) H24 3 [3] rfl (by kernel_rfl) rfl rfl ?_ ?_
        · refine .cons (.plain rfl (ok_move (.tmp 0 rfl))) ?_
          refine .cons (.plain rfl (ok_callE ((con_of64 x hx).weak (fun v w B h => num_eq hof2 h)) 1 rfl (.cons (.tmp 0 rfl) (.nil)))) ?_
          refine .cons (.plain rfl (ok_allocV)) ?_
          exact .nil
        clear H24 a24 w24 B24
        intro a31 w31 B31 H31
        simp only [List.cons_append, List.nil_append] at H31
        refine ops_one ?_
        refine store_op (l' := [(62, .val (IsNum z2)), (10, .box 37 8 (IsNum z2)), (4, .val (IsB false)), (0, .val (Lit (.int .u64 x))), (113, .val (EnvV))]) 1 H31 rfl tyV rfl (.tmp 0 rfl) (shape_Val shape_I oneK0) shape_Num rfl rfl ?_
        clear H31 w31
        intro w32 H32
        refine ops_done ?_
        refine then_normal ?_
        refine wp_seq ?_
        refine flow_region (dsts := [some 64, some 65, some 63, some 66, some 67, some 11, some 12]) (refs := [[.pre 1], [.res 0, .pre 4], [.res 1], [.res 2], [.res 2], [.res 3], [.res 4]]) (outs := [.res 5, .res 6, .pre 1, .pre 2, .pre 3, .pre 4]) (als := [false, false, false, false, false, false, false]) (posts := [.val (IsNum z2), .val (Tup [Lit (.int .u64 b2), IsB true]), .val (Tup [Lit (.int .u64 b2), IsB true]), .val (Lit (.int .u64 b2)), .val (IsB true), .val (Lit (.int .u64 b2)), .val (IsB true)])
          (out := [(11, .val (Lit (.int .u64 b2))), (12, .val (IsB true)), (10, .box 37 8 (IsNum z2)), (4, .val (IsB false)), (0, .val (Lit (.int .u64 x))), (113, .val (EnvV))]) (nb := []) H32 7 [] rfl (by kernel_rfl) rfl rfl ?_ ?_
        · refine .cons (.plain rfl (ok_load tyV (.tmp 0 rfl))) ?_
          refine .cons (.plain rfl (ok_callE ((con_nbits z2 hz2).weak (fun v w B h => by rw [hq2] at h; exact h)) 1 rfl (.cons (.tmp 0 rfl) (.nil)))) ?_
          refine .cons (.plain rfl (ok_move (.tmp 0 rfl))) ?_
          refine .cons (.plain rfl (ok_extract 0 (.tmp 0 rfl) rfl)) ?_
          refine .cons (.plain rfl (ok_extract 1 (.tmp 0 rfl) rfl)) ?_
          refine .cons (.plain rfl (ok_assign (.tmp 0 rfl))) ?_
          refine .cons (.plain rfl (ok_assign (.tmp 0 rfl))) ?_
          exact .nil
        clear H32 a31 w32 B31
        intro a33 w33 B33 H33
        refine ops_done ?_
        refine then_normal ?_
        refine wp_seq ?_
        refine wp_seq ?_
        refine flow_region (dsts := [some 68, some 69, some 70, some 71, some 72, some 73, some 74]) (refs := [[.pre 2], [.res 0, .pre 5], [.res 1], [.res 2], [.res 3, .pre 1], [.res 3, .res 4], [.res 3, .res 5]]) (outs := [.res 6, .pre 0, .pre 2, .pre 3, .pre 4, .pre 5]) (als := [false, false, false, false, false, false, false]) (posts := [.val (IsNum z2), .val (IsErr true), .val (IsB false), .val (IsB false), .val (IsB true), .val (IsB false), .val (IsB false)])
          (out := [(74, .val (IsB false)), (11, .val (Lit (.int .u64 b2))), (10, .box 37 8 (IsNum z2)), (4, .val (IsB false)), (0, .val (Lit (.int .u64 x))), (113, .val (EnvV))]) (nb := []) H33 7 [] rfl (by kernel_rfl) rfl rfl ?_ ?_
        · refine .cons (.plain rfl (ok_load tyV (.tmp 0 rfl))) ?_
          refine .cons (.plain rfl (ok_callE (con_vcheck (z2) hz2) 1 rfl (.cons (.tmp 0 rfl) (.nil)))) ?_
          refine .cons (.plain rfl (ok_neErr (b := true) (.tmp 0 rfl))) ?_
          refine .cons (.plain rfl (ok_move (.tmp 0 rfl))) ?_
          refine .cons (.wanted 3 false rfl rfl rfl 0 rfl (ok_move (.tmp 1 rfl))) ?_
          refine .cons (.wanted 3 false rfl rfl rfl 0 rfl (ok_not (b := true) (.tmp 1 rfl))) ?_
          refine .cons (.plain rfl (ok_pickF (.tmp 0 rfl) (.tmp 1 rfl))) ?_
          exact .nil
        clear H33 a33 w33 B33
        intro a34 w34 B34 H34
        refine ops_done ?_
        refine then_normal ?_
        refine f_condF H34 (.tmp 0 rfl) ?_
        refine wp_skip ?_
        refine then_normal ?_
        refine wp_seq ?_
        refine wp_seq ?_
        refine flow_region (dsts := [some 75, some 76]) (refs := [[.pre 4], [.res 0, .pre 5]]) (outs := [.res 1, .pre 1, .pre 2, .pre 3, .pre 4, .pre 5]) (als := [false, false]) (posts := [.val (Lit (.int .u64 x)), .val (IsB false)])
          (out := [(76, .val (IsB false)), (11, .val (Lit (.int .u64 b2))), (10, .box 37 8 (IsNum z2)), (4, .val (IsB false)), (0, .val (Lit (.int .u64 x))), (113, .val (EnvV))]) (nb := []) H34 2 [] rfl (by kernel_rfl) rfl rfl ?_ ?_
        · refine .cons (.plain rfl (ok_move (.tmp 0 rfl))) ?_
          refine .cons (.plain rfl (ok_callE ((con_nan15 x hx).weak (fun v w B h => by rw [hn] at h; exact h)) 1 rfl (.cons (.tmp 0 rfl) (.nil)))) ?_
          exact .nil
        clear H34 a34 w34 B34
        intro a35 w35 B35 H35
        refine ops_done ?_
        refine then_normal ?_
        refine f_condF H35 (.tmp 0 rfl) ?_
        refine wp_skip ?_
        refine then_normal ?_
        refine wp_seq ?_
        refine flow_region (dsts := [some 88, some 89, some 90, some 87, some 91, some 92, some 13, some 14]) (refs := [[.pre 4], [.pre 1], [.res 0, .res 1, .pre 5], [.res 2], [.res 3], [.res 3], [.res 4], [.res 5]]) (outs := [.res 6, .res 7, .pre 2, .pre 3, .pre 4, .pre 5]) (als := [false, false, false, false, false, false, false, false]) (posts := [.val (Lit (.int .u64 x)), .val (Lit (.int .u64 b2)), .val (Tup [Lit (.int .i64 0), IsB true]), .val (Tup [Lit (.int .i64 0), IsB true]), .val (Lit (.int .i64 0)), .val (IsB true), .val (Lit (.int .i64 0)), .val (IsB true)])
          (out := [(13, .val (Lit (.int .i64 0))), (14, .val (IsB true)), (10, .box 37 8 (IsNum z2)), (4, .val (IsB false)), (0, .val (Lit (.int .u64 x))), (113, .val (EnvV))]) (nb := []) H35 8 [] rfl (by kernel_rfl) rfl rfl ?_ ?_
        · refine .cons (.plain rfl (ok_move (.tmp 0 rfl))) ?_
          refine .cons (.plain rfl (ok_move (.tmp 0 rfl))) ?_
          refine .cons (.plain rfl (ok_callE ((con_icmp64 x b2 hx hb2).weak (fun v w B h => by rw [hcmp] at h; exact h)) 2 rfl (.cons (.tmp 0 rfl) (.cons (.tmp 1 rfl) (.nil))))) ?_
          refine .cons (.plain rfl (ok_move (.tmp 0 rfl))) ?_
          refine .cons (.plain rfl (ok_extract 0 (.tmp 0 rfl) rfl)) ?_
          refine .cons (.plain rfl (ok_extract 1 (.tmp 0 rfl) rfl)) ?_
          refine .cons (.plain rfl (ok_assign (.tmp 0 rfl))) ?_
          refine .cons (.plain rfl (ok_assign (.tmp 0 rfl))) ?_
          exact .nil
        clear H35 a35 w35 B35
        intro a36 w36 B36 H36
        refine ops_done ?_
        refine then_normal ?_
        refine wp_seq ?_
        refine flow_region (dsts := [some 94, some 95, some 93, some 96, some 97, some 15]) (refs := [[.pre 4], [.res 0, .pre 5], [.res 1], [.res 2], [.res 2], []]) (outs := [.res 3, .res 4, .res 5, .pre 0, .pre 1, .pre 2, .pre 3, .pre 5]) (als := [false, false, false, false, false, true]) (posts := [.val (Lit (.int .u64 x)), .val (Tup [IsI (intN 64 x), IsB (intOk 64 x)]), .val (Tup [IsI (intN 64 x), IsB (intOk 64 x)]), .val (IsI (intN 64 x)), .val (IsB (intOk 64 x)), .box 34 2 (Zero2)])
          (out := [(96, .val (IsI (intN 64 x))), (97, .val (IsB (intOk 64 x))), (15, .box 34 2 (Zero2)), (13, .val (Lit (.int .i64 0))), (14, .val (IsB true)), (10, .box 37 8 (IsNum z2)), (4, .val (IsB false)), (113, .val (EnvV))]) (nb := [15]) H36 6 [6, 7] rfl (by kernel_rfl) rfl rfl ?_ ?_
        · refine .cons (.plain rfl (ok_move (.tmp 0 rfl))) ?_
          refine .cons (.plain rfl (ok_callE (con_iint64 x hx) 1 rfl (.cons (.tmp 0 rfl) (.nil)))) ?_
          refine .cons (.plain rfl (ok_move (.tmp 0 rfl))) ?_
          refine .cons (.plain rfl (ok_extract 0 (.tmp 0 rfl) rfl)) ?_
          refine .cons (.plain rfl (ok_extract 1 (.tmp 0 rfl) rfl)) ?_
          refine .cons (.plain rfl (ok_alloc (D := Zero2) zeroI rfl (fun _ _ => rfl))) ?_
          exact .nil
        clear H36 a36 w36 B36
        intro a37 w37 B37 H37
        simp only [List.cons_append, List.nil_append] at H37
        refine ops_one ?_
        refine store_op (l' := [(96, .val (IsI (intN 64 x))), (97, .val (IsB (intOk 64 x))), (15, .box 34 2 (IsI (intN 64 x))), (13, .val (Lit (.int .i64 0))), (14, .val (IsB true)), (10, .box 37 8 (IsNum z2)), (4, .val (IsB false)), (113, .val (EnvV))]) 2 H37 rfl tyI rfl (.tmp 0 rfl) shape_Z shape_I rfl rfl ?_
        clear H37 w37
        intro w38 H38
        refine ops_one ?_
        refine tail_op (D := .val (IsB (intOk 64 x))) (l' := [(16, .val (IsB (intOk 64 x))), (96, .val (IsI (intN 64 x))), (97, .val (IsB (intOk 64 x))), (15, .box 34 2 (IsI (intN 64 x))), (13, .val (Lit (.int .i64 0))), (14, .val (IsB true)), (10, .box 37 8 (IsNum z2)), (4, .val (IsB false)), (113, .val (EnvV))]) H38 rfl rfl rfl (.plain rfl (ok_assign (.tmp 1 rfl))) rfl rfl ?_
        clear H38 a37 w38 B37
        intro a39 w39 B39 H39
        refine ops_done ?_
        refine then_normal ?_
        refine wp_seq ?_
        refine flow_region (dsts := [some 98, some 99, some 100, some 101, some 102, some 103, some 104, some 105, some 106, some 107, some 108, some 109, some 110, some 111, some 112, some 4]) (refs := [[.pre 4], [.res 0], [.res 1], [.res 2, .pre 5], [.res 2, .res 3], [.res 4], [.res 5, .pre 6], [.res 5, .res 6], [.res 5, .res 7], [.res 5, .pre 0], [.res 5, .res 8, .res 9], [.res 5, .res 10], [.res 11], [.res 12, .pre 8], [.res 12, .res 13], [.res 14]]) (outs := [.res 15, .pre 8]) (als := [false, false, false, false, false, false, false, false, false, false, false, false, false, false, false, false]) (posts := [.val (Lit (.int .i64 0)), .val (IsB true), .val (IsB true), .val (IsB true), .val (IsB true), .val (IsB true), .ptr 37 8 (IsNum z2) 0, .val (Lit (.int .i8 z2.k)), .val (IsB (decide (z2.k = 3))), .val (IsB (intOk 64 x)), .val (IsB true), .val (IsB true), .val (IsB true), .val (IsB true), .val (IsB true), .val (IsB true)])
          (out := [(4, .val (IsB true)), (113, .val (EnvV))]) (nb := []) H39 16 [] rfl (by kernel_rfl) rfl rfl ?_ ?_
        · refine .cons (.plain rfl (ok_move (.tmp 0 rfl))) ?_
          refine .cons (.plain rfl (ok_cmp (b := true) (.tmp 0 rfl) (.lit) (by decide))) ?_
          refine .cons (.plain rfl (ok_move (.tmp 0 rfl))) ?_
          refine .cons (.wanted 2 true rfl rfl rfl 0 rfl (ok_move (.tmp 1 rfl))) ?_
          refine .cons (.plain rfl (ok_pickT (.tmp 0 rfl) (.tmp 1 rfl))) ?_
          refine .cons (.plain rfl (ok_move (.tmp 0 rfl))) ?_
          refine .cons (.wanted 5 true rfl rfl rfl 0 rfl (ok_addrV0 (.tmp 1 rfl))) ?_
          refine .cons (.wanted 5 true rfl rfl rfl 0 rfl (ok_loadV0 (.tmp 1 rfl))) ?_
          refine .cons (.wanted 5 true rfl rfl rfl 0 rfl (ok_cmp (.tmp 1 rfl) (.lit) rfl)) ?_
          refine .cons (.wanted 5 true rfl rfl rfl 0 rfl (ok_move (.tmp 1 rfl))) ?_
          refine .cons (.wanted 5 true rfl rfl rfl 0 rfl (OpOk.eqB (b := (decide (z2.k = 3)) == (intOk 64 x)) (ok_eqB Tryz.underlying4 (.tmp 1 rfl) (.tmp 2 rfl)) (hzk))) ?_
          refine .cons (.plain rfl (ok_pickT (.tmp 0 rfl) (.tmp 1 rfl))) ?_
          refine .cons (.plain rfl (ok_move (.tmp 0 rfl))) ?_
          refine .cons (.wanted 12 true rfl rfl rfl 0 rfl (ok_callE (con_lives15) 1 rfl (.nil))) ?_
          refine .cons (.plain rfl (ok_pickT (.tmp 0 rfl) (.tmp 1 rfl))) ?_
          refine .cons (.plain rfl (ok_assign (.tmp 0 rfl))) ?_
          exact .nil
        clear H39 a39 w39 B39
        intro a40 w40 B40 H40
        refine ops_done ?_
        refine then_normal ?_
        refine wp_ret ?_
        exact f_ret H40 rfl 0 rfl (fun _ _ _ h => h)
    · refine flow_region (dsts := [some 21, some 22, some 20, some 23, some 24, some 5, some 6]) (refs := [[.pre 1], [.res 0, .pre 4], [.res 1], [.res 2], [.res 2], [.res 3], [.res 4]]) (outs := [.res 5, .res 6, .pre 1, .pre 2, .pre 3, .pre 4]) (als := [false, false, false, false, false, false, false]) (posts := [.val (IsVA t), .val (Tup [Lit (.int .u64 b), IsB true]), .val (Tup [Lit (.int .u64 b), IsB true]), .val (Lit (.int .u64 b)), .val (IsB true), .val (Lit (.int .u64 b)), .val (IsB true)])
        (out := [(5, .val (Lit (.int .u64 b))), (6, .val (IsB true)), (3, .box 37 8 (IsVA t)), (4, .val (IsB false)), (0, .val (Lit (.int .u64 x))), (113, .val (EnvV))]) (nb := []) H2 7 [] rfl (by kernel_rfl) rfl rfl ?_ ?_
      · refine .cons (.plain rfl (ok_load tyV (.tmp 0 rfl))) ?_
        refine .cons (.plain rfl (ok_callE ((con_nbits z hz).weak (fun v w B h => by rw [hq] at h; exact h)) 1 rfl (.cons (.weak (.tmp 0 rfl) hvn) (.nil)))) ?_
        refine .cons (.plain rfl (ok_move (.tmp 0 rfl))) ?_
        refine .cons (.plain rfl (ok_extract 0 (.tmp 0 rfl) rfl)) ?_
        refine .cons (.plain rfl (ok_extract 1 (.tmp 0 rfl) rfl)) ?_
        refine .cons (.plain rfl (ok_assign (.tmp 0 rfl))) ?_
        refine .cons (.plain rfl (ok_assign (.tmp 0 rfl))) ?_
        exact .nil
      clear H2 a2 w2 B2
      intro a41 w41 B41 H41
      refine ops_done ?_
      refine then_normal ?_
      refine wp_seq ?_
      refine flow_region (dsts := [some 25]) (refs := [[.pre 1]]) (outs := [.res 0, .pre 0, .pre 2, .pre 3, .pre 4, .pre 5]) (als := [false]) (posts := [.val (IsB true)])
        (out := [(25, .val (IsB true)), (5, .val (Lit (.int .u64 b))), (3, .box 37 8 (IsVA t)), (4, .val (IsB false)), (0, .val (Lit (.int .u64 x))), (113, .val (EnvV))]) (nb := []) H41 1 [] rfl (by kernel_rfl) rfl rfl ?_ ?_
      · refine .cons (.plain rfl (ok_move (.tmp 0 rfl))) ?_
        exact .nil
      clear H41 a41 w41 B41
      intro a42 w42 B42 H42
      refine ops_done ?_
      refine then_normal ?_
      refine f_condT H42 (.tmp 0 rfl) ?_
      refine wp_seq ?_
      refine flow_region (dsts := [some 27, some 28, some 26, some 29, some 30, some 31, some 7, some 8, some 9]) (refs := [[.pre 2], [.res 0, .pre 5], [.res 1], [.res 2], [.res 2], [.res 2], [.res 3], [.res 4], [.res 5]]) (outs := [.res 6, .res 7, .res 8, .pre 1, .pre 2, .pre 3, .pre 4, .pre 5]) (als := [false, false, false, false, false, false, false, false, false]) (posts := [.val (IsVA t), .val (Tup [Lit (.int .i64 16), Lit (.int .u64 y), IsB true]), .val (Tup [Lit (.int .i64 16), Lit (.int .u64 y), IsB true]), .val (Lit (.int .i64 16)), .val (Lit (.int .u64 y)), .val (IsB true), .val (Lit (.int .i64 16)), .val (Lit (.int .u64 y)), .val (IsB true)])
        (out := [(7, .val (Lit (.int .i64 16))), (8, .val (Lit (.int .u64 y))), (9, .val (IsB true)), (5, .val (Lit (.int .u64 b))), (3, .box 37 8 (IsVA t)), (4, .val (IsB false)), (0, .val (Lit (.int .u64 x))), (113, .val (EnvV))]) (nb := []) H42 9 [] rfl (by kernel_rfl) rfl rfl ?_ ?_
      · refine .cons (.plain rfl (ok_load tyV (.tmp 0 rfl))) ?_
        refine .cons (.plain rfl (ok_callE ((con_narrow z hz).weak (fun v w B h => by rw [hq, hq3] at h; exact h)) 1 rfl (.cons (.weak (.tmp 0 rfl) hvn) (.nil)))) ?_
        refine .cons (.plain rfl (ok_move (.tmp 0 rfl))) ?_
        refine .cons (.plain rfl (ok_extract 0 (.tmp 0 rfl) rfl)) ?_
        refine .cons (.plain rfl (ok_extract 1 (.tmp 0 rfl) rfl)) ?_
        refine .cons (.plain rfl (ok_extract 2 (.tmp 0 rfl) rfl)) ?_
        refine .cons (.plain rfl (ok_assign (.tmp 0 rfl))) ?_
        refine .cons (.plain rfl (ok_assign (.tmp 0 rfl))) ?_
        refine .cons (.plain rfl (ok_assign (.tmp 0 rfl))) ?_
        exact .nil
      clear H42 a42 w42 B42
      intro a43 w43 B43 H43
      refine ops_done ?_
      refine then_normal ?_
      refine wp_seq ?_
      refine flow_drawT (dsts := [some 32, some 33, some 34, some 35, some 36, some 37, some 38, some 39, some 40, some 41, some 42, some 43, some 44, some 45, some 46, some 47, some 48, some 49, some 50, some 51, some 52, some 53, some 54, some 55, some 56, some 57, some 58, some 59, some 60]) (refs := [[.pre 2], [.res 0], [.res 1], [.res 2, .pre 3], [.res 2, .res 3, .pre 7], [.res 2, .pre 4], [.res 2, .res 4, .res 5], [.res 2, .res 6], [.res 2, .res 7], [.res 8], [.res 9, .pre 0], [.res 9, .pre 1], [.res 9, .res 10, .res 11, .pre 7], [.res 9, .pre 4], [.res 9, .res 12, .res 13], [.res 9, .res 14], [.res 9, .res 15], [.res 16], [.res 17, .pre 0], [.res 17, .res 18], [.res 17, .res 19], [.res 20], [.res 20], [.res 17, .res 20], [.res 17, .res 23], [.res 24], [.res 24], [.res 17, .res 24], [.res 17, .res 27]]) (outs := [.res 28, .pre 5, .pre 6, .pre 7]) (als := [false, false, false, false, false, false, false, false, false, false, false, false, false, false, false, false, false, false, false, false, false, false, false, false, false, false, false, false, false]) (posts := [.val (IsB true), .val (IsB false), .val (IsB false), .val (Lit (.int .u64 b)), .val (IsNum z), .val (IsVA t), .val (IsB true), .val (IsB false), .val (IsB false), .val (IsB false), .val (Lit (.int .i64 16)), .val (Lit (.int .u64 y)), .val (IsNum z), .val (IsVA t), .val (IsB true), .val (IsB false), .val (IsB false), .val (IsB false), .val (Lit (.int .i64 16)), .val (IsB false), .val (IsB false), .val (IsUndef), .val (IsUndef), .val (IsB false), .val (IsB false), .val (IsUndef), .val (IsUndef), .val (IsB false), .val (IsB false)])
        (out := [(60, .val (IsB false)), (4, .val (IsB false)), (0, .val (Lit (.int .u64 x))), (113, .val (EnvV))]) (nb := []) H43 (by kernel_rfl) 29 0 #[true, true, true, true, true, true, true, true, true, true, true, true, true, true, true, true, true, true, true, true, true, true, true, true, true, true, true, true, true] (by kernel_rfl) (by kernel_rfl) rfl rfl ?_ ?_
      · refine .cons (.plain rfl (ok_move (.tmp 0 rfl))) ?_
        refine .cons (.plain rfl (ok_not (b := true) (.tmp 0 rfl))) ?_
        refine .cons (.plain rfl (ok_move (.tmp 0 rfl))) ?_
        refine .cons (.wanted 2 false rfl rfl rfl 0 rfl (ok_move (.tmp 1 rfl))) ?_
        refine .cons (.wanted 2 false rfl rfl rfl 0 rfl (ok_callE ((con_of64 b hb).weak (fun v w B h => num_eq hof h)) 2 rfl (.cons (.tmp 1 rfl) (.nil)))) ?_
        refine .cons (.wanted 2 false rfl rfl rfl 0 rfl (ok_load tyV (.tmp 1 rfl))) ?_
        refine .cons (.wanted 2 false rfl rfl rfl 0 rfl (ok_call ((con_sameval z z).weak (fun v w B h => isB_e (decide_eq_true rfl) h)) (.cons (.tmp 1 rfl) (.cons (.weak (.tmp 2 rfl) hvn) (.nil))))) ?_
        refine .cons (.wanted 2 false rfl rfl rfl 0 rfl (ok_not (b := true) (.tmp 1 rfl))) ?_
        refine .cons (.plain rfl (ok_pickF (.tmp 0 rfl) (.tmp 1 rfl))) ?_
        refine .cons (.plain rfl (ok_move (.tmp 0 rfl))) ?_
        refine .cons (.wanted 9 false rfl rfl rfl 0 rfl (ok_move (.tmp 1 rfl))) ?_
        refine .cons (.wanted 9 false rfl rfl rfl 0 rfl (ok_move (.tmp 1 rfl))) ?_
        refine .cons (.wanted 9 false rfl rfl rfl 0 rfl (ok_callE ((con_read16 y hy).weak (fun v w B h => num_eq hof3 h)) 3 rfl (.cons (.tmp 1 rfl) (.cons (.tmp 2 rfl) (.nil))))) ?_
        refine .cons (.wanted 9 false rfl rfl rfl 0 rfl (ok_load tyV (.tmp 1 rfl))) ?_
        refine .cons (.wanted 9 false rfl rfl rfl 0 rfl (ok_call ((con_sameval z z).weak (fun v w B h => isB_e (decide_eq_true rfl) h)) (.cons (.tmp 1 rfl) (.cons (.weak (.tmp 2 rfl) hvn) (.nil))))) ?_
        refine .cons (.wanted 9 false rfl rfl rfl 0 rfl (ok_not (b := true) (.tmp 1 rfl))) ?_
        refine .cons (.plain rfl (ok_pickF (.tmp 0 rfl) (.tmp 1 rfl))) ?_
        refine .cons (.plain rfl (ok_move (.tmp 0 rfl))) ?_
        refine .cons (.wanted 17 false rfl rfl rfl 0 rfl (ok_move (.tmp 1 rfl))) ?_
        refine .cons (.wanted 17 false rfl rfl rfl 0 rfl (ok_cmp (b := false) (.tmp 1 rfl) (.lit) (by decide))) ?_
        refine .cons (.wanted 17 false rfl rfl rfl 0 rfl (ok_move (.tmp 1 rfl))) ?_
        refine .cons (.unwanted 20 true rfl rfl rfl 0 rfl) ?_
        refine .cons (.unwanted 20 true rfl rfl rfl 0 rfl) ?_
        refine .cons (.wanted 17 false rfl rfl rfl 0 rfl (ok_pickF (.tmp 1 rfl) (.lit))) ?_
        refine .cons (.wanted 17 false rfl rfl rfl 0 rfl (ok_move (.tmp 1 rfl))) ?_
        refine .cons (.unwanted 24 true rfl rfl rfl 0 rfl) ?_
        refine .cons (.unwanted 24 true rfl rfl rfl 0 rfl) ?_
        refine .cons (.wanted 17 false rfl rfl rfl 0 rfl (ok_pickF (.tmp 1 rfl) (.lit))) ?_
        refine .cons (.plain rfl (ok_pickF (.tmp 0 rfl) (.tmp 1 rfl))) ?_
        exact .nil
      clear H43 a43 w43 B43
      intro a44 w44 B44 H44
      refine any_done (by kernel_rfl) ?_
      refine then_normal ?_
      refine f_condF H44 (.tmp 0 rfl) ?_
      refine wp_skip ?_
      refine then_normal ?_
      refine wp_seq ?_
      rcases (back_x x hx) with ⟨hn, hof2, hq2⟩ | ⟨hn, z2, b2, hof2, hq2, hb2, hcmp, hzk⟩
      · have hz2 := ok_of wd64 x (hx64v hx)
        rw [hof2] at hz2
        refine flow_region (dsts := [some 61, some 62, some 10]) (refs := [[.pre 2], [.res 0, .pre 3], []]) (outs := [.res 1, .res 2, .pre 1, .pre 2, .pre 3]) (als := [false, false, true]) (posts := [.val (Lit (.int .u64 x)), .val (IsNum (.flt 9221120237041090560)), .box 37 8 (IsVal 0 0 (IsI 0) 0 0 (⟨#[]⟩) (K0))])
          (out := [(62, .val (IsNum (.flt 9221120237041090560))), (10, .box 37 8 (IsVal 0 0 (IsI 0) 0 0 (⟨#[]⟩) (K0))), (4, .val (IsB false)), (0, .val (Lit (.int .u64 x))), (113, .val (EnvV))]) (nb := [10]) H44 3 [3] rfl (by kernel_rfl) rfl rfl ?_ ?_
        · refine .cons (.plain rfl (ok_move (.tmp 0 rfl))) ?_
          refine .cons (.plain rfl (ok_callE ((con_of64 x hx).weak (fun v w B h => num_eq hof2 h)) 1 rfl (.cons (.tmp 0 rfl) (.nil)))) ?_
          refine .cons (.plain rfl (ok_allocV)) ?_
          exact .nil
        clear H44 a44 w44 B44
        intro a45 w45 B45 H45
        simp only [List.cons_append, List.nil_append] at H45
        refine ops_one ?_
        refine store_op (l' := [(62, .val (IsNum (.flt 9221120237041090560))), (10, .box 37 8 (IsNum (.flt 9221120237041090560))), (4, .val (IsB false)), (0, .val (Lit (.int .u64 x))), (113, .val (EnvV))]) 1 H45 rfl tyV rfl (.tmp 0 rfl) (shape_Val shape_I oneK0) shape_Num rfl rfl ?_
        clear H45 w45
        intro w46 H46
        refine ops_done ?_
        refine then_normal ?_
        refine wp_seq ?_
        refine flow_region (dsts := [some 64, some 65, some 63, some 66, some 67, some 11, some 12]) (refs := [[.pre 1], [.res 0, .pre 4], [.res 1], [.res 2], [.res 2], [.res 3], [.res 4]]) (outs := [.res 5, .res 6, .pre 1, .pre 2, .pre 3, .pre 4]) (als := [false, false, false, false, false, false, false]) (posts := [.val (IsNum (.flt 9221120237041090560)), .val (Tup [Lit (.int .u64 9221120237041090560), IsB true]), .val (Tup [Lit (.int .u64 9221120237041090560), IsB true]), .val (Lit (.int .u64 9221120237041090560)), .val (IsB true), .val (Lit (.int .u64 9221120237041090560)), .val (IsB true)])
          (out := [(11, .val (Lit (.int .u64 9221120237041090560))), (12, .val (IsB true)), (10, .box 37 8 (IsNum (.flt 9221120237041090560))), (4, .val (IsB false)), (0, .val (Lit (.int .u64 x))), (113, .val (EnvV))]) (nb := []) H46 7 [] rfl (by kernel_rfl) rfl rfl ?_ ?_
        · refine .cons (.plain rfl (ok_load tyV (.tmp 0 rfl))) ?_
          refine .cons (.plain rfl (ok_callE ((con_nbits (.flt 9221120237041090560) hz2).weak (fun v w B h => by rw [hq2] at h; exact h)) 1 rfl (.cons (.tmp 0 rfl) (.nil)))) ?_
          refine .cons (.plain rfl (ok_move (.tmp 0 rfl))) ?_
          refine .cons (.plain rfl (ok_extract 0 (.tmp 0 rfl) rfl)) ?_
          refine .cons (.plain rfl (ok_extract 1 (.tmp 0 rfl) rfl)) ?_
          refine .cons (.plain rfl (ok_assign (.tmp 0 rfl))) ?_
          refine .cons (.plain rfl (ok_assign (.tmp 0 rfl))) ?_
          exact .nil
        clear H46 a45 w46 B45
        intro a47 w47 B47 H47
        refine ops_done ?_
        refine then_normal ?_
        refine wp_seq ?_
        refine wp_seq ?_
        refine flow_region (dsts := [some 68, some 69, some 70, some 71, some 72, some 73, some 74]) (refs := [[.pre 2], [.res 0, .pre 5], [.res 1], [.res 2], [.res 3, .pre 1], [.res 3, .res 4], [.res 3, .res 5]]) (outs := [.res 6, .pre 0, .pre 2, .pre 3, .pre 4, .pre 5]) (als := [false, false, false, false, false, false, false]) (posts := [.val (IsNum (.flt 9221120237041090560)), .val (IsErr true), .val (IsB false), .val (IsB false), .val (IsB true), .val (IsB false), .val (IsB false)])
          (out := [(74, .val (IsB false)), (11, .val (Lit (.int .u64 9221120237041090560))), (10, .box 37 8 (IsNum (.flt 9221120237041090560))), (4, .val (IsB false)), (0, .val (Lit (.int .u64 x))), (113, .val (EnvV))]) (nb := []) H47 7 [] rfl (by kernel_rfl) rfl rfl ?_ ?_
        · refine .cons (.plain rfl (ok_load tyV (.tmp 0 rfl))) ?_
          refine .cons (.plain rfl (ok_callE (con_vcheck (.flt 9221120237041090560) hz2) 1 rfl (.cons (.tmp 0 rfl) (.nil)))) ?_
          refine .cons (.plain rfl (ok_neErr (b := true) (.tmp 0 rfl))) ?_
          refine .cons (.plain rfl (ok_move (.tmp 0 rfl))) ?_
          refine .cons (.wanted 3 false rfl rfl rfl 0 rfl (ok_move (.tmp 1 rfl))) ?_
          refine .cons (.wanted 3 false rfl rfl rfl 0 rfl (ok_not (b := true) (.tmp 1 rfl))) ?_
          refine .cons (.plain rfl (ok_pickF (.tmp 0 rfl) (.tmp 1 rfl))) ?_
          exact .nil
        clear H47 a47 w47 B47
        intro a48 w48 B48 H48
        refine ops_done ?_
        refine then_normal ?_
        refine f_condF H48 (.tmp 0 rfl) ?_
        refine wp_skip ?_
        refine then_normal ?_
        refine wp_seq ?_
        refine wp_seq ?_
        refine flow_region (dsts := [some 75, some 76]) (refs := [[.pre 4], [.res 0, .pre 5]]) (outs := [.res 1, .pre 1, .pre 2, .pre 3, .pre 4, .pre 5]) (als := [false, false]) (posts := [.val (Lit (.int .u64 x)), .val (IsB true)])
          (out := [(76, .val (IsB true)), (11, .val (Lit (.int .u64 9221120237041090560))), (10, .box 37 8 (IsNum (.flt 9221120237041090560))), (4, .val (IsB false)), (0, .val (Lit (.int .u64 x))), (113, .val (EnvV))]) (nb := []) H48 2 [] rfl (by kernel_rfl) rfl rfl ?_ ?_
        · refine .cons (.plain rfl (ok_move (.tmp 0 rfl))) ?_
          refine .cons (.plain rfl (ok_callE ((con_nan15 x hx).weak (fun v w B h => by rw [hn] at h; exact h)) 1 rfl (.cons (.tmp 0 rfl) (.nil)))) ?_
          exact .nil
        clear H48 a48 w48 B48
        intro a49 w49 B49 H49
        refine ops_done ?_
        refine then_normal ?_
        refine f_condT H49 (.tmp 0 rfl) ?_
        refine wp_seq ?_
        refine flow_region (dsts := [some 77, some 78, some 79, some 80, some 81, some 82, some 83, some 84, some 85, some 86, some 4]) (refs := [[.pre 1], [.res 0], [.res 1], [.res 2, .pre 2], [.res 2, .res 3], [.res 2, .res 4], [.res 2, .res 5], [.res 6], [.res 7, .pre 5], [.res 7, .res 8], [.res 9]]) (outs := [.res 10, .pre 1, .pre 2, .pre 4, .pre 5]) (als := [false, false, false, false, false, false, false, false, false, false, false]) (posts := [.val (Lit (.int .u64 9221120237041090560)), .val (IsB true), .val (IsB true), .ptr 37 8 (IsNum (.flt 9221120237041090560)) 0, .val (Lit (.int .i8 4)), .val (IsB true), .val (IsB true), .val (IsB true), .val (IsB true), .val (IsB true), .val (IsB true)])
          (out := [(4, .val (IsB true)), (11, .val (Lit (.int .u64 9221120237041090560))), (10, .box 37 8 (IsNum (.flt 9221120237041090560))), (0, .val (Lit (.int .u64 x))), (113, .val (EnvV))]) (nb := []) H49 11 [] rfl (by kernel_rfl) rfl rfl ?_ ?_
        · refine .cons (.plain rfl (ok_move (.tmp 0 rfl))) ?_
          refine .cons (.plain rfl (ok_cmp (b := true) (.tmp 0 rfl) (.lit) (by decide))) ?_
          refine .cons (.plain rfl (ok_move (.tmp 0 rfl))) ?_
          refine .cons (.wanted 2 true rfl rfl rfl 0 rfl (ok_addrV0 (.tmp 1 rfl))) ?_
          refine .cons (.wanted 2 true rfl rfl rfl 0 rfl (ok_loadV0 (.tmp 1 rfl))) ?_
          refine .cons (.wanted 2 true rfl rfl rfl 0 rfl (ok_cmp (b := true) (.tmp 1 rfl) (.lit) (by decide))) ?_
          refine .cons (.plain rfl (ok_pickT (.tmp 0 rfl) (.tmp 1 rfl))) ?_
          refine .cons (.plain rfl (ok_move (.tmp 0 rfl))) ?_
          refine .cons (.wanted 7 true rfl rfl rfl 0 rfl (ok_callE (con_lives15) 1 rfl (.nil))) ?_
          refine .cons (.plain rfl (ok_pickT (.tmp 0 rfl) (.tmp 1 rfl))) ?_
          refine .cons (.plain rfl (ok_assign (.tmp 0 rfl))) ?_
          exact .nil
        clear H49 a49 w49 B49
        intro a50 w50 B50 H50
        refine ops_done ?_
        refine then_normal ?_
        refine wp_ret ?_
        refine then_ret ?_
        exact f_ret H50 rfl 0 rfl (fun _ _ _ h => h)
      · have hz2 := ok_of wd64 x (hx64v hx)
        rw [hof2] at hz2
        refine flow_region (dsts := [some 61, some 62, some 10]) (refs := [[.pre 2], [.res 0, .pre 3], []]) (outs := [.res 1, .res 2, .pre 1, .pre 2, .pre 3]) (als := [false, false, true]) (posts := [.val (Lit (.int .u64 x)), .val (IsNum z2), .box 37 8 (IsVal 0 0 (IsI 0) 0 0 (⟨#[]⟩) (K0))])
          (out := [(62, .val (IsNum z2)), (10, .box 37 8 (IsVal 0 0 (IsI 0) 0 0 (⟨#[]⟩) (K0))), (4, .val (IsB false)), (0, .val (Lit (.int .u64 x))), (113, .val (EnvV))]) (nb := [10]) H44 3 [3] rfl (by kernel_rfl) rfl rfl ?_ ?_
        · refine .cons (.plain rfl (ok_move (.tmp 0 rfl))) ?_
          refine .cons (.plain rfl (ok_callE ((con_of64 x hx).weak (fun v w B h => num_eq hof2 h)) 1 rfl (.cons (.tmp 0 rfl) (.nil)))) ?_
          refine .cons (.plain rfl (ok_allocV)) ?_
          exact .nil
        clear H44 a44 w44 B44
        intro a51 w51 B51 H51
        simp only [List.cons_append, List.nil_append] at H51
        refine ops_one ?_
        refine store_op (l' := [(62, .val (IsNum z2)), (10, .box 37 8 (IsNum z2)), (4, .val (IsB false)), (0, .val (Lit (.int .u64 x))), (113, .val (EnvV))]) 1 H51 rfl tyV rfl (.tmp 0 rfl) (shape_Val shape_I oneK0) shape_Num rfl rfl ?_
        clear H51 w51
        intro w52 H52
        refine ops_done ?_
        refine then_normal ?_
        refine wp_seq ?_
        refine flow_region (dsts := [some 64, some 65, some 63, some 66, some 67, some 11, some 12]) (refs := [[.pre 1], [.res 0, .pre 4], [.res 1], [.res 2], [.res 2], [.res 3], [.res 4]]) (outs := [.res 5, .res 6, .pre 1, .pre 2, .pre 3, .pre 4]) (als := [false, false, false, false, false, false, false]) (posts := [.val (IsNum z2), .val (Tup [Lit (.int .u64 b2), IsB true]), .val (Tup [Lit (.int .u64 b2), IsB true]), .val (Lit (.int .u64 b2)), .val (IsB true), .val (Lit (.int .u64 b2)), .val (IsB true)])
          (out := [(11, .val (Lit (.int .u64 b2))), (12, .val (IsB true)), (10, .box 37 8 (IsNum z2)), (4, .val (IsB false)), (0, .val (Lit (.int .u64 x))), (113, .val (EnvV))]) (nb := []) H52 7 [] rfl (by kernel_rfl) rfl rfl ?_ ?_
        · refine .cons (.plain rfl (ok_load tyV (.tmp 0 rfl))) ?_
          refine .cons (.plain rfl (ok_callE ((con_nbits z2 hz2).weak (fun v w B h => by rw [hq2] at h; exact h)) 1 rfl (.cons (.tmp 0 rfl) (.nil)))) ?_
          refine .cons (.plain rfl (ok_move (.tmp 0 rfl))) ?_
          refine .cons (.plain rfl (ok_extract 0 (.tmp 0 rfl) rfl)) ?_
          refine .cons (.plain rfl (ok_extract 1 (.tmp 0 rfl) rfl)) ?_
          refine .cons (.plain rfl (ok_assign (.tmp 0 rfl))) ?_
          refine .cons (.plain rfl (ok_assign (.tmp 0 rfl))) ?_
          exact .nil
        clear H52 a51 w52 B51
        intro a53 w53 B53 H53
        refine ops_done ?_
        refine then_normal ?_
        refine wp_seq ?_
        refine wp_seq ?_
        refine flow_region (dsts := [some 68, some 69, some 70, some 71, some 72, some 73, some 74]) (refs := [[.pre 2], [.res 0, .pre 5], [.res 1], [.res 2], [.res 3, .pre 1], [.res 3, .res 4], [.res 3, .res 5]]) (outs := [.res 6, .pre 0, .pre 2, .pre 3, .pre 4, .pre 5]) (als := [false, false, false, false, false, false, false]) (posts := [.val (IsNum z2), .val (IsErr true), .val (IsB false), .val (IsB false), .val (IsB true), .val (IsB false), .val (IsB false)])
          (out := [(74, .val (IsB false)), (11, .val (Lit (.int .u64 b2))), (10, .box 37 8 (IsNum z2)), (4, .val (IsB false)), (0, .val (Lit (.int .u64 x))), (113, .val (EnvV))]) (nb := []) H53 7 [] rfl (by kernel_rfl) rfl rfl ?_ ?_
        · refine .cons (.plain rfl (ok_load tyV (.tmp 0 rfl))) ?_
          refine .cons (.plain rfl (ok_callE (con_vcheck (z2) hz2) 1 rfl (.cons (.tmp 0 rfl) (.nil)))) ?_
          refine .cons (.plain rfl (ok_neErr (b := true) (.tmp 0 rfl))) ?_
          refine .cons (.plain rfl (ok_move (.tmp 0 rfl))) ?_
          refine .cons (.wanted 3 false rfl rfl rfl 0 rfl (ok_move (.tmp 1 rfl))) ?_
          refine .cons (.wanted 3 false rfl rfl rfl 0 rfl (ok_not (b := true) (.tmp 1 rfl))) ?_
          refine .cons (.plain rfl (ok_pickF (.tmp 0 rfl) (.tmp 1 rfl))) ?_
          exact .nil
        clear H53 a53 w53 B53
        intro a54 w54 B54 H54
        refine ops_done ?_
        refine then_normal ?_
        refine f_condF H54 (.tmp 0 rfl) ?_
        refine wp_skip ?_
        refine then_normal ?_
        refine wp_seq ?_
        refine wp_seq ?_
        refine flow_region (dsts := [some 75, some 76]) (refs := [[.pre 4], [.res 0, .pre 5]]) (outs := [.res 1, .pre 1, .pre 2, .pre 3, .pre 4, .pre 5]) (als := [false, false]) (posts := [.val (Lit (.int .u64 x)), .val (IsB false)])
          (out := [(76, .val (IsB false)), (11, .val (Lit (.int .u64 b2))), (10, .box 37 8 (IsNum z2)), (4, .val (IsB false)), (0, .val (Lit (.int .u64 x))), (113, .val (EnvV))]) (nb := []) H54 2 [] rfl (by kernel_rfl) rfl rfl ?_ ?_
        · refine .cons (.plain rfl (ok_move (.tmp 0 rfl))) ?_
          refine .cons (.plain rfl (ok_callE ((con_nan15 x hx).weak (fun v w B h => by rw [hn] at h; exact h)) 1 rfl (.cons (.tmp 0 rfl) (.nil)))) ?_
          exact .nil
        clear H54 a54 w54 B54
        intro a55 w55 B55 H55
        refine ops_done ?_
        refine then_normal ?_
        refine f_condF H55 (.tmp 0 rfl) ?_
        refine wp_skip ?_
        refine then_normal ?_
        refine wp_seq ?_
        refine flow_region (dsts := [some 88, some 89, some 90, some 87, some 91, some 92, some 13, some 14]) (refs := [[.pre 4], [.pre 1], [.res 0, .res 1, .pre 5], [.res 2], [.res 3], [.res 3], [.res 4], [.res 5]]) (outs := [.res 6, .res 7, .pre 2, .pre 3, .pre 4, .pre 5]) (als := [false, false, false, false, false, false, false, false]) (posts := [.val (Lit (.int .u64 x)), .val (Lit (.int .u64 b2)), .val (Tup [Lit (.int .i64 0), IsB true]), .val (Tup [Lit (.int .i64 0), IsB true]), .val (Lit (.int .i64 0)), .val (IsB true), .val (Lit (.int .i64 0)), .val (IsB true)])
          (out := [(13, .val (Lit (.int .i64 0))), (14, .val (IsB true)), (10, .box 37 8 (IsNum z2)), (4, .val (IsB false)), (0, .val (Lit (.int .u64 x))), (113, .val (EnvV))]) (nb := []) H55 8 [] rfl (by kernel_rfl) rfl rfl ?_ ?_
        · refine .cons (.plain rfl (ok_move (.tmp 0 rfl))) ?_
          refine .cons (.plain rfl (ok_move (.tmp 0 rfl))) ?_
          refine .cons (.plain rfl (ok_callE ((con_icmp64 x b2 hx hb2).weak (fun v w B h => by rw [hcmp] at h; exact h)) 2 rfl (.cons (.tmp 0 rfl) (.cons (.tmp 1 rfl) (.nil))))) ?_
          refine .cons (.plain rfl (ok_move (.tmp 0 rfl))) ?_
          refine .cons (.plain rfl (ok_extract 0 (.tmp 0 rfl) rfl)) ?_
          refine .cons (.plain rfl (ok_extract 1 (.tmp 0 rfl) rfl)) ?_
          refine .cons (.plain rfl (ok_assign (.tmp 0 rfl))) ?_
          refine .cons (.plain rfl (ok_assign (.tmp 0 rfl))) ?_
          exact .nil
        clear H55 a55 w55 B55
        intro a56 w56 B56 H56
        refine ops_done ?_
        refine then_normal ?_
        refine wp_seq ?_
        refine flow_region (dsts := [some 94, some 95, some 93, some 96, some 97, some 15]) (refs := [[.pre 4], [.res 0, .pre 5], [.res 1], [.res 2], [.res 2], []]) (outs := [.res 3, .res 4, .res 5, .pre 0, .pre 1, .pre 2, .pre 3, .pre 5]) (als := [false, false, false, false, false, true]) (posts := [.val (Lit (.int .u64 x)), .val (Tup [IsI (intN 64 x), IsB (intOk 64 x)]), .val (Tup [IsI (intN 64 x), IsB (intOk 64 x)]), .val (IsI (intN 64 x)), .val (IsB (intOk 64 x)), .box 34 2 (Zero2)])
          (out := [(96, .val (IsI (intN 64 x))), (97, .val (IsB (intOk 64 x))), (15, .box 34 2 (Zero2)), (13, .val (Lit (.int .i64 0))), (14, .val (IsB true)), (10, .box 37 8 (IsNum z2)), (4, .val (IsB false)), (113, .val (EnvV))]) (nb := [15]) H56 6 [6, 7] rfl (by kernel_rfl) rfl rfl ?_ ?_
        · refine .cons (.plain rfl (ok_move (.tmp 0 rfl))) ?_
          refine .cons (.plain rfl (ok_callE (con_iint64 x hx) 1 rfl (.cons (.tmp 0 rfl) (.nil)))) ?_
          refine .cons (.plain rfl (ok_move (.tmp 0 rfl))) ?_
          refine .cons (.plain rfl (ok_extract 0 (.tmp 0 rfl) rfl)) ?_
          refine .cons (.plain rfl (ok_extract 1 (.tmp 0 rfl) rfl)) ?_
          refine .cons (.plain rfl (ok_alloc (D := Zero2) zeroI rfl (fun _ _ => rfl))) ?_
          exact .nil
        clear H56 a56 w56 B56
        intro a57 w57 B57 H57
        simp only [List.cons_append, List.nil_append] at H57
        refine ops_one ?_
        refine store_op (l' := [(96, .val (IsI (intN 64 x))), (97, .val (IsB (intOk 64 x))), (15, .box 34 2 (IsI (intN 64 x))), (13, .val (Lit (.int .i64 0))), (14, .val (IsB true)), (10, .box 37 8 (IsNum z2)), (4, .val (IsB false)), (113, .val (EnvV))]) 2 H57 rfl tyI rfl (.tmp 0 rfl) shape_Z shape_I rfl rfl ?_
        clear H57 w57
        intro w58 H58
        refine ops_one ?_
        refine tail_op (D := .val (IsB (intOk 64 x))) (l' := [(16, .val (IsB (intOk 64 x))), (96, .val (IsI (intN 64 x))), (97, .val (IsB (intOk 64 x))), (15, .box 34 2 (IsI (intN 64 x))), (13, .val (Lit (.int .i64 0))), (14, .val (IsB true)), (10, .box 37 8 (IsNum z2)), (4, .val (IsB false)), (113, .val (EnvV))]) H58 rfl rfl rfl (.plain rfl (ok_assign (.tmp 1 rfl))) rfl rfl ?_
        clear H58 a57 w58 B57
        intro a59 w59 B59 H59
        refine ops_done ?_
        refine then_normal ?_
        refine wp_seq ?_
        refine flow_region (dsts := [some 98, some 99, some 100, some 101, some 102, some 103, some 104, some 105, some 106, some 107, some 108, some 109, some 110, some 111, some 112, some 4]) (refs := [[.pre 4], [.res 0], [.res 1], [.res 2, .pre 5], [.res 2, .res 3], [.res 4], [.res 5, .pre 6], [.res 5, .res 6], [.res 5, .res 7], [.res 5, .pre 0], [.res 5, .res 8, .res 9], [.res 5, .res 10], [.res 11], [.res 12, .pre 8], [.res 12, .res 13], [.res 14]]) (outs := [.res 15, .pre 8]) (als := [false, false, false, false, false, false, false, false, false, false, false, false, false, false, false, false]) (posts := [.val (Lit (.int .i64 0)), .val (IsB true), .val (IsB true), .val (IsB true), .val (IsB true), .val (IsB true), .ptr 37 8 (IsNum z2) 0, .val (Lit (.int .i8 z2.k)), .val (IsB (decide (z2.k = 3))), .val (IsB (intOk 64 x)), .val (IsB true), .val (IsB true), .val (IsB true), .val (IsB true), .val (IsB true), .val (IsB true)])
          (out := [(4, .val (IsB true)), (113, .val (EnvV))]) (nb := []) H59 16 [] rfl (by kernel_rfl) rfl rfl ?_ ?_
        · refine .cons (.plain rfl (ok_move (.tmp 0 rfl))) ?_
          refine .cons (.plain rfl (ok_cmp (b := true) (.tmp 0 rfl) (.lit) (by decide))) ?_
          refine .cons (.plain rfl (ok_move (.tmp 0 rfl))) ?_
          refine .cons (.wanted 2 true rfl rfl rfl 0 rfl (ok_move (.tmp 1 rfl))) ?_
          refine .cons (.plain rfl (ok_pickT (.tmp 0 rfl) (.tmp 1 rfl))) ?_
          refine .cons (.plain rfl (ok_move (.tmp 0 rfl))) ?_
          refine .cons (.wanted 5 true rfl rfl rfl 0 rfl (ok_addrV0 (.tmp 1 rfl))) ?_
          refine .cons (.wanted 5 true rfl rfl rfl 0 rfl (ok_loadV0 (.tmp 1 rfl))) ?_
          refine .cons (.wanted 5 true rfl rfl rfl 0 rfl (ok_cmp (.tmp 1 rfl) (.lit) rfl)) ?_
          refine .cons (.wanted 5 true rfl rfl rfl 0 rfl (ok_move (.tmp 1 rfl))) ?_
          refine .cons (.wanted 5 true rfl rfl rfl 0 rfl (OpOk.eqB (b := (decide (z2.k = 3)) == (intOk 64 x)) (ok_eqB Tryz.underlying4 (.tmp 1 rfl) (.tmp 2 rfl)) (hzk))) ?_
          refine .cons (.plain rfl (ok_pickT (.tmp 0 rfl) (.tmp 1 rfl))) ?_
          refine .cons (.plain rfl (ok_move (.tmp 0 rfl))) ?_
          refine .cons (.wanted 12 true rfl rfl rfl 0 rfl (ok_callE (con_lives15) 1 rfl (.nil))) ?_
          refine .cons (.plain rfl (ok_pickT (.tmp 0 rfl) (.tmp 1 rfl))) ?_
          refine .cons (.plain rfl (ok_assign (.tmp 0 rfl))) ?_
          exact .nil
        clear H59 a59 w59 B59
        intro a60 w60 B60 H60
        refine ops_done ?_
        refine then_normal ?_
        refine wp_ret ?_
        exact f_ret H60 rfl 0 rfl (fun _ _ _ h => h)
    · refine flow_region (dsts := [some 21, some 22, some 20, some 23, some 24, some 5, some 6]) (refs := [[.pre 1], [.res 0, .pre 4], [.res 1], [.res 2], [.res 2], [.res 3], [.res 4]]) (outs := [.res 5, .res 6, .pre 1, .pre 2, .pre 3, .pre 4]) (als := [false, false, false, false, false, false, false]) (posts := [.val (IsVA t), .val (Tup [Lit (.int .u64 b), IsB true]), .val (Tup [Lit (.int .u64 b), IsB true]), .val (Lit (.int .u64 b)), .val (IsB true), .val (Lit (.int .u64 b)), .val (IsB true)])
        (out := [(5, .val (Lit (.int .u64 b))), (6, .val (IsB true)), (3, .box 37 8 (IsVA t)), (4, .val (IsB false)), (0, .val (Lit (.int .u64 x))), (113, .val (EnvV))]) (nb := []) H2 7 [] rfl (by kernel_rfl) rfl rfl ?_ ?_
      · refine .cons (.plain rfl (ok_load tyV (.tmp 0 rfl))) ?_
        refine .cons (.plain rfl (ok_callE ((con_nbits z hz).weak (fun v w B h => by rw [hq] at h; exact h)) 1 rfl (.cons (.weak (.tmp 0 rfl) hvn) (.nil)))) ?_
        refine .cons (.plain rfl (ok_move (.tmp 0 rfl))) ?_
        refine .cons (.plain rfl (ok_extract 0 (.tmp 0 rfl) rfl)) ?_
        refine .cons (.plain rfl (ok_extract 1 (.tmp 0 rfl) rfl)) ?_
        refine .cons (.plain rfl (ok_assign (.tmp 0 rfl))) ?_
        refine .cons (.plain rfl (ok_assign (.tmp 0 rfl))) ?_
        exact .nil
      clear H2 a2 w2 B2
      intro a61 w61 B61 H61
      refine ops_done ?_
      refine then_normal ?_
      refine wp_seq ?_
      refine flow_region (dsts := [some 25]) (refs := [[.pre 1]]) (outs := [.res 0, .pre 0, .pre 2, .pre 3, .pre 4, .pre 5]) (als := [false]) (posts := [.val (IsB true)])
        (out := [(25, .val (IsB true)), (5, .val (Lit (.int .u64 b))), (3, .box 37 8 (IsVA t)), (4, .val (IsB false)), (0, .val (Lit (.int .u64 x))), (113, .val (EnvV))]) (nb := []) H61 1 [] rfl (by kernel_rfl) rfl rfl ?_ ?_
      · refine .cons (.plain rfl (ok_move (.tmp 0 rfl))) ?_
        exact .nil
      clear H61 a61 w61 B61
      intro a62 w62 B62 H62
      refine ops_done ?_
      refine then_normal ?_
      refine f_condT H62 (.tmp 0 rfl) ?_
      refine wp_seq ?_
      refine flow_region (dsts := [some 27, some 28, some 26, some 29, some 30, some 31, some 7, some 8, some 9]) (refs := [[.pre 2], [.res 0, .pre 5], [.res 1], [.res 2], [.res 2], [.res 2], [.res 3], [.res 4], [.res 5]]) (outs := [.res 6, .res 7, .res 8, .pre 1, .pre 2, .pre 3, .pre 4, .pre 5]) (als := [false, false, false, false, false, false, false, false, false]) (posts := [.val (IsVA t), .val (Tup [Lit (.int .i64 32), Lit (.int .u64 y), IsB true]), .val (Tup [Lit (.int .i64 32), Lit (.int .u64 y), IsB true]), .val (Lit (.int .i64 32)), .val (Lit (.int .u64 y)), .val (IsB true), .val (Lit (.int .i64 32)), .val (Lit (.int .u64 y)), .val (IsB true)])
        (out := [(7, .val (Lit (.int .i64 32))), (8, .val (Lit (.int .u64 y))), (9, .val (IsB true)), (5, .val (Lit (.int .u64 b))), (3, .box 37 8 (IsVA t)), (4, .val (IsB false)), (0, .val (Lit (.int .u64 x))), (113, .val (EnvV))]) (nb := []) H62 9 [] rfl (by kernel_rfl) rfl rfl ?_ ?_
      · refine .cons (.plain rfl (ok_load tyV (.tmp 0 rfl))) ?_
        refine .cons (.plain rfl (ok_callE ((con_narrow z hz).weak (fun v w B h => by rw [hq, hq3] at h; exact h)) 1 rfl (.cons (.weak (.tmp 0 rfl) hvn) (.nil)))) ?_
        refine .cons (.plain rfl (ok_move (.tmp 0 rfl))) ?_
        refine .cons (.plain rfl (ok_extract 0 (.tmp 0 rfl) rfl)) ?_
        refine .cons (.plain rfl (ok_extract 1 (.tmp 0 rfl) rfl)) ?_
        refine .cons (.plain rfl (ok_extract 2 (.tmp 0 rfl) rfl)) ?_
        refine .cons (.plain rfl (ok_assign (.tmp 0 rfl))) ?_
        refine .cons (.plain rfl (ok_assign (.tmp 0 rfl))) ?_
        refine .cons (.plain rfl (ok_assign (.tmp 0 rfl))) ?_
        exact .nil
      clear H62 a62 w62 B62
      intro a63 w63 B63 H63
      refine ops_done ?_
      refine then_normal ?_
      refine wp_seq ?_
      refine flow_drawT (dsts := [some 32, some 33, some 34, some 35, some 36, some 37, some 38, some 39, some 40, some 41, some 42, some 43, some 44, some 45, some 46, some 47, some 48, some 49, some 50, some 51, some 52, some 53, some 54, some 55, some 56, some 57, some 58, some 59, some 60]) (refs := [[.pre 2], [.res 0], [.res 1], [.res 2, .pre 3], [.res 2, .res 3, .pre 7], [.res 2, .pre 4], [.res 2, .res 4, .res 5], [.res 2, .res 6], [.res 2, .res 7], [.res 8], [.res 9, .pre 0], [.res 9, .pre 1], [.res 9, .res 10, .res 11, .pre 7], [.res 9, .pre 4], [.res 9, .res 12, .res 13], [.res 9, .res 14], [.res 9, .res 15], [.res 16], [.res 17, .pre 0], [.res 17, .res 18], [.res 17, .res 19], [.res 20, .pre 0], [.res 20, .res 21], [.res 17, .res 20, .res 22], [.res 17, .res 23], [.res 24], [.res 24], [.res 17, .res 24], [.res 17, .res 27]]) (outs := [.res 28, .pre 5, .pre 6, .pre 7]) (als := [false, false, false, false, false, false, false, false, false, false, false, false, false, false, false, false, false, false, false, false, false, false, false, false, false, false, false, false, false]) (posts := [.val (IsB true), .val (IsB false), .val (IsB false), .val (Lit (.int .u64 b)), .val (IsNum z), .val (IsVA t), .val (IsB true), .val (IsB false), .val (IsB false), .val (IsB false), .val (Lit (.int .i64 32)), .val (Lit (.int .u64 y)), .val (IsNum z), .val (IsVA t), .val (IsB true), .val (IsB false), .val (IsB false), .val (IsB false), .val (Lit (.int .i64 32)), .val (IsB true), .val (IsB true), .val (Lit (.int .i64 32)), .val (IsB false), .val (IsB false), .val (IsB false), .val (IsUndef), .val (IsUndef), .val (IsB false), .val (IsB false)])
        (out := [(60, .val (IsB false)), (4, .val (IsB false)), (0, .val (Lit (.int .u64 x))), (113, .val (EnvV))]) (nb := []) H63 (by kernel_rfl) 29 0 #[true, true, true, true, true, true, true, true, true, true, true, true, true, true, true, true, true, true, true, true, true, true, true, true, true, true, true, true, true] (by kernel_rfl) (by kernel_rfl) rfl rfl ?_ ?_
      · refine .cons (.plain rfl (ok_move (.tmp 0 rfl))) ?_
        refine .cons (.plain rfl (ok_not (b := true) (.tmp 0 rfl))) ?_
        refine .cons (.plain rfl (ok_move (.tmp 0 rfl))) ?_
        refine .cons (.wanted 2 false rfl rfl rfl 0 rfl (ok_move (.tmp 1 rfl))) ?_
        refine .cons (.wanted 2 false rfl rfl rfl 0 rfl (ok_callE ((con_of64 b hb).weak (fun v w B h => num_eq hof h)) 2 rfl (.cons (.tmp 1 rfl) (.nil)))) ?_
        refine .cons (.wanted 2 false rfl rfl rfl 0 rfl (ok_load tyV (.tmp 1 rfl))) ?_
        refine .cons (.wanted 2 false rfl rfl rfl 0 rfl (ok_call ((con_sameval z z).weak (fun v w B h => isB_e (decide_eq_true rfl) h)) (.cons (.tmp 1 rfl) (.cons (.weak (.tmp 2 rfl) hvn) (.nil))))) ?_
        refine .cons (.wanted 2 false rfl rfl rfl 0 rfl (ok_not (b := true) (.tmp 1 rfl))) ?_
        refine .cons (.plain rfl (ok_pickF (.tmp 0 rfl) (.tmp 1 rfl))) ?_
        refine .cons (.plain rfl (ok_move (.tmp 0 rfl))) ?_
        refine .cons (.wanted 9 false rfl rfl rfl 0 rfl (ok_move (.tmp 1 rfl))) ?_
        refine .cons (.wanted 9 false rfl rfl rfl 0 rfl (ok_move (.tmp 1 rfl))) ?_
        refine .cons (.wanted 9 false rfl rfl rfl 0 rfl (ok_callE ((con_read32 y hy).weak (fun v w B h => num_eq hof3 h)) 3 rfl (.cons (.tmp 1 rfl) (.cons (.tmp 2 rfl) (.nil))))) ?_
        refine .cons (.wanted 9 false rfl rfl rfl 0 rfl (ok_load tyV (.tmp 1 rfl))) ?_
        refine .cons (.wanted 9 false rfl rfl rfl 0 rfl (ok_call ((con_sameval z z).weak (fun v w B h => isB_e (decide_eq_true rfl) h)) (.cons (.tmp 1 rfl) (.cons (.weak (.tmp 2 rfl) hvn) (.nil))))) ?_
        refine .cons (.wanted 9 false rfl rfl rfl 0 rfl (ok_not (b := true) (.tmp 1 rfl))) ?_
        refine .cons (.plain rfl (ok_pickF (.tmp 0 rfl) (.tmp 1 rfl))) ?_
        refine .cons (.plain rfl (ok_move (.tmp 0 rfl))) ?_
        refine .cons (.wanted 17 false rfl rfl rfl 0 rfl (ok_move (.tmp 1 rfl))) ?_
        refine .cons (.wanted 17 false rfl rfl rfl 0 rfl (ok_cmp (b := true) (.tmp 1 rfl) (.lit) (by decide))) ?_
        refine .cons (.wanted 17 false rfl rfl rfl 0 rfl (ok_move (.tmp 1 rfl))) ?_
        refine .cons (.wanted 20 true rfl rfl rfl 0 rfl (ok_move (.tmp 1 rfl))) ?_
        refine .cons (.wanted 20 true rfl rfl rfl 0 rfl (ok_cmp (b := false) (.tmp 1 rfl) (.lit) (by decide))) ?_
        refine .cons (.wanted 17 false rfl rfl rfl 0 rfl (ok_pickT (.tmp 1 rfl) (.tmp 2 rfl))) ?_
        refine .cons (.wanted 17 false rfl rfl rfl 0 rfl (ok_move (.tmp 1 rfl))) ?_
        refine .cons (.unwanted 24 true rfl rfl rfl 0 rfl) ?_
        refine .cons (.unwanted 24 true rfl rfl rfl 0 rfl) ?_
        refine .cons (.wanted 17 false rfl rfl rfl 0 rfl (ok_pickF (.tmp 1 rfl) (.lit))) ?_
        refine .cons (.plain rfl (ok_pickF (.tmp 0 rfl) (.tmp 1 rfl))) ?_
        exact .nil
      clear H63 a63 w63 B63
      intro a64 w64 B64 H64
      refine any_done (by kernel_rfl) ?_
      refine then_normal ?_
      refine f_condF H64 (.tmp 0 rfl) ?_
      refine wp_skip ?_
      refine then_normal ?_
      refine wp_seq ?_
      rcases (back_x x hx) with ⟨hn, hof2, hq2⟩ | ⟨hn, z2, b2, hof2, hq2, hb2, hcmp, hzk⟩
      · have hz2 := ok_of wd64 x (hx64v hx)
        rw [hof2] at hz2
        refine flow_region (dsts := [some 61, some 62, some 10]) (refs := [[.pre 2], [.res 0, .pre 3], []]) (outs := [.res 1, .res 2, .pre 1, .pre 2, .pre 3]) (als := [false, false, true]) (posts := [.val (Lit (.int .u64 x)), .val (IsNum (.flt 9221120237041090560)), .box 37 8 (IsVal 0 0 (IsI 0) 0 0 (⟨#[]⟩) (K0))])
          (out := [(62, .val (IsNum (.flt 9221120237041090560))), (10, .box 37 8 (IsVal 0 0 (IsI 0) 0 0 (⟨#[]⟩) (K0))), (4, .val (IsB false)), (0, .val (Lit (.int .u64 x))), (113, .val (EnvV))]) (nb := [10]) H64 3 [3] rfl (by kernel_rfl) rfl rfl ?_ ?_
        · refine .cons (.plain rfl (ok_move (.tmp 0 rfl))) ?_
          refine .cons (.plain rfl (ok_callE ((con_of64 x hx).weak (fun v w B h => num_eq hof2 h)) 1 rfl (.cons (.tmp 0 rfl) (.nil)))) ?_
          refine .cons (.plain rfl (ok_allocV)) ?_
          exact .nil
        clear H64 a64 w64 B64
        intro a65 w65 B65 H65
        simp only [List.cons_append, List.nil_append] at H65
        refine ops_one ?_
        refine store_op (l' := [(62, .val (IsNum (.flt 9221120237041090560))), (10, .box 37 8 (IsNum (.flt 9221120237041090560))), (4, .val (IsB false)), (0, .val (Lit (.int .u64 x))), (113, .val (EnvV))]) 1 H65 rfl tyV rfl (.tmp 0 rfl) (shape_Val shape_I oneK0) shape_Num rfl rfl ?_
        clear H65 w65
        intro w66 H66
        refine ops_done ?_
        refine then_normal ?_
        refine wp_seq ?_
        refine flow_region (dsts := [some 64, some 65, some 63, some 66, some 67, some 11, some 12]) (refs := [[.pre 1], [.res 0, .pre 4], [.res 1], [.res 2], [.res 2], [.res 3], [.res 4]]) (outs := [.res 5, .res 6, .pre 1, .pre 2, .pre 3, .pre 4]) (als := [false, false, false, false, false, false, false]) (posts := [.val (IsNum (.flt 9221120237041090560)), .val (Tup [Lit (.int .u64 9221120237041090560), IsB true]), .val (Tup [Lit (.int .u64 9221120237041090560), IsB true]), .val (Lit (.int .u64 9221120237041090560)), .val (IsB true), .val (Lit (.int .u64 9221120237041090560)), .val (IsB true)])
          (out := [(11, .val (Lit (.int .u64 9221120237041090560))), (12, .val (IsB true)), (10, .box 37 8 (IsNum (.flt 9221120237041090560))), (4, .val (IsB false)), (0, .val (Lit (.int .u64 x))), (113, .val (EnvV))]) (nb := []) H66 7 [] rfl (by kernel_rfl) rfl rfl ?_ ?_
        · refine .cons (.plain rfl (ok_load tyV (.tmp 0 rfl))) ?_
          refine .cons (.plain rfl (ok_callE ((con_nbits (.flt 9221120237041090560) hz2).weak (fun v w B h => by rw [hq2] at h; exact h)) 1 rfl (.cons (.tmp 0 rfl) (.nil)))) ?_
          refine .cons (.plain rfl (ok_move (.tmp 0 rfl))) ?_
          refine .cons (.plain rfl (ok_extract 0 (.tmp 0 rfl) rfl)) ?_
          refine .cons (.plain rfl (ok_extract 1 (.tmp 0 rfl) rfl)) ?_
          refine .cons (.plain rfl (ok_assign (.tmp 0 rfl))) ?_
          refine .cons (.plain rfl (ok_assign (.tmp 0 rfl))) ?_
          exact .nil
        clear H66 a65 w66 B65
        intro a67 w67 B67 H67
        refine ops_done ?_
        refine then_normal ?_
        refine wp_seq ?_
        refine wp_seq ?_
        refine flow_region (dsts := [some 68, some 69, some 70, some 71, some 72, some 73, some 74]) (refs := [[.pre 2], [.res 0, .pre 5], [.res 1], [.res 2], [.res 3, .pre 1], [.res 3, .res 4], [.res 3, .res 5]]) (outs := [.res 6, .pre 0, .pre 2, .pre 3, .pre 4, .pre 5]) (als := [false, false, false, false, false, false, false]) (posts := [.val (IsNum (.flt 9221120237041090560)), .val (IsErr true), .val (IsB false), .val (IsB false), .val (IsB true), .val (IsB false), .val (IsB false)])
          (out := [(74, .val (IsB false)), (11, .val (Lit (.int .u64 9221120237041090560))), (10, .box 37 8 (IsNum (.flt 9221120237041090560))), (4, .val (IsB false)), (0, .val (Lit (.int .u64 x))), (113, .val (EnvV))]) (nb := []) H67 7 [] rfl (by kernel_rfl) rfl rfl ?_ ?_
        · refine .cons (.plain rfl (ok_load tyV (.tmp 0 rfl))) ?_
          refine .cons (.plain rfl (ok_callE (con_vcheck (.flt 9221120237041090560) hz2) 1 rfl (.cons (.tmp 0 rfl) (.nil)))) ?_
          refine .cons (.plain rfl (ok_neErr (b := true) (.tmp 0 rfl))) ?_
          refine .cons (.plain rfl (ok_move (.tmp 0 rfl))) ?_
          refine .cons (.wanted 3 false rfl rfl rfl 0 rfl (ok_move (.tmp 1 rfl))) ?_
          refine .cons (.wanted 3 false rfl rfl rfl 0 rfl (ok_not (b := true) (.tmp 1 rfl))) ?_
          refine .cons (.plain rfl (ok_pickF (.tmp 0 rfl) (.tmp 1 rfl))) ?_
          exact .nil
        clear H67 a67 w67 B67
        intro a68 w68 B68 H68
        refine ops_done ?_
        refine then_normal ?_
        refine f_condF H68 (.tmp 0 rfl) ?_
        refine wp_skip ?_
        refine then_normal ?_
        refine wp_seq ?_
        refine wp_seq ?_
        refine flow_region (dsts := [some 75, some 76]) (refs := [[.pre 4], [.res 0, .pre 5]]) (outs := [.res 1, .pre 1, .pre 2, .pre 3, .pre 4, .pre 5]) (als := [false, false]) (posts := [.val (Lit (.int .u64 x)), .val (IsB true)])
          (out := [(76, .val (IsB true)), (11, .val (Lit (.int .u64 9221120237041090560))), (10, .box 37 8 (IsNum (.flt 9221120237041090560))), (4, .val (IsB false)), (0, .val (Lit (.int .u64 x))), (113, .val (EnvV))]) (nb := []) H68 2 [] rfl (by kernel_rfl) rfl rfl ?_ ?_
        · refine .cons (.plain rfl (ok_move (.tmp 0 rfl))) ?_
          refine .cons (.plain rfl (ok_callE ((con_nan15 x hx).weak (fun v w B h => by rw [hn] at h; exact h)) 1 rfl (.cons (.tmp 0 rfl) (.nil)))) ?_
          exact .nil
        clear H68 a68 w68 B68
        intro a69 w69 B69 H69
        refine ops_done ?_
        refine then_normal ?_
        refine f_condT H69 (.tmp 0 rfl) ?_
        refine wp_seq ?_
        refine flow_region (dsts := [some 77, some 78, some 79, some 80, some 81, some 82, some 83, some 84, some 85, some 86, some 4]) (refs := [[.pre 1], [.res 0], [.res 1], [.res 2, .pre 2], [.res 2, .res 3], [.res 2, .res 4], [.res 2, .res 5], [.res 6], [.res 7, .pre 5], [.res 7, .res 8], [.res 9]]) (outs := [.res 10, .pre 1, .pre 2, .pre 4, .pre 5]) (als := [false, false, false, false, false, false, false, false, false, false, false]) (posts := [.val (Lit (.int .u64 9221120237041090560)), .val (IsB true), .val (IsB true), .ptr 37 8 (IsNum (.flt 9221120237041090560)) 0, .val (Lit (.int .i8 4)), .val (IsB true), .val (IsB true), .val (IsB true), .val (IsB true), .val (IsB true), .val (IsB true)])
          (out := [(4, .val (IsB true)), (11, .val (Lit (.int .u64 9221120237041090560))), (10, .box 37 8 (IsNum (.flt 9221120237041090560))), (0, .val (Lit (.int .u64 x))), (113, .val (EnvV))]) (nb := []) H69 11 [] rfl (by kernel_rfl) rfl rfl ?_ ?_
        · refine .cons (.plain rfl (ok_move (.tmp 0 rfl))) ?_
          refine .cons (.plain rfl (ok_cmp (b := true) (.tmp 0 rfl) (.lit) (by decide))) ?_
          refine .cons (.plain rfl (ok_move (.tmp 0 rfl))) ?_
          refine .cons (.wanted 2 true rfl rfl rfl 0 rfl (ok_addrV0 (.tmp 1 rfl))) ?_
          refine .cons (.wanted 2 true rfl rfl rfl 0 rfl (ok_loadV0 (.tmp 1 rfl))) ?_
          refine .cons (.wanted 2 true rfl rfl rfl 0 rfl (ok_cmp (b := true) (.tmp 1 rfl) (.lit) (by decide))) ?_
          refine .cons (.plain rfl (ok_pickT (.tmp 0 rfl) (.tmp 1 rfl))) ?_
          refine .cons (.plain rfl (ok_move (.tmp 0 rfl))) ?_
          refine .cons (.wanted 7 true rfl rfl rfl 0 rfl (ok_callE (con_lives15) 1 rfl (.nil))) ?_
          refine .cons (.plain rfl (ok_pickT (.tmp 0 rfl) (.tmp 1 rfl))) ?_
          refine .cons (.plain rfl (ok_assign (.tmp 0 rfl))) ?_
          exact .nil
        clear H69 a69 w69 B69
        intro a70 w70 B70 H70
        refine ops_done ?_
        refine then_normal ?_
        refine wp_ret ?_
        refine then_ret ?_
        exact f_ret H70 rfl 0 rfl (fun _ _ _ h => h)
      · have hz2 := ok_of wd64 x (hx64v hx)
        rw [hof2] at hz2
        refine flow_region (dsts := [some 61, some 62, some 10]) (refs := [[.pre 2], [.res 0, .pre 3], []]) (outs := [.res 1, .res 2, .pre 1, .pre 2, .pre 3]) (als := [false, false, true]) (posts := [.val (Lit (.int .u64 x)), .val (IsNum z2), .box 37 8 (IsVal 0 0 (IsI 0) 0 0 (⟨#[]⟩) (K0))])
          (out := [(62, .val (IsNum z2)), (10, .box 37 8 (IsVal 0 0 (IsI 0) 0 0 (⟨#[]⟩) (K0))), (4, .val (IsB false)), (0, .val (Lit (.int .u64 x))), (113, .val (EnvV))]) (nb := [10]) H64 3 [3] rfl (by kernel_rfl) rfl rfl ?_ ?_
        · refine .cons (.plain rfl (ok_move (.tmp 0 rfl))) ?_
          refine .cons (.plain rfl (ok_callE ((con_of64 x hx).weak (fun v w B h => num_eq hof2 h)) 1 rfl (.cons (.tmp 0 rfl) (.nil)))) ?_
          refine .cons (.plain rfl (ok_allocV)) ?_
          exact .nil
        clear H64 a64 w64 B64
        intro a71 w71 B71 H71
        simp only [List.cons_append, List.nil_append] at H71
        refine ops_one ?_
        refine store_op (l' := [(62, .val (IsNum z2)), (10, .box 37 8 (IsNum z2)), (4, .val (IsB false)), (0, .val (Lit (.int .u64 x))), (113, .val (EnvV))]) 1 H71 rfl tyV rfl (.tmp 0 rfl) (shape_Val shape_I oneK0) shape_Num rfl rfl ?_
        clear H71 w71
        intro w72 H72
        refine ops_done ?_
        refine then_normal ?_
        refine wp_seq ?_
        refine flow_region (dsts := [some 64, some 65, some 63, some 66, some 67, some 11, some 12]) (refs := [[.pre 1], [.res 0, .pre 4], [.res 1], [.res 2], [.res 2], [.res 3], [.res 4]]) (outs := [.res 5, .res 6, .pre 1, .pre 2, .pre 3, .pre 4]) (als := [false, false, false, false, false, false, false]) (posts := [.val (IsNum z2), .val (Tup [Lit (.int .u64 b2), IsB true]), .val (Tup [Lit (.int .u64 b2), IsB true]), .val (Lit (.int .u64 b2)), .val (IsB true), .val (Lit (.int .u64 b2)), .val (IsB true)])
          (out := [(11, .val (Lit (.int .u64 b2))), (12, .val (IsB true)), (10, .box 37 8 (IsNum z2)), (4, .val (IsB false)), (0, .val (Lit (.int .u64 x))), (113, .val (EnvV))]) (nb := []) H72 7 [] rfl (by kernel_rfl) rfl rfl ?_ ?_
        · refine .cons (.plain rfl (ok_load tyV (.tmp 0 rfl))) ?_
          refine .cons (.plain rfl (ok_callE ((con_nbits z2 hz2).weak (fun v w B h => by rw [hq2] at h; exact h)) 1 rfl (.cons (.tmp 0 rfl) (.nil)))) ?_
          refine .cons (.plain rfl (ok_move (.tmp 0 rfl))) ?_
          refine .cons (.plain rfl (ok_extract 0 (.tmp 0 rfl) rfl)) ?_
          refine .cons (.plain rfl (ok_extract 1 (.tmp 0 rfl) rfl)) ?_
          refine .cons (.plain rfl (ok_assign (.tmp 0 rfl))) ?_
          refine .cons (.plain rfl (ok_assign (.tmp 0 rfl))) ?_
          exact .nil
        clear H72 a71 w72 B71
        intro a73 w73 B73 H73
        refine ops_done ?_
        refine then_normal ?_
        refine wp_seq ?_
        refine wp_seq ?_
        refine flow_region (dsts := [some 68, some 69, some 70, some 71, some 72, some 73, some 74]) (refs := [[.pre 2], [.res 0, .pre 5], [.res 1], [.res 2], [.res 3, .pre 1], [.res 3, .res 4], [.res 3, .res 5]]) (outs := [.res 6, .pre 0, .pre 2, .pre 3, .pre 4, .pre 5]) (als := [false, false, false, false, false, false, false]) (posts := [.val (IsNum z2), .val (IsErr true), .val (IsB false), .val (IsB false), .val (IsB true), .val (IsB false), .val (IsB false)])
          (out := [(74, .val (IsB false)), (11, .val (Lit (.int .u64 b2))), (10, .box 37 8 (IsNum z2)), (4, .val (IsB false)), (0, .val (Lit (.int .u64 x))), (113, .val (EnvV))]) (nb := []) H73 7 [] rfl (by kernel_rfl) rfl rfl ?_ ?_
        · refine .cons (.plain rfl (ok_load tyV (.tmp 0 rfl))) ?_
          refine .cons (.plain rfl (ok_callE (con_vcheck (z2) hz2) 1 rfl (.cons (.tmp 0 rfl) (.nil)))) ?_
          refine .cons (.plain rfl (ok_neErr (b := true) (.tmp 0 rfl))) ?_
          refine .cons (.plain rfl (ok_move (.tmp 0 rfl))) ?_
          refine .cons (.wanted 3 false rfl rfl rfl 0 rfl (ok_move (.tmp 1 rfl))) ?_
          refine .cons (.wanted 3 false rfl rfl rfl 0 rfl (ok_not (b := true) (.tmp 1 rfl))) ?_
          refine .cons (.plain rfl (ok_pickF (.tmp 0 rfl) (.tmp 1 rfl))) ?_
          exact .nil
        clear H73 a73 w73 B73
        intro a74 w74 B74 H74
        refine ops_done ?_
        refine then_normal ?_
        refine f_condF H74 (.tmp 0 rfl) ?_
        refine wp_skip ?_
        refine then_normal ?_
        refine wp_seq ?_
        refine wp_seq ?_
        refine flow_region (dsts := [some 75, some 76]) (refs := [[.pre 4], [.res 0, .pre 5]]) (outs := [.res 1, .pre 1, .pre 2, .pre 3, .pre 4, .pre 5]) (als := [false, false]) (posts := [.val (Lit (.int .u64 x)), .val (IsB false)])
          (out := [(76, .val (IsB false)), (11, .val (Lit (.int .u64 b2))), (10, .box 37 8 (IsNum z2)), (4, .val (IsB false)), (0, .val (Lit (.int .u64 x))), (113, .val (EnvV))]) (nb := []) H74 2 [] rfl (by kernel_rfl) rfl rfl ?_ ?_
        · refine .cons (.plain rfl (ok_move (.tmp 0 rfl))) ?_
          refine .cons (.plain rfl (ok_callE ((con_nan15 x hx).weak (fun v w B h => by rw [hn] at h; exact h)) 1 rfl (.cons (.tmp 0 rfl) (.nil)))) ?_
          exact .nil
        clear H74 a74 w74 B74
        intro a75 w75 B75 H75
        refine ops_done ?_
        refine then_normal ?_
        refine f_condF H75 (.tmp 0 rfl) ?_
        refine wp_skip ?_
        refine then_normal ?_
        refine wp_seq ?_
        refine flow_region (dsts := [some 88, some 89, some 90, some 87, some 91, some 92, some 13, some 14]) (refs := [[.pre 4], [.pre 1], [.res 0, .res 1, .pre 5], [.res 2], [.res 3], [.res 3], [.res 4], [.res 5]]) (outs := [.res 6, .res 7, .pre 2, .pre 3, .pre 4, .pre 5]) (als := [false, false, false, false, false, false, false, false]) (posts := [.val (Lit (.int .u64 x)), .val (Lit (.int .u64 b2)), .val (Tup [Lit (.int .i64 0), IsB true]), .val (Tup [Lit (.int .i64 0), IsB true]), .val (Lit (.int .i64 0)), .val (IsB true), .val (Lit (.int .i64 0)), .val (IsB true)])
          (out := [(13, .val (Lit (.int .i64 0))), (14, .val (IsB true)), (10, .box 37 8 (IsNum z2)), (4, .val (IsB false)), (0, .val (Lit (.int .u64 x))), (113, .val (EnvV))]) (nb := []) H75 8 [] rfl (by kernel_rfl) rfl rfl ?_ ?_
        · refine .cons (.plain rfl (ok_move (.tmp 0 rfl))) ?_
          refine .cons (.plain rfl (ok_move (.tmp 0 rfl))) ?_
          refine .cons (.plain rfl (ok_callE ((con_icmp64 x b2 hx hb2).weak (fun v w B h => by rw [hcmp] at h; exact h)) 2 rfl (.cons (.tmp 0 rfl) (.cons (.tmp 1 rfl) (.nil))))) ?_
          refine .cons (.plain rfl (ok_move (.tmp 0 rfl))) ?_
          refine .cons (.plain rfl (ok_extract 0 (.tmp 0 rfl) rfl)) ?_
          refine .cons (.plain rfl (ok_extract 1 (.tmp 0 rfl) rfl)) ?_
          refine .cons (.plain rfl (ok_assign (.tmp 0 rfl))) ?_
          refine .cons (.plain rfl (ok_assign (.tmp 0 rfl))) ?_
          exact .nil
        clear H75 a75 w75 B75
        intro a76 w76 B76 H76
        refine ops_done ?_
        refine then_normal ?_
        refine wp_seq ?_
        refine flow_region (dsts := [some 94, some 95, some 93, some 96, some 97, some 15]) (refs := [[.pre 4], [.res 0, .pre 5], [.res 1], [.res 2], [.res 2], []]) (outs := [.res 3, .res 4, .res 5, .pre 0, .pre 1, .pre 2, .pre 3, .pre 5]) (als := [false, false, false, false, false, true]) (posts := [.val (Lit (.int .u64 x)), .val (Tup [IsI (intN 64 x), IsB (intOk 64 x)]), .val (Tup [IsI (intN 64 x), IsB (intOk 64 x)]), .val (IsI (intN 64 x)), .val (IsB (intOk 64 x)), .box 34 2 (Zero2)])
          (out := [(96, .val (IsI (intN 64 x))), (97, .val (IsB (intOk 64 x))), (15, .box 34 2 (Zero2)), (13, .val (Lit (.int .i64 0))), (14, .val (IsB true)), (10, .box 37 8 (IsNum z2)), (4, .val (IsB false)), (113, .val (EnvV))]) (nb := [15]) H76 6 [6, 7] rfl (by kernel_rfl) rfl rfl ?_ ?_
        · refine .cons (.plain rfl (ok_move (.tmp 0 rfl))) ?_
          refine .cons (.plain rfl (ok_callE (con_iint64 x hx) 1 rfl (.cons (.tmp 0 rfl) (.nil)))) ?_
          refine .cons (.plain rfl (ok_move (.tmp 0 rfl))) ?_
          refine .cons (.plain rfl (ok_extract 0 (.tmp 0 rfl) rfl)) ?_
          refine .cons (.plain rfl (ok_extract 1 (.tmp 0 rfl) rfl)) ?_
          refine .cons (.plain rfl (ok_alloc (D := Zero2) zeroI rfl (fun _ _ => rfl))) ?_
          exact .nil
        clear H76 a76 w76 B76
        intro a77 w77 B77 H77
        simp only [List.cons_append, List.nil_append] at H77
        refine ops_one ?_
        refine store_op (l' := [(96, .val (IsI (intN 64 x))), (97, .val (IsB (intOk 64 x))), (15, .box 34 2 (IsI (intN 64 x))), (13, .val (Lit (.int .i64 0))), (14, .val (IsB true)), (10, .box 37 8 (IsNum z2)), (4, .val (IsB false)), (113, .val (EnvV))]) 2 H77 rfl tyI rfl (.tmp 0 rfl) shape_Z shape_I rfl rfl ?_
        clear H77 w77
        intro w78 H78
        refine ops_one ?_
        refine tail_op (D := .val (IsB (intOk 64 x))) (l' := [(16, .val (IsB (intOk 64 x))), (96, .val (IsI (intN 64 x))), (97, .val (IsB (intOk 64 x))), (15, .box 34 2 (IsI (intN 64 x))), (13, .val (Lit (.int .i64 0))), (14, .val (IsB true)), (10, .box 37 8 (IsNum z2)), (4, .val (IsB false)), (113, .val (EnvV))]) H78 rfl rfl rfl (.plain rfl (ok_assign (.tmp 1 rfl))) rfl rfl ?_
        clear H78 a77 w78 B77
        intro a79 w79 B79 H79
        refine ops_done ?_
        refine then_normal ?_
        refine wp_seq ?_
        refine flow_region (dsts := [some 98, some 99, some 100, some 101, some 102, some 103, some 104, some 105, some 106, some 107, some 108, some 109, some 110, some 111, some 112, some 4]) (refs := [[.pre 4], [.res 0], [.res 1], [.res 2, .pre 5], [.res 2, .res 3], [.res 4], [.res 5, .pre 6], [.res 5, .res 6], [.res 5, .res 7], [.res 5, .pre 0], [.res 5, .res 8, .res 9], [.res 5, .res 10], [.res 11], [.res 12, .pre 8], [.res 12, .res 13], [.res 14]]) (outs := [.res 15, .pre 8]) (als := [false, false, false, false, false, false, false, false, false, false, false, false, false, false, false, false]) (posts := [.val (Lit (.int .i64 0)), .val (IsB true), .val (IsB true), .val (IsB true), .val (IsB true), .val (IsB true), .ptr 37 8 (IsNum z2) 0, .val (Lit (.int .i8 z2.k)), .val (IsB (decide (z2.k = 3))), .val (IsB (intOk 64 x)), .val (IsB true), .val (IsB true), .val (IsB true), .val (IsB true), .val (IsB true), .val (IsB true)])
          (out := [(4, .val (IsB true)), (113, .val (EnvV))]) (nb := []) H79 16 [] rfl (by kernel_rfl) rfl rfl ?_ ?_
        · refine .cons (.plain rfl (ok_move (.tmp 0 rfl))) ?_
          refine .cons (.plain rfl (ok_cmp (b := true) (.tmp 0 rfl) (.lit) (by decide))) ?_
          refine .cons (.plain rfl (ok_move (.tmp 0 rfl))) ?_
          refine .cons (.wanted 2 true rfl rfl rfl 0 rfl (ok_move (.tmp 1 rfl))) ?_
          refine .cons (.plain rfl (ok_pickT (.tmp 0 rfl) (.tmp 1 rfl))) ?_
          refine .cons (.plain rfl (ok_move (.tmp 0 rfl))) ?_
          refine .cons (.wanted 5 true rfl rfl rfl 0 rfl (ok_addrV0 (.tmp 1 rfl))) ?_
          refine .cons (.wanted 5 true rfl rfl rfl 0 rfl (ok_loadV0 (.tmp 1 rfl))) ?_
          refine .cons (.wanted 5 true rfl rfl rfl 0 rfl (ok_cmp (.tmp 1 rfl) (.lit) rfl)) ?_
          refine .cons (.wanted 5 true rfl rfl rfl 0 rfl (ok_move (.tmp 1 rfl))) ?_
          refine .cons (.wanted 5 true rfl rfl rfl 0 rfl (OpOk.eqB (b := (decide (z2.k = 3)) == (intOk 64 x)) (ok_eqB Tryz.underlying4 (.tmp 1 rfl) (.tmp 2 rfl)) (hzk))) ?_
          refine .cons (.plain rfl (ok_pickT (.tmp 0 rfl) (.tmp 1 rfl))) ?_
          refine .cons (.plain rfl (ok_move (.tmp 0 rfl))) ?_
          refine .cons (.wanted 12 true rfl rfl rfl 0 rfl (ok_callE (con_lives15) 1 rfl (.nil))) ?_
          refine .cons (.plain rfl (ok_pickT (.tmp 0 rfl) (.tmp 1 rfl))) ?_
          refine .cons (.plain rfl (ok_assign (.tmp 0 rfl))) ?_
          exact .nil
        clear H79 a79 w79 B79
        intro a80 w80 B80 H80
        refine ops_done ?_
        refine then_normal ?_
        refine wp_ret ?_
        exact f_ret H80 rfl 0 rfl (fun _ _ _ h => h)
    · refine flow_region (dsts := [some 21, some 22, some 20, some 23, some 24, some 5, some 6]) (refs := [[.pre 1], [.res 0, .pre 4], [.res 1], [.res 2], [.res 2], [.res 3], [.res 4]]) (outs := [.res 5, .res 6, .pre 1, .pre 2, .pre 3, .pre 4]) (als := [false, false, false, false, false, false, false]) (posts := [.val (IsVA t), .val (Tup [Lit (.int .u64 b), IsB true]), .val (Tup [Lit (.int .u64 b), IsB true]), .val (Lit (.int .u64 b)), .val (IsB true), .val (Lit (.int .u64 b)), .val (IsB true)])
        (out := [(5, .val (Lit (.int .u64 b))), (6, .val (IsB true)), (3, .box 37 8 (IsVA t)), (4, .val (IsB false)), (0, .val (Lit (.int .u64 x))), (113, .val (EnvV))]) (nb := []) H2 7 [] rfl (by kernel_rfl) rfl rfl ?_ ?_
      · refine .cons (.plain rfl (ok_load tyV (.tmp 0 rfl))) ?_
        refine .cons (.plain rfl (ok_callE ((con_nbits z hz).weak (fun v w B h => by rw [hq] at h; exact h)) 1 rfl (.cons (.weak (.tmp 0 rfl) hvn) (.nil)))) ?_
        refine .cons (.plain rfl (ok_move (.tmp 0 rfl))) ?_
        refine .cons (.plain rfl (ok_extract 0 (.tmp 0 rfl) rfl)) ?_
        refine .cons (.plain rfl (ok_extract 1 (.tmp 0 rfl) rfl)) ?_
        refine .cons (.plain rfl (ok_assign (.tmp 0 rfl))) ?_
        refine .cons (.plain rfl (ok_assign (.tmp 0 rfl))) ?_
        exact .nil
      clear H2 a2 w2 B2
      intro a81 w81 B81 H81
      refine ops_done ?_
      refine then_normal ?_
      refine wp_seq ?_
      refine flow_region (dsts := [some 25]) (refs := [[.pre 1]]) (outs := [.res 0, .pre 0, .pre 2, .pre 3, .pre 4, .pre 5]) (als := [false]) (posts := [.val (IsB true)])
        (out := [(25, .val (IsB true)), (5, .val (Lit (.int .u64 b))), (3, .box 37 8 (IsVA t)), (4, .val (IsB false)), (0, .val (Lit (.int .u64 x))), (113, .val (EnvV))]) (nb := []) H81 1 [] rfl (by kernel_rfl) rfl rfl ?_ ?_
      · refine .cons (.plain rfl (ok_move (.tmp 0 rfl))) ?_
        exact .nil
      clear H81 a81 w81 B81
      intro a82 w82 B82 H82
      refine ops_done ?_
      refine then_normal ?_
      refine f_condT H82 (.tmp 0 rfl) ?_
      refine wp_seq ?_
      refine flow_region (dsts := [some 27, some 28, some 26, some 29, some 30, some 31, some 7, some 8, some 9]) (refs := [[.pre 2], [.res 0, .pre 5], [.res 1], [.res 2], [.res 2], [.res 2], [.res 3], [.res 4], [.res 5]]) (outs := [.res 6, .res 7, .res 8, .pre 1, .pre 2, .pre 3, .pre 4, .pre 5]) (als := [false, false, false, false, false, false, false, false, false]) (posts := [.val (IsVA t), .val (Tup [Lit (.int .i64 64), Lit (.int .u64 y), IsB true]), .val (Tup [Lit (.int .i64 64), Lit (.int .u64 y), IsB true]), .val (Lit (.int .i64 64)), .val (Lit (.int .u64 y)), .val (IsB true), .val (Lit (.int .i64 64)), .val (Lit (.int .u64 y)), .val (IsB true)])
        (out := [(7, .val (Lit (.int .i64 64))), (8, .val (Lit (.int .u64 y))), (9, .val (IsB true)), (5, .val (Lit (.int .u64 b))), (3, .box 37 8 (IsVA t)), (4, .val (IsB false)), (0, .val (Lit (.int .u64 x))), (113, .val (EnvV))]) (nb := []) H82 9 [] rfl (by kernel_rfl) rfl rfl ?_ ?_
      · refine .cons (.plain rfl (ok_load tyV (.tmp 0 rfl))) ?_
        refine .cons (.plain rfl (ok_callE ((con_narrow z hz).weak (fun v w B h => by rw [hq, hq3] at h; exact h)) 1 rfl (.cons (.weak (.tmp 0 rfl) hvn) (.nil)))) ?_
        refine .cons (.plain rfl (ok_move (.tmp 0 rfl))) ?_
        refine .cons (.plain rfl (ok_extract 0 (.tmp 0 rfl) rfl)) ?_
        refine .cons (.plain rfl (ok_extract 1 (.tmp 0 rfl) rfl)) ?_
        refine .cons (.plain rfl (ok_extract 2 (.tmp 0 rfl) rfl)) ?_
        refine .cons (.plain rfl (ok_assign (.tmp 0 rfl))) ?_
        refine .cons (.plain rfl (ok_assign (.tmp 0 rfl))) ?_
        refine .cons (.plain rfl (ok_assign (.tmp 0 rfl))) ?_
        exact .nil
      clear H82 a82 w82 B82
      intro a83 w83 B83 H83
      refine ops_done ?_
      refine then_normal ?_
      refine wp_seq ?_
      refine flow_drawT (dsts := [some 32, some 33, some 34, some 35, some 36, some 37, some 38, some 39, some 40, some 41, some 42, some 43, some 44, some 45, some 46, some 47, some 48, some 49, some 50, some 51, some 52, some 53, some 54, some 55, some 56, some 57, some 58, some 59, some 60]) (refs := [[.pre 2], [.res 0], [.res 1], [.res 2, .pre 3], [.res 2, .res 3, .pre 7], [.res 2, .pre 4], [.res 2, .res 4, .res 5], [.res 2, .res 6], [.res 2, .res 7], [.res 8], [.res 9, .pre 0], [.res 9, .pre 1], [.res 9, .res 10, .res 11, .pre 7], [.res 9, .pre 4], [.res 9, .res 12, .res 13], [.res 9, .res 14], [.res 9, .res 15], [.res 16], [.res 17, .pre 0], [.res 17, .res 18], [.res 17, .res 19], [.res 20, .pre 0], [.res 20, .res 21], [.res 17, .res 20, .res 22], [.res 17, .res 23], [.res 24, .pre 0], [.res 24, .res 25], [.res 17, .res 24, .res 26], [.res 17, .res 27]]) (outs := [.res 28, .pre 5, .pre 6, .pre 7]) (als := [false, false, false, false, false, false, false, false, false, false, false, false, false, false, false, false, false, false, false, false, false, false, false, false, false, false, false, false, false]) (posts := [.val (IsB true), .val (IsB false), .val (IsB false), .val (Lit (.int .u64 b)), .val (IsNum z), .val (IsVA t), .val (IsB true), .val (IsB false), .val (IsB false), .val (IsB false), .val (Lit (.int .i64 64)), .val (Lit (.int .u64 y)), .val (IsNum z), .val (IsVA t), .val (IsB true), .val (IsB false), .val (IsB false), .val (IsB false), .val (Lit (.int .i64 64)), .val (IsB true), .val (IsB true), .val (Lit (.int .i64 64)), .val (IsB true), .val (IsB true), .val (IsB true), .val (Lit (.int .i64 64)), .val (IsB false), .val (IsB false), .val (IsB false)])
        (out := [(60, .val (IsB false)), (4, .val (IsB false)), (0, .val (Lit (.int .u64 x))), (113, .val (EnvV))]) (nb := []) H83 (by kernel_rfl) 29 0 #[true, true, true, true, true, true, true, true, true, true, true, true, true, true, true, true, true, true, true, true, true, true, true, true, true, true, true, true, true] (by kernel_rfl) (by kernel_rfl) rfl rfl ?_ ?_
      · refine .cons (.plain rfl (ok_move (.tmp 0 rfl))) ?_
        refine .cons (.plain rfl (ok_not (b := true) (.tmp 0 rfl))) ?_
        refine .cons (.plain rfl (ok_move (.tmp 0 rfl))) ?_
        refine .cons (.wanted 2 false rfl rfl rfl 0 rfl (ok_move (.tmp 1 rfl))) ?_
        refine .cons (.wanted 2 false rfl rfl rfl 0 rfl (ok_callE ((con_of64 b hb).weak (fun v w B h => num_eq hof h)) 2 rfl (.cons (.tmp 1 rfl) (.nil)))) ?_
        refine .cons (.wanted 2 false rfl rfl rfl 0 rfl (ok_load tyV (.tmp 1 rfl))) ?_
        refine .cons (.wanted 2 false rfl rfl rfl 0 rfl (ok_call ((con_sameval z z).weak (fun v w B h => isB_e (decide_eq_true rfl) h)) (.cons (.tmp 1 rfl) (.cons (.weak (.tmp 2 rfl) hvn) (.nil))))) ?_
        refine .cons (.wanted 2 false rfl rfl rfl 0 rfl (ok_not (b := true) (.tmp 1 rfl))) ?_
        refine .cons (.plain rfl (ok_pickF (.tmp 0 rfl) (.tmp 1 rfl))) ?_
        refine .cons (.plain rfl (ok_move (.tmp 0 rfl))) ?_
        refine .cons (.wanted 9 false rfl rfl rfl 0 rfl (ok_move (.tmp 1 rfl))) ?_
        refine .cons (.wanted 9 false rfl rfl rfl 0 rfl (ok_move (.tmp 1 rfl))) ?_
        refine .cons (.wanted 9 false rfl rfl rfl 0 rfl (ok_callE ((con_read64 y hy).weak (fun v w B h => num_eq hof3 h)) 3 rfl (.cons (.tmp 1 rfl) (.cons (.tmp 2 rfl) (.nil))))) ?_
        refine .cons (.wanted 9 false rfl rfl rfl 0 rfl (ok_load tyV (.tmp 1 rfl))) ?_
        refine .cons (.wanted 9 false rfl rfl rfl 0 rfl (ok_call ((con_sameval z z).weak (fun v w B h => isB_e (decide_eq_true rfl) h)) (.cons (.tmp 1 rfl) (.cons (.weak (.tmp 2 rfl) hvn) (.nil))))) ?_
        refine .cons (.wanted 9 false rfl rfl rfl 0 rfl (ok_not (b := true) (.tmp 1 rfl))) ?_
        refine .cons (.plain rfl (ok_pickF (.tmp 0 rfl) (.tmp 1 rfl))) ?_
        refine .cons (.plain rfl (ok_move (.tmp 0 rfl))) ?_
        refine .cons (.wanted 17 false rfl rfl rfl 0 rfl (ok_move (.tmp 1 rfl))) ?_
        refine .cons (.wanted 17 false rfl rfl rfl 0 rfl (ok_cmp (b := true) (.tmp 1 rfl) (.lit) (by decide))) ?_
        refine .cons (.wanted 17 false rfl rfl rfl 0 rfl (ok_move (.tmp 1 rfl))) ?_
        refine .cons (.wanted 20 true rfl rfl rfl 0 rfl (ok_move (.tmp 1 rfl))) ?_
        refine .cons (.wanted 20 true rfl rfl rfl 0 rfl (ok_cmp (b := true) (.tmp 1 rfl) (.lit) (by decide))) ?_
        refine .cons (.wanted 17 false rfl rfl rfl 0 rfl (ok_pickT (.tmp 1 rfl) (.tmp 2 rfl))) ?_
        refine .cons (.wanted 17 false rfl rfl rfl 0 rfl (ok_move (.tmp 1 rfl))) ?_
        refine .cons (.wanted 24 true rfl rfl rfl 0 rfl (ok_move (.tmp 1 rfl))) ?_
        refine .cons (.wanted 24 true rfl rfl rfl 0 rfl (ok_cmp (b := false) (.tmp 1 rfl) (.lit) (by decide))) ?_
        refine .cons (.wanted 17 false rfl rfl rfl 0 rfl (ok_pickT (.tmp 1 rfl) (.tmp 2 rfl))) ?_
        refine .cons (.plain rfl (ok_pickF (.tmp 0 rfl) (.tmp 1 rfl))) ?_
        exact .nil
      clear H83 a83 w83 B83
      intro a84 w84 B84 H84
      refine any_done (by kernel_rfl) ?_
      refine then_normal ?_
      refine f_condF H84 (.tmp 0 rfl) ?_
      refine wp_skip ?_
      refine then_normal ?_
      refine wp_seq ?_
      rcases (back_x x hx) with ⟨hn, hof2, hq2⟩ | ⟨hn, z2, b2, hof2, hq2, hb2, hcmp, hzk⟩
      · have hz2 := ok_of wd64 x (hx64v hx)
        rw [hof2] at hz2
        refine flow_region (dsts := [some 61, some 62, some 10]) (refs := [[.pre 2], [.res 0, .pre 3], []]) (outs := [.res 1, .res 2, .pre 1, .pre 2, .pre 3]) (als := [false, false, true]) (posts := [.val (Lit (.int .u64 x)), .val (IsNum (.flt 9221120237041090560)), .box 37 8 (IsVal 0 0 (IsI 0) 0 0 (⟨#[]⟩) (K0))])
          (out := [(62, .val (IsNum (.flt 9221120237041090560))), (10, .box 37 8 (IsVal 0 0 (IsI 0) 0 0 (⟨#[]⟩) (K0))), (4, .val (IsB false)), (0, .val (Lit (.int .u64 x))), (113, .val (EnvV))]) (nb := [10]) H84 3 [3] rfl (by kernel_rfl) rfl rfl ?_ ?_
        · refine .cons (.plain rfl (ok_move (.tmp 0 rfl))) ?_
          refine .cons (.plain rfl (ok_callE ((con_of64 x hx).weak (fun v w B h => num_eq hof2 h)) 1 rfl (.cons (.tmp 0 rfl) (.nil)))) ?_
          refine .cons (.plain rfl (ok_allocV)) ?_
          exact .nil
        clear H84 a84 w84 B84
        intro a85 w85 B85 H85
        simp only [List.cons_append, List.nil_append] at H85
        refine ops_one ?_
        refine store_op (l' := [(62, .val (IsNum (.flt 9221120237041090560))), (10, .box 37 8 (IsNum (.flt 9221120237041090560))), (4, .val (IsB false)), (0, .val (Lit (.int .u64 x))), (113, .val (EnvV))]) 1 H85 rfl tyV rfl (.tmp 0 rfl) (shape_Val shape_I oneK0) shape_Num rfl rfl ?_
        clear H85 w85
        intro w86 H86
        refine ops_done ?_
        refine then_normal ?_
        refine wp_seq ?_
        refine flow_region (dsts := [some 64, some 65, some 63, some 66, some 67, some 11, some 12]) (refs := [[.pre 1], [.res 0, .pre 4], [.res 1], [.res 2], [.res 2], [.res 3], [.res 4]]) (outs := [.res 5, .res 6, .pre 1, .pre 2, .pre 3, .pre 4]) (als := [false, false, false, false, false, false, false]) (posts := [.val (IsNum (.flt 9221120237041090560)), .val (Tup [Lit (.int .u64 9221120237041090560), IsB true]), .val (Tup [Lit (.int .u64 9221120237041090560), IsB true]), .val (Lit (.int .u64 9221120237041090560)), .val (IsB true), .val (Lit (.int .u64 9221120237041090560)), .val (IsB true)])
          (out := [(11, .val (Lit (.int .u64 9221120237041090560))), (12, .val (IsB true)), (10, .box 37 8 (IsNum (.flt 9221120237041090560))), (4, .val (IsB false)), (0, .val (Lit (.int .u64 x))), (113, .val (EnvV))]) (nb := []) H86 7 [] rfl (by kernel_rfl) rfl rfl ?_ ?_
        · refine .cons (.plain rfl (ok_load tyV (.tmp 0 rfl))) ?_
          refine .cons (.plain rfl (ok_callE ((con_nbits (.flt 9221120237041090560) hz2).weak (fun v w B h => by rw [hq2] at h; exact h)) 1 rfl (.cons (.tmp 0 rfl) (.nil)))) ?_
          refine .cons (.plain rfl (ok_move (.tmp 0 rfl))) ?_
          refine .cons (.plain rfl (ok_extract 0 (.tmp 0 rfl) rfl)) ?_
          refine .cons (.plain rfl (ok_extract 1 (.tmp 0 rfl) rfl)) ?_
          refine .cons (.plain rfl (ok_assign (.tmp 0 rfl))) ?_
          refine .cons (.plain rfl (ok_assign (.tmp 0 rfl))) ?_
          exact .nil
        clear H86 a85 w86 B85
        intro a87 w87 B87 H87
        refine ops_done ?_
        refine then_normal ?_
        refine wp_seq ?_
        refine wp_seq ?_
        refine flow_region (dsts := [some 68, some 69, some 70, some 71, some 72, some 73, some 74]) (refs := [[.pre 2], [.res 0, .pre 5], [.res 1], [.res 2], [.res 3, .pre 1], [.res 3, .res 4], [.res 3, .res 5]]) (outs := [.res 6, .pre 0, .pre 2, .pre 3, .pre 4, .pre 5]) (als := [false, false, false, false, false, false, false]) (posts := [.val (IsNum (.flt 9221120237041090560)), .val (IsErr true), .val (IsB false), .val (IsB false), .val (IsB true), .val (IsB false), .val (IsB false)])
          (out := [(74, .val (IsB false)), (11, .val (Lit (.int .u64 9221120237041090560))), (10, .box 37 8 (IsNum (.flt 9221120237041090560))), (4, .val (IsB false)), (0, .val (Lit (.int .u64 x))), (113, .val (EnvV))]) (nb := []) H87 7 [] rfl (by kernel_rfl) rfl rfl ?_ ?_
        · refine .cons (.plain rfl (ok_load tyV (.tmp 0 rfl))) ?_
          refine .cons (.plain rfl (ok_callE (con_vcheck (.flt 9221120237041090560) hz2) 1 rfl (.cons (.tmp 0 rfl) (.nil)))) ?_
          refine .cons (.plain rfl (ok_neErr (b := true) (.tmp 0 rfl))) ?_
          refine .cons (.plain rfl (ok_move (.tmp 0 rfl))) ?_
          refine .cons (.wanted 3 false rfl rfl rfl 0 rfl (ok_move (.tmp 1 rfl))) ?_
          refine .cons (.wanted 3 false rfl rfl rfl 0 rfl (ok_not (b := true) (.tmp 1 rfl))) ?_
          refine .cons (.plain rfl (ok_pickF (.tmp 0 rfl) (.tmp 1 rfl))) ?_
          exact .nil
        clear H87 a87 w87 B87
        intro a88 w88 B88 H88
        refine ops_done ?_
        refine then_normal ?_
        refine f_condF H88 (.tmp 0 rfl) ?_
        refine wp_skip ?_
        refine then_normal ?_
        refine wp_seq ?_
        refine wp_seq ?_
        refine flow_region (dsts := [some 75, some 76]) (refs := [[.pre 4], [.res 0, .pre 5]]) (outs := [.res 1, .pre 1, .pre 2, .pre 3, .pre 4, .pre 5]) (als := [false, false]) (posts := [.val (Lit (.int .u64 x)), .val (IsB true)])
          (out := [(76, .val (IsB true)), (11, .val (Lit (.int .u64 9221120237041090560))), (10, .box 37 8 (IsNum (.flt 9221120237041090560))), (4, .val (IsB false)), (0, .val (Lit (.int .u64 x))), (113, .val (EnvV))]) (nb := []) H88 2 [] rfl (by kernel_rfl) rfl rfl ?_ ?_
        · refine .cons (.plain rfl (ok_move (.tmp 0 rfl))) ?_
          refine .cons (.plain rfl (ok_callE ((con_nan15 x hx).weak (fun v w B h => by rw [hn] at h; exact h)) 1 rfl (.cons (.tmp 0 rfl) (.nil)))) ?_
          exact .nil
        clear H88 a88 w88 B88
        intro a89 w89 B89 H89
        refine ops_done ?_
        refine then_normal ?_
        refine f_condT H89 (.tmp 0 rfl) ?_
        refine wp_seq ?_
        refine flow_region (dsts := [some 77, some 78, some 79, some 80, some 81, some 82, some 83, some 84, some 85, some 86, some 4]) (refs := [[.pre 1], [.res 0], [.res 1], [.res 2, .pre 2], [.res 2, .res 3], [.res 2, .res 4], [.res 2, .res 5], [.res 6], [.res 7, .pre 5], [.res 7, .res 8], [.res 9]]) (outs := [.res 10, .pre 1, .pre 2, .pre 4, .pre 5]) (als := [false, false, false, false, false, false, false, false, false, false, false]) (posts := [.val (Lit (.int .u64 9221120237041090560)), .val (IsB true), .val (IsB true), .ptr 37 8 (IsNum (.flt 9221120237041090560)) 0, .val (Lit (.int .i8 4)), .val (IsB true), .val (IsB true), .val (IsB true), .val (IsB true), .val (IsB true), .val (IsB true)])
          (out := [(4, .val (IsB true)), (11, .val (Lit (.int .u64 9221120237041090560))), (10, .box 37 8 (IsNum (.flt 9221120237041090560))), (0, .val (Lit (.int .u64 x))), (113, .val (EnvV))]) (nb := []) H89 11 [] rfl (by kernel_rfl) rfl rfl ?_ ?_
        · refine .cons (.plain rfl (ok_move (.tmp 0 rfl))) ?_
          refine .cons (.plain rfl (ok_cmp (b := true) (.tmp 0 rfl) (.lit) (by decide))) ?_
          refine .cons (.plain rfl (ok_move (.tmp 0 rfl))) ?_
          refine .cons (.wanted 2 true rfl rfl rfl 0 rfl (ok_addrV0 (.tmp 1 rfl))) ?_
          refine .cons (.wanted 2 true rfl rfl rfl 0 rfl (ok_loadV0 (.tmp 1 rfl))) ?_
          refine .cons (.wanted 2 true rfl rfl rfl 0 rfl (ok_cmp (b := true) (.tmp 1 rfl) (.lit) (by decide))) ?_
          refine .cons (.plain rfl (ok_pickT (.tmp 0 rfl) (.tmp 1 rfl))) ?_
          refine .cons (.plain rfl (ok_move (.tmp 0 rfl))) ?_
          refine .cons (.wanted 7 true rfl rfl rfl 0 rfl (ok_callE (con_lives15) 1 rfl (.nil))) ?_
          refine .cons (.plain rfl (ok_pickT (.tmp 0 rfl) (.tmp 1 rfl))) ?_
          refine .cons (.plain rfl (ok_assign (.tmp 0 rfl))) ?_
          exact .nil
        clear H89 a89 w89 B89
        intro a90 w90 B90 H90
        refine ops_done ?_
        refine then_normal ?_
        refine wp_ret ?_
        refine then_ret ?_
        exact f_ret H90 rfl 0 rfl (fun _ _ _ h => h)
      · have hz2 := ok_of wd64 x (hx64v hx)
        rw [hof2] at hz2
        refine flow_region (dsts := [some 61, some 62, some 10]) (refs := [[.pre 2], [.res 0, .pre 3], []]) (outs := [.res 1, .res 2, .pre 1, .pre 2, .pre 3]) (als := [false, false, true]) (posts := [.val (Lit (.int .u64 x)), .val (IsNum z2), .box 37 8 (IsVal 0 0 (IsI 0) 0 0 (⟨#[]⟩) (K0))])
          (out := [(62, .val (IsNum z2)), (10, .box 37 8 (IsVal 0 0 (IsI 0) 0 0 (⟨#[]⟩) (K0))), (4, .val (IsB false)), (0, .val (Lit (.int .u64 x))), (113, .val (EnvV))]) (nb := [10]) H84 3 [3] rfl (by kernel_rfl) rfl rfl ?_ ?_
        · refine .cons (.plain rfl (ok_move (.tmp 0 rfl))) ?_
          refine .cons (.plain rfl (ok_callE ((con_of64 x hx).weak (fun v w B h => num_eq hof2 h)) 1 rfl (.cons (.tmp 0 rfl) (.nil)))) ?_
          refine .cons (.plain rfl (ok_allocV)) ?_
          exact .nil
        clear H84 a84 w84 B84
        intro a91 w91 B91 H91
        simp only [List.cons_append, List.nil_append] at H91
        refine ops_one ?_
        refine store_op (l' := [(62, .val (IsNum z2)), (10, .box 37 8 (IsNum z2)), (4, .val (IsB false)), (0, .val (Lit (.int .u64 x))), (113, .val (EnvV))]) 1 H91 rfl tyV rfl (.tmp 0 rfl) (shape_Val shape_I oneK0) shape_Num rfl rfl ?_
        clear H91 w91
        intro w92 H92
        refine ops_done ?_
        refine then_normal ?_
        refine wp_seq ?_
        refine flow_region (dsts := [some 64, some 65, some 63, some 66, some 67, some 11, some 12]) (refs := [[.pre 1], [.res 0, .pre 4], [.res 1], [.res 2], [.res 2], [.res 3], [.res 4]]) (outs := [.res 5, .res 6, .pre 1, .pre 2, .pre 3, .pre 4]) (als := [false, false, false, false, false, false, false]) (posts := [.val (IsNum z2), .val (Tup [Lit (.int .u64 b2), IsB true]), .val (Tup [Lit (.int .u64 b2), IsB true]), .val (Lit (.int .u64 b2)), .val (IsB true), .val (Lit (.int .u64 b2)), .val (IsB true)])
          (out := [(11, .val (Lit (.int .u64 b2))), (12, .val (IsB true)), (10, .box 37 8 (IsNum z2)), (4, .val (IsB false)), (0, .val (Lit (.int .u64 x))), (113, .val (EnvV))]) (nb := []) H92 7 [] rfl (by kernel_rfl) rfl rfl ?_ ?_
        · refine .cons (.plain rfl (ok_load tyV (.tmp 0 rfl))) ?_
          refine .cons (.plain rfl (ok_callE ((con_nbits z2 hz2).weak (fun v w B h => by rw [hq2] at h; exact h)) 1 rfl (.cons (.tmp 0 rfl) (.nil)))) ?_
          refine .cons (.plain rfl (ok_move (.tmp 0 rfl))) ?_
          refine .cons (.plain rfl (ok_extract 0 (.tmp 0 rfl) rfl)) ?_
          refine .cons (.plain rfl (ok_extract 1 (.tmp 0 rfl) rfl)) ?_
          refine .cons (.plain rfl (ok_assign (.tmp 0 rfl))) ?_
          refine .cons (.plain rfl (ok_assign (.tmp 0 rfl))) ?_
          exact .nil
        clear H92 a91 w92 B91
        intro a93 w93 B93 H93
        refine ops_done ?_
        refine then_normal ?_
        refine wp_seq ?_
        refine wp_seq ?_
        refine flow_region (dsts := [some 68, some 69, some 70, some 71, some 72, some 73, some 74]) (refs := [[.pre 2], [.res 0, .pre 5], [.res 1], [.res 2], [.res 3, .pre 1], [.res 3, .res 4], [.res 3, .res 5]]) (outs := [.res 6, .pre 0, .pre 2, .pre 3, .pre 4, .pre 5]) (als := [false, false, false, false, false, false, false]) (posts := [.val (IsNum z2), .val (IsErr true), .val (IsB false), .val (IsB false), .val (IsB true), .val (IsB false), .val (IsB false)])
          (out := [(74, .val (IsB false)), (11, .val (Lit (.int .u64 b2))), (10, .box 37 8 (IsNum z2)), (4, .val (IsB false)), (0, .val (Lit (.int .u64 x))), (113, .val (EnvV))]) (nb := []) H93 7 [] rfl (by kernel_rfl) rfl rfl ?_ ?_
        · refine .cons (.plain rfl (ok_load tyV (.tmp 0 rfl))) ?_
          refine .cons (.plain rfl (ok_callE (con_vcheck (z2) hz2) 1 rfl (.cons (.tmp 0 rfl) (.nil)))) ?_
          refine .cons (.plain rfl (ok_neErr (b := true) (.tmp 0 rfl))) ?_
          refine .cons (.plain rfl (ok_move (.tmp 0 rfl))) ?_
          refine .cons (.wanted 3 false rfl rfl rfl 0 rfl (ok_move (.tmp 1 rfl))) ?_
          refine .cons (.wanted 3 false rfl rfl rfl 0 rfl (ok_not (b := true) (.tmp 1 rfl))) ?_
          refine .cons (.plain rfl (ok_pickF (.tmp 0 rfl) (.tmp 1 rfl))) ?_
          exact .nil
        clear H93 a93 w93 B93
        intro a94 w94 B94 H94
        refine ops_done ?_
        refine then_normal ?_
        refine f_condF H94 (.tmp 0 rfl) ?_
        refine wp_skip ?_
        refine then_normal ?_
        refine wp_seq ?_
        refine wp_seq ?_
        refine flow_region (dsts := [some 75, some 76]) (refs := [[.pre 4], [.res 0, .pre 5]]) (outs := [.res 1, .pre 1, .pre 2, .pre 3, .pre 4, .pre 5]) (als := [false, false]) (posts := [.val (Lit (.int .u64 x)), .val (IsB false)])
          (out := [(76, .val (IsB false)), (11, .val (Lit (.int .u64 b2))), (10, .box 37 8 (IsNum z2)), (4, .val (IsB false)), (0, .val (Lit (.int .u64 x))), (113, .val (EnvV))]) (nb := []) H94 2 [] rfl (by kernel_rfl) rfl rfl ?_ ?_
        · refine .cons (.plain rfl (ok_move (.tmp 0 rfl))) ?_
          refine .cons (.plain rfl (ok_callE ((con_nan15 x hx).weak (fun v w B h => by rw [hn] at h; exact h)) 1 rfl (.cons (.tmp 0 rfl) (.nil)))) ?_
          exact .nil
        clear H94 a94 w94 B94
        intro a95 w95 B95 H95
        refine ops_done ?_
        refine then_normal ?_
        refine f_condF H95 (.tmp 0 rfl) ?_
        refine wp_skip ?_
        refine then_normal ?_
        refine wp_seq ?_
        refine flow_region (dsts := [some 88, some 89, some 90, some 87, some 91, some 92, some 13, some 14]) (refs := [[.pre 4], [.pre 1], [.res 0, .res 1, .pre 5], [.res 2], [.res 3], [.res 3], [.res 4], [.res 5]]) (outs := [.res 6, .res 7, .pre 2, .pre 3, .pre 4, .pre 5]) (als := [false, false, false, false, false, false, false, false]) (posts := [.val (Lit (.int .u64 x)), .val (Lit (.int .u64 b2)), .val (Tup [Lit (.int .i64 0), IsB true]), .val (Tup [Lit (.int .i64 0), IsB true]), .val (Lit (.int .i64 0)), .val (IsB true), .val (Lit (.int .i64 0)), .val (IsB true)])
          (out := [(13, .val (Lit (.int .i64 0))), (14, .val (IsB true)), (10, .box 37 8 (IsNum z2)), (4, .val (IsB false)), (0, .val (Lit (.int .u64 x))), (113, .val (EnvV))]) (nb := []) H95 8 [] rfl (by kernel_rfl) rfl rfl ?_ ?_
        · refine .cons (.plain rfl (ok_move (.tmp 0 rfl))) ?_
          refine .cons (.plain rfl (ok_move (.tmp 0 rfl))) ?_
          refine .cons (.plain rfl (ok_callE ((con_icmp64 x b2 hx hb2).weak (fun v w B h => by rw [hcmp] at h; exact h)) 2 rfl (.cons (.tmp 0 rfl) (.cons (.tmp 1 rfl) (.nil))))) ?_
          refine .cons (.plain rfl (ok_move (.tmp 0 rfl))) ?_
          refine .cons (.plain rfl (ok_extract 0 (.tmp 0 rfl) rfl)) ?_
          refine .cons (.plain rfl (ok_extract 1 (.tmp 0 rfl) rfl)) ?_
          refine .cons (.plain rfl (ok_assign (.tmp 0 rfl))) ?_
          refine .cons (.plain rfl (ok_assign (.tmp 0 rfl))) ?_
          exact .nil
        clear H95 a95 w95 B95
        intro a96 w96 B96 H96
        refine ops_done ?_
        refine then_normal ?_
        refine wp_seq ?_
        refine flow_region (dsts := [some 94, some 95, some 93, some 96, some 97, some 15]) (refs := [[.pre 4], [.res 0, .pre 5], [.res 1], [.res 2], [.res 2], []]) (outs := [.res 3, .res 4, .res 5, .pre 0, .pre 1, .pre 2, .pre 3, .pre 5]) (als := [false, false, false, false, false, true]) (posts := [.val (Lit (.int .u64 x)), .val (Tup [IsI (intN 64 x), IsB (intOk 64 x)]), .val (Tup [IsI (intN 64 x), IsB (intOk 64 x)]), .val (IsI (intN 64 x)), .val (IsB (intOk 64 x)), .box 34 2 (Zero2)])
          (out := [(96, .val (IsI (intN 64 x))), (97, .val (IsB (intOk 64 x))), (15, .box 34 2 (Zero2)), (13, .val (Lit (.int .i64 0))), (14, .val (IsB true)), (10, .box 37 8 (IsNum z2)), (4, .val (IsB false)), (113, .val (EnvV))]) (nb := [15]) H96 6 [6, 7] rfl (by kernel_rfl) rfl rfl ?_ ?_
        · refine .cons (.plain rfl (ok_move (.tmp 0 rfl))) ?_
          refine .cons (.plain rfl (ok_callE (con_iint64 x hx) 1 rfl (.cons (.tmp 0 rfl) (.nil)))) ?_
          refine .cons (.plain rfl (ok_move (.tmp 0 rfl))) ?_
          refine .cons (.plain rfl (ok_extract 0 (.tmp 0 rfl) rfl)) ?_
          refine .cons (.plain rfl (ok_extract 1 (.tmp 0 rfl) rfl)) ?_
          refine .cons (.plain rfl (ok_alloc (D := Zero2) zeroI rfl (fun _ _ => rfl))) ?_
          exact .nil
        clear H96 a96 w96 B96
        intro a97 w97 B97 H97
        simp only [List.cons_append, List.nil_append] at H97
        refine ops_one ?_
        refine store_op (l' := [(96, .val (IsI (intN 64 x))), (97, .val (IsB (intOk 64 x))), (15, .box 34 2 (IsI (intN 64 x))), (13, .val (Lit (.int .i64 0))), (14, .val (IsB true)), (10, .box 37 8 (IsNum z2)), (4, .val (IsB false)), (113, .val (EnvV))]) 2 H97 rfl tyI rfl (.tmp 0 rfl) shape_Z shape_I rfl rfl ?_
        clear H97 w97
        intro w98 H98
        refine ops_one ?_
        refine tail_op (D := .val (IsB (intOk 64 x))) (l' := [(16, .val (IsB (intOk 64 x))), (96, .val (IsI (intN 64 x))), (97, .val (IsB (intOk 64 x))), (15, .box 34 2 (IsI (intN 64 x))), (13, .val (Lit (.int .i64 0))), (14, .val (IsB true)), (10, .box 37 8 (IsNum z2)), (4, .val (IsB false)), (113, .val (EnvV))]) H98 rfl rfl rfl (.plain rfl (ok_assign (.tmp 1 rfl))) rfl rfl ?_
        clear H98 a97 w98 B97
        intro a99 w99 B99 H99
        refine ops_done ?_
        refine then_normal ?_
        refine wp_seq ?_
        refine flow_region (dsts := [some 98, some 99, some 100, some 101, some 102, some 103, some 104, some 105, some 106, some 107, some 108, some 109, some 110, some 111, some 112, some 4]) (refs := [[.pre 4], [.res 0], [.res 1], [.res 2, .pre 5], [.res 2, .res 3], [.res 4], [.res 5, .pre 6], [.res 5, .res 6], [.res 5, .res 7], [.res 5, .pre 0], [.res 5, .res 8, .res 9], [.res 5, .res 10], [.res 11], [.res 12, .pre 8], [.res 12, .res 13], [.res 14]]) (outs := [.res 15, .pre 8]) (als := [false, false, false, false, false, false, false, false, false, false, false, false, false, false, false, false]) (posts := [.val (Lit (.int .i64 0)), .val (IsB true), .val (IsB true), .val (IsB true), .val (IsB true), .val (IsB true), .ptr 37 8 (IsNum z2) 0, .val (Lit (.int .i8 z2.k)), .val (IsB (decide (z2.k = 3))), .val (IsB (intOk 64 x)), .val (IsB true), .val (IsB true), .val (IsB true), .val (IsB true), .val (IsB true), .val (IsB true)])
          (out := [(4, .val (IsB true)), (113, .val (EnvV))]) (nb := []) H99 16 [] rfl (by kernel_rfl) rfl rfl ?_ ?_
        · refine .cons (.plain rfl (ok_move (.tmp 0 rfl))) ?_
          refine .cons (.plain rfl (ok_cmp (b := true) (.tmp 0 rfl) (.lit) (by decide))) ?_
          refine .cons (.plain rfl (ok_move (.tmp 0 rfl))) ?_
          refine .cons (.wanted 2 true rfl rfl rfl 0 rfl (ok_move (.tmp 1 rfl))) ?_
          refine .cons (.plain rfl (ok_pickT (.tmp 0 rfl) (.tmp 1 rfl))) ?_
          refine .cons (.plain rfl (ok_move (.tmp 0 rfl))) ?_
          refine .cons (.wanted 5 true rfl rfl rfl 0 rfl (ok_addrV0 (.tmp 1 rfl))) ?_
          refine .cons (.wanted 5 true rfl rfl rfl 0 rfl (ok_loadV0 (.tmp 1 rfl))) ?_
          refine .cons (.wanted 5 true rfl rfl rfl 0 rfl (ok_cmp (.tmp 1 rfl) (.lit) rfl)) ?_
          refine .cons (.wanted 5 true rfl rfl rfl 0 rfl (ok_move (.tmp 1 rfl))) ?_
          refine .cons (.wanted 5 true rfl rfl rfl 0 rfl (OpOk.eqB (b := (decide (z2.k = 3)) == (intOk 64 x)) (ok_eqB Tryz.underlying4 (.tmp 1 rfl) (.tmp 2 rfl)) (hzk))) ?_
          refine .cons (.plain rfl (ok_pickT (.tmp 0 rfl) (.tmp 1 rfl))) ?_
          refine .cons (.plain rfl (ok_move (.tmp 0 rfl))) ?_
          refine .cons (.wanted 12 true rfl rfl rfl 0 rfl (ok_callE (con_lives15) 1 rfl (.nil))) ?_
          refine .cons (.plain rfl (ok_pickT (.tmp 0 rfl) (.tmp 1 rfl))) ?_
          refine .cons (.plain rfl (ok_assign (.tmp 0 rfl))) ?_
          exact .nil
        clear H99 a99 w99 B99
        intro a100 w100 B100 H100
        refine ops_done ?_
        refine then_normal ?_
        refine wp_ret ?_
        exact f_ret H100 rfl 0 rfl (fun _ _ _ h => h)
theorem walk_NumberBack (w : World) (hS : Shapes w) (hT : Tab w) (hA : ErrAP w (fun _ => False)) (x : Int) (hx : 0 ≤ x ∧ x < 18446744073709551616) (t : VT) (vt : Value) (ft : RdV w.heap.size w (fun _ => False) t vt) (okt : VOk (VT.d t)) :
    Calls Tryz.prog 9 #[.int .u64 x, vt] w (fun e w' => e = .returned (.bool true) ∧ Below w.heap.size w w') := by
  refine ((con_NumberBack x hx t okt).calls [.int .u64 x, vt] w (fun _ => False) (fun _ h => h.elim) ⟨hS, hT, fun h => h⟩ ⟨rfl, ⟨ft, hA⟩, trivial⟩).mono ?_
  rintro e w' ⟨v, rfl, h, hb⟩
  obtain rfl := h
  exact ⟨rfl, hb⟩
end Go.Proofs.YtoimhjcpeifegaaGreatDoor
