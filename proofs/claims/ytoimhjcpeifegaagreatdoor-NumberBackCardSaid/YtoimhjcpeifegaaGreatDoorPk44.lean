/- Contracts of functions, and plain facts, part 44. -/
import Derived.Test.YtoimhjcpeifegaaGreatDoorPk43
set_option linter.unusedVariables false
set_option linter.unusedSimpArgs false
/- VRead. (Printed by flow15.py.) -/
namespace Go.Proofs.YtoimhjcpeifegaaGreatDoor
open Go Go.RowKit

theorem wd64 : Wide 64 := w64
def BackV (t : VT) : Prop := NoNum t ∨
    (∃ z, (∀ v w B, (IsVA t).p v w B → (IsNum z).p v w B) ∧ okNV z ∧ bitsO (whatV z) = ((bitsO (whatV z)).1, false)) ∨
    (∃ z b y, (∀ v w B, (IsVA t).p v w B → (IsNum z).p v w B) ∧ okNV z ∧ bitsO (whatV z) = (b, true) ∧ ofV 64 b = z ∧ (0 ≤ b ∧ b < 18446744073709551616) ∧ narrowP (b, true) = (16, y, true) ∧ ofV 16 y = z ∧ 0 ≤ y ∧ y < 65536) ∨
    (∃ z b y, (∀ v w B, (IsVA t).p v w B → (IsNum z).p v w B) ∧ okNV z ∧ bitsO (whatV z) = (b, true) ∧ ofV 64 b = z ∧ (0 ≤ b ∧ b < 18446744073709551616) ∧ narrowP (b, true) = (32, y, true) ∧ ofV 32 y = z ∧ 0 ≤ y ∧ y < 4294967296) ∨
    (∃ z b y, (∀ v w B, (IsVA t).p v w B → (IsNum z).p v w B) ∧ okNV z ∧ bitsO (whatV z) = (b, true) ∧ ofV 64 b = z ∧ (0 ≤ b ∧ b < 18446744073709551616) ∧ narrowP (b, true) = (64, y, true) ∧ ofV 64 y = z ∧ 0 ≤ y ∧ y < 18446744073709551616)
theorem val_cases (t : VT) (hb : 0 ≤ (VT.d t).b ∧ (VT.d t).b < 18446744073709551616) (hW : Wn t) : BackV t := by
  have good : ∀ hk : (VT.d t).k = 3 ∨ (VT.d t).k = 4, aloneT t = true → BackV t := fun hk hg => by
    have hv := weakVANum hk hg hW
    have hz := num_ok hk hb hg
    rcases back_v (numT t) hz with h | ⟨b, y, h1, h2, h3, ⟨h4, h5⟩ | ⟨h4, h5⟩ | ⟨h4, h5⟩⟩
    · exact .inr (.inl ⟨numT t, hv, hz, by rw [← h]⟩)
    · exact .inr (.inr (.inl ⟨numT t, b, y, hv, hz, h1, h2, h3, h4, h5⟩))
    · exact .inr (.inr (.inr (.inl ⟨numT t, b, y, hv, hz, h1, h2, h3, h4, h5⟩)))
    · exact .inr (.inr (.inr (.inr ⟨numT t, b, y, hv, hz, h1, h2, h3, h4, h5⟩)))
  rcases k_cases t with h | ⟨h3, h⟩ | ⟨h3, h⟩ | ⟨h3, h4, h⟩ | ⟨h3, h4, h⟩
  · exact .inl (.inl h)
  · exact good (.inl h3) h
  · exact .inl (.inr ⟨.inl h3, h⟩)
  · exact good (.inr h4) h
  · exact .inl (.inr ⟨.inr h4, h⟩)

set_option maxRecDepth 20000 in
set_option maxHeartbeats 2000000 in
theorem con_read16 (y : Int) (hy : 0 ≤ y ∧ y < 65536) : ConE Tryz.prog 47 [Lit (.int .i64 16), Lit (.int .u64 y)] (IsNum (ofV 16 y)) := by
  refine f_enterE (N := 18) Tryz.ntmps47 (fun _ _ => by go_simp) Tryz.func47 rfl (by simp) ?_
  intro a0 w0 B0 H0
  replace H0 : St 18 w0 B0 a0 w0 B0 [(0, .val (Lit (.int .i64 16))), (1, .val (Lit (.int .u64 y))), (18, .val (EnvV))] [] := H0
  refine wp_seq ?_
  refine flow_region (dsts := [some 4]) (refs := [[]]) (outs := [.res 0, .pre 0, .pre 1, .pre 2]) (als := [true]) (posts := [.box 37 8 (IsVal 0 0 (IsI 0) 0 0 (⟨#[]⟩) (K0))])
    (out := [(4, .box 37 8 (IsVal 0 0 (IsI 0) 0 0 (⟨#[]⟩) (K0))), (0, .val (Lit (.int .i64 16))), (1, .val (Lit (.int .u64 y))), (18, .val (EnvV))]) (nb := [4]) H0 1 [] rfl (by kernel_rfl) rfl rfl ?_ ?_
  · refine .cons (.plain rfl (ok_allocV)) ?_
    exact .nil
  clear H0
  intro a1 w1 B1 H1
  simp only [List.cons_append, List.nil_append] at H1
  refine ops_done ?_
  refine then_normal ?_
  refine wp_seq ?_
  refine wp_seq ?_
  refine flow_region (dsts := [some 5]) (refs := [[.pre 1]]) (outs := [.res 0, .pre 0, .pre 2, .pre 3]) (als := [false]) (posts := [.val (Lit (.int .i64 16))])
    (out := [(5, .val (Lit (.int .i64 16))), (4, .box 37 8 (IsVal 0 0 (IsI 0) 0 0 (⟨#[]⟩) (K0))), (1, .val (Lit (.int .u64 y))), (18, .val (EnvV))]) (nb := []) H1 1 [] rfl (by kernel_rfl) rfl rfl ?_ ?_
  · refine .cons (.plain rfl (ok_move (.tmp 0 rfl))) ?_
    exact .nil
  clear H1 a1 w1 B1
  intro a2 w2 B2 H2
  refine ops_done ?_
  refine then_normal ?_
  refine wp_block ?_
  refine wp_seq ?_
  refine flow_region (dsts := [some 7, some 6]) (refs := [[.pre 0], [.res 0]]) (outs := [.res 1, .pre 0, .pre 1, .pre 2, .pre 3]) (als := [false, false]) (posts := [.val (IsB true), .val (IsB true)])
    (out := [(6, .val (IsB true)), (5, .val (Lit (.int .i64 16))), (4, .box 37 8 (IsVal 0 0 (IsI 0) 0 0 (⟨#[]⟩) (K0))), (1, .val (Lit (.int .u64 y))), (18, .val (EnvV))]) (nb := []) H2 2 [] rfl (by kernel_rfl) rfl rfl ?_ ?_
  · refine .cons (.plain rfl (ok_cmp (b := true) (.tmp 0 rfl) (.lit) (by decide))) ?_
    refine .cons (.plain rfl (ok_assign (.tmp 0 rfl))) ?_
    exact .nil
  clear H2 a2 w2 B2
  intro a3 w3 B3 H3
  refine ops_done ?_
  refine then_normal ?_
  refine f_condT H3 (.tmp 0 rfl) ?_
  refine wp_seq ?_
  refine flow_region (dsts := [some 8, some 9, some 10]) (refs := [[.pre 3], [.res 0], [.res 1, .pre 4]]) (outs := [.res 2, .pre 1, .pre 2, .pre 3, .pre 4]) (als := [false, false, false]) (posts := [.val (Lit (.int .u64 y)), .val (Lit (.int .u16 y)), .val (IsNum (ofV 16 y))])
    (out := [(10, .val (IsNum (ofV 16 y))), (5, .val (Lit (.int .i64 16))), (4, .box 37 8 (IsVal 0 0 (IsI 0) 0 0 (⟨#[]⟩) (K0))), (1, .val (Lit (.int .u64 y))), (18, .val (EnvV))]) (nb := []) H3 3 [3] rfl (by kernel_rfl) rfl rfl ?_ ?_
  · refine .cons (.plain rfl (ok_move (.tmp 0 rfl))) ?_
    refine .cons (.plain rfl (ok_conv Tryz.underlying24 Tryz.underlying22 (r := y) (.tmp 0 rfl) (w_u16 (by omega)))) ?_
    refine .cons (.plain rfl (ok_callE (con_of16 y hy) 1 rfl (.cons (.tmp 0 rfl) (.nil)))) ?_
    exact .nil
  clear H3 a3 w3 B3
  intro a4 w4 B4 H4
  refine ops_one ?_
  refine store_op (l' := [(10, .val (IsNum (ofV 16 y))), (5, .val (Lit (.int .i64 16))), (4, .box 37 8 (IsNum (ofV 16 y))), (1, .val (Lit (.int .u64 y))), (18, .val (EnvV))]) 2 H4 rfl tyV rfl (.tmp 0 rfl) (shape_Val shape_I oneK0) shape_Num rfl rfl ?_
  clear H4 w4
  intro w5 H5
  refine ops_done ?_
  refine then_normal ?_
  refine wp_ret ?_
  refine block_ret ?_
  refine then_ret ?_
  exact f_retC H5 tyV rfl 2 rfl (fun _ _ _ h => h)

set_option maxRecDepth 20000 in
set_option maxHeartbeats 2000000 in
theorem con_read32 (y : Int) (hy : 0 ≤ y ∧ y < 4294967296) : ConE Tryz.prog 47 [Lit (.int .i64 32), Lit (.int .u64 y)] (IsNum (ofV 32 y)) := by
  refine f_enterE (N := 18) Tryz.ntmps47 (fun _ _ => by go_simp) Tryz.func47 rfl (by simp) ?_
  intro a0 w0 B0 H0
  replace H0 : St 18 w0 B0 a0 w0 B0 [(0, .val (Lit (.int .i64 32))), (1, .val (Lit (.int .u64 y))), (18, .val (EnvV))] [] := H0
  refine wp_seq ?_
  refine flow_region (dsts := [some 4]) (refs := [[]]) (outs := [.res 0, .pre 0, .pre 1, .pre 2]) (als := [true]) (posts := [.box 37 8 (IsVal 0 0 (IsI 0) 0 0 (⟨#[]⟩) (K0))])
    (out := [(4, .box 37 8 (IsVal 0 0 (IsI 0) 0 0 (⟨#[]⟩) (K0))), (0, .val (Lit (.int .i64 32))), (1, .val (Lit (.int .u64 y))), (18, .val (EnvV))]) (nb := [4]) H0 1 [] rfl (by kernel_rfl) rfl rfl ?_ ?_
  · refine .cons (.plain rfl (ok_allocV)) ?_
    exact .nil
  clear H0
  intro a1 w1 B1 H1
  simp only [List.cons_append, List.nil_append] at H1
  refine ops_done ?_
  refine then_normal ?_
  refine wp_seq ?_
  refine wp_seq ?_
  refine flow_region (dsts := [some 5]) (refs := [[.pre 1]]) (outs := [.res 0, .pre 0, .pre 2, .pre 3]) (als := [false]) (posts := [.val (Lit (.int .i64 32))])
    (out := [(5, .val (Lit (.int .i64 32))), (4, .box 37 8 (IsVal 0 0 (IsI 0) 0 0 (⟨#[]⟩) (K0))), (1, .val (Lit (.int .u64 y))), (18, .val (EnvV))]) (nb := []) H1 1 [] rfl (by kernel_rfl) rfl rfl ?_ ?_
  · refine .cons (.plain rfl (ok_move (.tmp 0 rfl))) ?_
    exact .nil
  clear H1 a1 w1 B1
  intro a2 w2 B2 H2
  refine ops_done ?_
  refine then_normal ?_
  refine wp_block ?_
  refine wp_seq ?_
  refine flow_region (dsts := [some 7, some 6]) (refs := [[.pre 0], [.res 0]]) (outs := [.res 1, .pre 0, .pre 1, .pre 2, .pre 3]) (als := [false, false]) (posts := [.val (IsB false), .val (IsB false)])
    (out := [(6, .val (IsB false)), (5, .val (Lit (.int .i64 32))), (4, .box 37 8 (IsVal 0 0 (IsI 0) 0 0 (⟨#[]⟩) (K0))), (1, .val (Lit (.int .u64 y))), (18, .val (EnvV))]) (nb := []) H2 2 [] rfl (by kernel_rfl) rfl rfl ?_ ?_
  · refine .cons (.plain rfl (ok_cmp (b := false) (.tmp 0 rfl) (.lit) (by decide))) ?_
    refine .cons (.plain rfl (ok_assign (.tmp 0 rfl))) ?_
    exact .nil
  clear H2 a2 w2 B2
  intro a3 w3 B3 H3
  refine ops_done ?_
  refine then_normal ?_
  refine f_condF H3 (.tmp 0 rfl) ?_
  refine wp_seq ?_
  refine flow_region (dsts := [some 12, some 11]) (refs := [[.pre 1], [.res 0]]) (outs := [.res 1, .pre 2, .pre 3, .pre 4]) (als := [false, false]) (posts := [.val (IsB true), .val (IsB true)])
    (out := [(11, .val (IsB true)), (4, .box 37 8 (IsVal 0 0 (IsI 0) 0 0 (⟨#[]⟩) (K0))), (1, .val (Lit (.int .u64 y))), (18, .val (EnvV))]) (nb := []) H3 2 [] rfl (by kernel_rfl) rfl rfl ?_ ?_
  · refine .cons (.plain rfl (ok_cmp (b := true) (.tmp 0 rfl) (.lit) (by decide))) ?_
    refine .cons (.plain rfl (ok_assign (.tmp 0 rfl))) ?_
    exact .nil
  clear H3 a3 w3 B3
  intro a4 w4 B4 H4
  refine ops_done ?_
  refine then_normal ?_
  refine f_condT H4 (.tmp 0 rfl) ?_
  refine wp_seq ?_
  refine flow_region (dsts := [some 13, some 14, some 15]) (refs := [[.pre 2], [.res 0], [.res 1, .pre 3]]) (outs := [.res 2, .pre 1, .pre 2, .pre 3]) (als := [false, false, false]) (posts := [.val (Lit (.int .u64 y)), .val (Lit (.int .u32 y)), .val (IsNum (ofV 32 y))])
    (out := [(15, .val (IsNum (ofV 32 y))), (4, .box 37 8 (IsVal 0 0 (IsI 0) 0 0 (⟨#[]⟩) (K0))), (1, .val (Lit (.int .u64 y))), (18, .val (EnvV))]) (nb := []) H4 3 [3] rfl (by kernel_rfl) rfl rfl ?_ ?_
  · refine .cons (.plain rfl (ok_move (.tmp 0 rfl))) ?_
    refine .cons (.plain rfl (ok_conv Tryz.underlying24 Tryz.underlying23 (r := y) (.tmp 0 rfl) (w_u32 (by omega)))) ?_
    refine .cons (.plain rfl (ok_callE (con_of32 y hy) 1 rfl (.cons (.tmp 0 rfl) (.nil)))) ?_
    exact .nil
  clear H4 a4 w4 B4
  intro a5 w5 B5 H5
  refine ops_one ?_
  refine store_op (l' := [(15, .val (IsNum (ofV 32 y))), (4, .box 37 8 (IsNum (ofV 32 y))), (1, .val (Lit (.int .u64 y))), (18, .val (EnvV))]) 1 H5 rfl tyV rfl (.tmp 0 rfl) (shape_Val shape_I oneK0) shape_Num rfl rfl ?_
  clear H5 w5
  intro w6 H6
  refine ops_done ?_
  refine then_normal ?_
  refine wp_ret ?_
  refine block_ret ?_
  refine then_ret ?_
  exact f_retC H6 tyV rfl 1 rfl (fun _ _ _ h => h)

set_option maxRecDepth 20000 in
set_option maxHeartbeats 2000000 in
theorem con_read64 (y : Int) (hy : 0 ≤ y ∧ y < 18446744073709551616) : ConE Tryz.prog 47 [Lit (.int .i64 64), Lit (.int .u64 y)] (IsNum (ofV 64 y)) := by
  refine f_enterE (N := 18) Tryz.ntmps47 (fun _ _ => by go_simp) Tryz.func47 rfl (by simp) ?_
  intro a0 w0 B0 H0
  replace H0 : St 18 w0 B0 a0 w0 B0 [(0, .val (Lit (.int .i64 64))), (1, .val (Lit (.int .u64 y))), (18, .val (EnvV))] [] := H0
  refine wp_seq ?_
  refine flow_region (dsts := [some 4]) (refs := [[]]) (outs := [.res 0, .pre 0, .pre 1, .pre 2]) (als := [true]) (posts := [.box 37 8 (IsVal 0 0 (IsI 0) 0 0 (⟨#[]⟩) (K0))])
    (out := [(4, .box 37 8 (IsVal 0 0 (IsI 0) 0 0 (⟨#[]⟩) (K0))), (0, .val (Lit (.int .i64 64))), (1, .val (Lit (.int .u64 y))), (18, .val (EnvV))]) (nb := [4]) H0 1 [] rfl (by kernel_rfl) rfl rfl ?_ ?_
  · refine .cons (.plain rfl (ok_allocV)) ?_
    exact .nil
  clear H0
  intro a1 w1 B1 H1
  simp only [List.cons_append, List.nil_append] at H1
  refine ops_done ?_
  refine then_normal ?_
  refine wp_seq ?_
  refine wp_seq ?_
  refine flow_region (dsts := [some 5]) (refs := [[.pre 1]]) (outs := [.res 0, .pre 0, .pre 2, .pre 3]) (als := [false]) (posts := [.val (Lit (.int .i64 64))])
    (out := [(5, .val (Lit (.int .i64 64))), (4, .box 37 8 (IsVal 0 0 (IsI 0) 0 0 (⟨#[]⟩) (K0))), (1, .val (Lit (.int .u64 y))), (18, .val (EnvV))]) (nb := []) H1 1 [] rfl (by kernel_rfl) rfl rfl ?_ ?_
  · refine .cons (.plain rfl (ok_move (.tmp 0 rfl))) ?_
    exact .nil
  clear H1 a1 w1 B1
  intro a2 w2 B2 H2
  refine ops_done ?_
  refine then_normal ?_
  refine wp_block ?_
  refine wp_seq ?_
  refine flow_region (dsts := [some 7, some 6]) (refs := [[.pre 0], [.res 0]]) (outs := [.res 1, .pre 0, .pre 1, .pre 2, .pre 3]) (als := [false, false]) (posts := [.val (IsB false), .val (IsB false)])
    (out := [(6, .val (IsB false)), (5, .val (Lit (.int .i64 64))), (4, .box 37 8 (IsVal 0 0 (IsI 0) 0 0 (⟨#[]⟩) (K0))), (1, .val (Lit (.int .u64 y))), (18, .val (EnvV))]) (nb := []) H2 2 [] rfl (by kernel_rfl) rfl rfl ?_ ?_
  · refine .cons (.plain rfl (ok_cmp (b := false) (.tmp 0 rfl) (.lit) (by decide))) ?_
    refine .cons (.plain rfl (ok_assign (.tmp 0 rfl))) ?_
    exact .nil
  clear H2 a2 w2 B2
  intro a3 w3 B3 H3
  refine ops_done ?_
  refine then_normal ?_
  refine f_condF H3 (.tmp 0 rfl) ?_
  refine wp_seq ?_
  refine flow_region (dsts := [some 12, some 11]) (refs := [[.pre 1], [.res 0]]) (outs := [.res 1, .pre 2, .pre 3, .pre 4]) (als := [false, false]) (posts := [.val (IsB false), .val (IsB false)])
    (out := [(11, .val (IsB false)), (4, .box 37 8 (IsVal 0 0 (IsI 0) 0 0 (⟨#[]⟩) (K0))), (1, .val (Lit (.int .u64 y))), (18, .val (EnvV))]) (nb := []) H3 2 [] rfl (by kernel_rfl) rfl rfl ?_ ?_
  · refine .cons (.plain rfl (ok_cmp (b := false) (.tmp 0 rfl) (.lit) (by decide))) ?_
    refine .cons (.plain rfl (ok_assign (.tmp 0 rfl))) ?_
    exact .nil
  clear H3 a3 w3 B3
  intro a4 w4 B4 H4
  refine ops_done ?_
  refine then_normal ?_
  refine f_condF H4 (.tmp 0 rfl) ?_
  refine wp_skip ?_
  refine block_normal ?_
  refine then_normal ?_
  refine wp_seq ?_
  refine flow_region (dsts := [some 16, some 17]) (refs := [[.pre 2], [.res 0, .pre 3]]) (outs := [.res 1, .pre 1, .pre 3]) (als := [false, false]) (posts := [.val (Lit (.int .u64 y)), .val (IsNum (ofV 64 y))])
    (out := [(17, .val (IsNum (ofV 64 y))), (4, .box 37 8 (IsVal 0 0 (IsI 0) 0 0 (⟨#[]⟩) (K0))), (18, .val (EnvV))]) (nb := []) H4 2 [2] rfl (by kernel_rfl) rfl rfl ?_ ?_
  · refine .cons (.plain rfl (ok_move (.tmp 0 rfl))) ?_
    refine .cons (.plain rfl (ok_callE (con_of64 y hy) 1 rfl (.cons (.tmp 0 rfl) (.nil)))) ?_
    exact .nil
  clear H4 a4 w4 B4
  intro a5 w5 B5 H5
  refine ops_one ?_
  refine store_op (l' := [(17, .val (IsNum (ofV 64 y))), (4, .box 37 8 (IsNum (ofV 64 y))), (18, .val (EnvV))]) 1 H5 rfl tyV rfl (.tmp 0 rfl) (shape_Val shape_I oneK0) shape_Num rfl rfl ?_
  clear H5 w5
  intro w6 H6
  refine ops_done ?_
  refine then_normal ?_
  refine wp_ret ?_
  exact f_retC H6 tyV rfl 1 rfl (fun _ _ _ h => h)
end Go.Proofs.YtoimhjcpeifegaaGreatDoor

