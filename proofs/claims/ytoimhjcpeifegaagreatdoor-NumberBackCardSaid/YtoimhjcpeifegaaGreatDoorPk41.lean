/- Contracts of functions, and plain facts, part 41. -/
import Derived.Test.YtoimhjcpeifegaaGreatDoorPk13
import Derived.Test.YtoimhjcpeifegaaGreatDoorPk39
set_option linter.unusedVariables false
set_option linter.unusedSimpArgs false
/- VNone. (Printed by flow15.py.) -/
namespace Go.Proofs.YtoimhjcpeifegaaGreatDoor
open Go Go.RowKit

set_option maxRecDepth 20000 in
set_option maxHeartbeats 2000000 in
theorem con_check1A (t : VT) (hk : (VT.d t).k = 3 ∨ (VT.d t).k = 4) (hb : 0 ≤ (VT.d t).b ∧ (VT.d t).b < 18446744073709551616) (d : Int) : ConE Tryz.prog 100 [IsVA t, Lit (.int .i64 d)] (IsB (!aloneT t)) := by
  refine f_enterE (N := 8) Tryz.ntmps100 (fun _ _ => by go_simp) Tryz.func100 rfl (by simp) ?_
  intro a0 w0 B0 H0
  replace H0 : St 8 w0 B0 a0 w0 B0 [(0, .val (IsVA t)), (1, .val (Lit (.int .i64 d))), (8, .val (EnvV))] [] := H0
  refine wp_seq ?_
  refine flow_region (dsts := [some 2, some 4]) (refs := [[.pre 0], []]) (outs := [.res 0, .res 1, .pre 2]) (als := [true, false]) (posts := [.box 37 8 (IsVA t), .val (IsB false)])
    (out := [(2, .box 37 8 (IsVA t)), (4, .val (IsB false)), (8, .val (EnvV))]) (nb := [2]) H0 2 [] rfl (by kernel_rfl) rfl rfl ?_ ?_
  · refine .cons (.plain rfl (ok_box (.tmp 0 rfl) shape_VA.two)) ?_
    refine .cons (.plain rfl (ok_assign (.lit))) ?_
    exact .nil
  clear H0
  intro a1 w1 B1 H1
  simp only [List.cons_append, List.nil_append] at H1
  refine ops_done ?_
  refine then_normal ?_
  refine wp_seq ?_
  refine flow_region (dsts := [some 5, some 6, some 7, some 4]) (refs := [[.pre 0], [.res 0, .pre 2], [.res 1], [.res 2]]) (outs := [.res 3, .pre 2]) (als := [false, false, false, false]) (posts := [.val (IsVA t), .val (IsB (aloneT t)), .val (IsB (!(aloneT t))), .val (IsB (!(aloneT t)))])
    (out := [(4, .val (IsB (!(aloneT t)))), (8, .val (EnvV))]) (nb := []) H1 4 [] rfl (by kernel_rfl) rfl rfl ?_ ?_
  · refine .cons (.plain rfl (ok_load tyV (.tmp 0 rfl))) ?_
    refine .cons (.plain rfl (ok_callE (con_aloneA t hk hb) 1 rfl (.cons (.tmp 0 rfl) (.nil)))) ?_
    refine .cons (.plain rfl (ok_not (b := aloneT t) (.tmp 0 rfl))) ?_
    refine .cons (.plain rfl (ok_assign (.tmp 0 rfl))) ?_
    exact .nil
  clear H1 a1 w1 B1
  intro a2 w2 B2 H2
  refine ops_done ?_
  refine then_normal ?_
  refine wp_ret ?_
  exact f_ret H2 rfl 0 rfl (fun v w B h => by exact h)

/-- A number's node that may not be: an error. -/
theorem con_checkbad (t : VT) (hk : (VT.d t).k = 3 ∨ (VT.d t).k = 4) (hb : 0 ≤ (VT.d t).b ∧ (VT.d t).b < 18446744073709551616) (hno : aloneT t = false) : ConE Tryz.prog 39 [IsVA t] (IsErr false) := by
  refine ⟨fun _ _ => by go_simp, fun vs w B hB hE hV => ?_⟩
  match vs, hV with
  | [v], ⟨⟨h1, h2⟩, _⟩ =>
    have hst : ∀ w', Below w.heap.size w w' → EnvP w' (fun _ => False) ∧ (IsVA t).p v w' (fun _ => False) := fun w' hb => by
      have hE2 := hE.mv (Bl.of_below B hb).mv
      exact ⟨⟨hE2.sh, hE2.tab, fun h => h⟩, (IsVA t).st _ _ _ _ _ ⟨hb.size, fun k hk => .inl (hb.block k hk), fun _ _ h => h.elim⟩ ⟨h1, h2⟩⟩
    have h3 : RdV w.heap.size w B t v := h1
    obtain ⟨cs, rfl⟩ := h3.agg
    obtain ⟨ad, n, c, kd, rfl, _⟩ := h3.open
    obtain ⟨te, ue, hc, _⟩ := h2
    refine (check_bad _ _ _ _ _ _ _ kd ue te w hc (fun w' hb2 => ?_)).mono fun e w' h => ?_
    · refine ((con_check1A t hk hb 0).calls [_, _] w' (fun _ => False) (fun _ h => h.elim) (hst w' hb2).1 ⟨(hst w' hb2).2, rfl, trivial⟩).mono ?_
      rintro e w2 ⟨v, rfl, h, hb3⟩
      have h : v = .bool (!aloneT t) := h
      rw [hno] at h
      subst h
      exact ⟨rfl, hb3⟩
    · obtain ⟨⟨ty, u, rfl⟩, h5⟩ := h
      exact ⟨_, rfl, ⟨ty, u, rfl⟩, h5⟩

set_option maxRecDepth 20000 in
set_option maxHeartbeats 2000000 in
theorem con_whatN0 (t : VT) (h3 : (VT.d t).k ≠ 3) (h4 : (VT.d t).k ≠ 4) : ConE Tryz.prog 79 [IsVA t] (IsOne .none) := by
  refine f_enterE (N := 42) Tryz.ntmps79 (fun _ _ => by go_simp) Tryz.func79 rfl (by simp) ?_
  intro a0 w0 B0 H0
  replace H0 : St 42 w0 B0 a0 w0 B0 [(0, .val (IsVA t)), (42, .val (EnvV))] [] := H0
  refine wp_seq ?_
  refine flow_region (dsts := [some 1, some 2]) (refs := [[.pre 0], []]) (outs := [.res 0, .res 1, .pre 1]) (als := [true, false]) (posts := [.box 37 8 (IsVA t), .val (IsOne .none)])
    (out := [(1, .box 37 8 (IsVA t)), (2, .val (IsOne .none)), (42, .val (EnvV))]) (nb := [1]) H0 2 [] rfl (by kernel_rfl) rfl rfl ?_ ?_
  · refine .cons (.plain rfl (ok_box (.tmp 0 rfl) shape_VA.two)) ?_
    refine .cons (.plain rfl (ok_assign (ok_nilIface))) ?_
    exact .nil
  clear H0
  intro a1 w1 B1 H1
  simp only [List.cons_append, List.nil_append] at H1
  refine ops_done ?_
  refine then_normal ?_
  refine wp_seq ?_
  refine wp_seq ?_
  refine flow_region (dsts := [some 3, some 4, some 5, some 6, some 7, some 8, some 9, some 10, some 11, some 12, some 13, some 14, some 15]) (refs := [[.pre 0], [.res 0], [.res 1], [.res 2], [.res 3, .pre 0], [.res 3, .res 4], [.res 3, .res 5], [.res 3, .res 6], [.res 7], [.res 8], [.res 8], [.res 8], [.res 8]]) (outs := [.res 12, .pre 0, .pre 1, .pre 2]) (als := [false, false, false, false, false, false, false, false, false, false, false, false, false]) (posts := [.ptr 37 8 (IsVA t) 0, .val (Lit (.int .i8 ((VT.d t).k))), .val (IsB true), .val (IsB true), .ptr 37 8 (IsVA t) 0, .val (Lit (.int .i8 ((VT.d t).k))), .val (IsB true), .val (IsB true), .val (IsB true), .val (IsUndef), .val (IsUndef), .val (IsUndef), .val (IsB true)])
    (out := [(15, .val (IsB true)), (1, .box 37 8 (IsVA t)), (2, .val (IsOne .none)), (42, .val (EnvV))]) (nb := []) H1 13 [] rfl (by kernel_rfl) rfl rfl ?_ ?_
  · refine .cons (.plain rfl (ok_addrV0 (.tmp 0 rfl))) ?_
    refine .cons (.plain rfl (ok_loadVA0 (.tmp 0 rfl))) ?_
    refine .cons (.plain rfl (ok_cmp (b := true) (.tmp 0 rfl) (.lit) ((decide_eq_true (h3)).symm))) ?_
    refine .cons (.plain rfl (ok_move (.tmp 0 rfl))) ?_
    refine .cons (.wanted 3 true rfl rfl rfl 0 rfl (ok_addrV0 (.tmp 1 rfl))) ?_
    refine .cons (.wanted 3 true rfl rfl rfl 0 rfl (ok_loadVA0 (.tmp 1 rfl))) ?_
    refine .cons (.wanted 3 true rfl rfl rfl 0 rfl (ok_cmp (b := true) (.tmp 1 rfl) (.lit) ((decide_eq_true (h4)).symm))) ?_
    refine .cons (.plain rfl (ok_pickT (.tmp 0 rfl) (.tmp 1 rfl))) ?_
    refine .cons (.plain rfl (ok_move (.tmp 0 rfl))) ?_
    refine .cons (.unwanted 8 false rfl rfl rfl 0 rfl) ?_
    refine .cons (.unwanted 8 false rfl rfl rfl 0 rfl) ?_
    refine .cons (.unwanted 8 false rfl rfl rfl 0 rfl) ?_
    refine .cons (.plain rfl (ok_pickT (.tmp 0 rfl) (.lit))) ?_
    exact .nil
  clear H1 a1 w1 B1
  intro a2 w2 B2 H2
  refine ops_done ?_
  refine then_normal ?_
  refine f_condT H2 (.tmp 0 rfl) ?_
  refine wp_seq ?_
  refine flow_region (dsts := [some 2]) (refs := [[]]) (outs := [.res 0, .pre 1, .pre 3]) (als := [false]) (posts := [.val (IsOne .none)])
    (out := [(2, .val (IsOne .none)), (1, .box 37 8 (IsVA t)), (42, .val (EnvV))]) (nb := []) H2 1 [] rfl (by kernel_rfl) rfl rfl ?_ ?_
  · refine .cons (.plain rfl (ok_assign (ok_nilIface))) ?_
    exact .nil
  clear H2 a2 w2 B2
  intro a3 w3 B3 H3
  refine ops_done ?_
  refine then_normal ?_
  refine wp_ret ?_
  refine then_ret ?_
  exact f_ret H3 rfl 0 rfl (fun _ _ _ h => h)

set_option maxRecDepth 20000 in
set_option maxHeartbeats 2000000 in
theorem con_whatN3 (t : VT) (hk : (VT.d t).k = 3 ∨ (VT.d t).k = 4) (hb : 0 ≤ (VT.d t).b ∧ (VT.d t).b < 18446744073709551616) (hno : aloneT t = false) (h3 : (VT.d t).k = 3) : ConE Tryz.prog 79 [IsVA t] (IsOne .none) := by
  refine f_enterE (N := 42) Tryz.ntmps79 (fun _ _ => by go_simp) Tryz.func79 rfl (by simp) ?_
  intro a0 w0 B0 H0
  replace H0 : St 42 w0 B0 a0 w0 B0 [(0, .val (IsVA t)), (42, .val (EnvV))] [] := H0
  refine wp_seq ?_
  refine flow_region (dsts := [some 1, some 2]) (refs := [[.pre 0], []]) (outs := [.res 0, .res 1, .pre 1]) (als := [true, false]) (posts := [.box 37 8 (IsVA t), .val (IsOne .none)])
    (out := [(1, .box 37 8 (IsVA t)), (2, .val (IsOne .none)), (42, .val (EnvV))]) (nb := [1]) H0 2 [] rfl (by kernel_rfl) rfl rfl ?_ ?_
  · refine .cons (.plain rfl (ok_box (.tmp 0 rfl) shape_VA.two)) ?_
    refine .cons (.plain rfl (ok_assign (ok_nilIface))) ?_
    exact .nil
  clear H0
  intro a1 w1 B1 H1
  simp only [List.cons_append, List.nil_append] at H1
  refine ops_done ?_
  refine then_normal ?_
  refine wp_seq ?_
  refine wp_seq ?_
  refine flow_region (dsts := [some 3, some 4, some 5, some 6, some 7, some 8, some 9, some 10, some 11, some 12, some 13, some 14, some 15]) (refs := [[.pre 0], [.res 0], [.res 1], [.res 2], [.res 3], [.res 3], [.res 3], [.res 3], [.res 7], [.res 8, .pre 0], [.res 8, .res 9, .pre 2], [.res 8, .res 10], [.res 8, .res 11]]) (outs := [.res 12, .pre 0, .pre 1, .pre 2]) (als := [false, false, false, false, false, false, false, false, false, false, false, false, false]) (posts := [.ptr 37 8 (IsVA t) 0, .val (Lit (.int .i8 ((VT.d t).k))), .val (IsB false), .val (IsB false), .val (IsUndef), .val (IsUndef), .val (IsUndef), .val (IsB false), .val (IsB false), .val (IsVA t), .val (IsErr false), .val (IsB true), .val (IsB true)])
    (out := [(15, .val (IsB true)), (1, .box 37 8 (IsVA t)), (2, .val (IsOne .none)), (42, .val (EnvV))]) (nb := []) H1 13 [] rfl (by kernel_rfl) rfl rfl ?_ ?_
  · refine .cons (.plain rfl (ok_addrV0 (.tmp 0 rfl))) ?_
    refine .cons (.plain rfl (ok_loadVA0 (.tmp 0 rfl))) ?_
    refine .cons (.plain rfl (ok_cmp (b := false) (.tmp 0 rfl) (.lit) ((decide_eq_false (fun h => h h3)).symm))) ?_
    refine .cons (.plain rfl (ok_move (.tmp 0 rfl))) ?_
    refine .cons (.unwanted 3 true rfl rfl rfl 0 rfl) ?_
    refine .cons (.unwanted 3 true rfl rfl rfl 0 rfl) ?_
    refine .cons (.unwanted 3 true rfl rfl rfl 0 rfl) ?_
    refine .cons (.plain rfl (ok_pickF (.tmp 0 rfl) (.lit))) ?_
    refine .cons (.plain rfl (ok_move (.tmp 0 rfl))) ?_
    refine .cons (.wanted 8 false rfl rfl rfl 0 rfl (ok_load tyV (.tmp 1 rfl))) ?_
    refine .cons (.wanted 8 false rfl rfl rfl 0 rfl (ok_callE (con_checkbad t hk hb hno) 2 rfl (.cons (.tmp 1 rfl) (.nil)))) ?_
    refine .cons (.wanted 8 false rfl rfl rfl 0 rfl (ok_neErr (b := false) (.tmp 1 rfl))) ?_
    refine .cons (.plain rfl (ok_pickF (.tmp 0 rfl) (.tmp 1 rfl))) ?_
    exact .nil
  clear H1 a1 w1 B1
  intro a2 w2 B2 H2
  refine ops_done ?_
  refine then_normal ?_
  refine f_condT H2 (.tmp 0 rfl) ?_
  refine wp_seq ?_
  refine flow_region (dsts := [some 2]) (refs := [[]]) (outs := [.res 0, .pre 1, .pre 3]) (als := [false]) (posts := [.val (IsOne .none)])
    (out := [(2, .val (IsOne .none)), (1, .box 37 8 (IsVA t)), (42, .val (EnvV))]) (nb := []) H2 1 [] rfl (by kernel_rfl) rfl rfl ?_ ?_
  · refine .cons (.plain rfl (ok_assign (ok_nilIface))) ?_
    exact .nil
  clear H2 a2 w2 B2
  intro a3 w3 B3 H3
  refine ops_done ?_
  refine then_normal ?_
  refine wp_ret ?_
  refine then_ret ?_
  exact f_ret H3 rfl 0 rfl (fun _ _ _ h => h)

set_option maxRecDepth 20000 in
set_option maxHeartbeats 2000000 in
theorem con_whatN4 (t : VT) (hk : (VT.d t).k = 3 ∨ (VT.d t).k = 4) (hb : 0 ≤ (VT.d t).b ∧ (VT.d t).b < 18446744073709551616) (hno : aloneT t = false) (h3 : (VT.d t).k ≠ 3) (h4 : (VT.d t).k = 4) : ConE Tryz.prog 79 [IsVA t] (IsOne .none) := by
  refine f_enterE (N := 42) Tryz.ntmps79 (fun _ _ => by go_simp) Tryz.func79 rfl (by simp) ?_
  intro a0 w0 B0 H0
  replace H0 : St 42 w0 B0 a0 w0 B0 [(0, .val (IsVA t)), (42, .val (EnvV))] [] := H0
  refine wp_seq ?_
  refine flow_region (dsts := [some 1, some 2]) (refs := [[.pre 0], []]) (outs := [.res 0, .res 1, .pre 1]) (als := [true, false]) (posts := [.box 37 8 (IsVA t), .val (IsOne .none)])
    (out := [(1, .box 37 8 (IsVA t)), (2, .val (IsOne .none)), (42, .val (EnvV))]) (nb := [1]) H0 2 [] rfl (by kernel_rfl) rfl rfl ?_ ?_
  · refine .cons (.plain rfl (ok_box (.tmp 0 rfl) shape_VA.two)) ?_
    refine .cons (.plain rfl (ok_assign (ok_nilIface))) ?_
    exact .nil
  clear H0
  intro a1 w1 B1 H1
  simp only [List.cons_append, List.nil_append] at H1
  refine ops_done ?_
  refine then_normal ?_
  refine wp_seq ?_
  refine wp_seq ?_
  refine flow_region (dsts := [some 3, some 4, some 5, some 6, some 7, some 8, some 9, some 10, some 11, some 12, some 13, some 14, some 15]) (refs := [[.pre 0], [.res 0], [.res 1], [.res 2], [.res 3, .pre 0], [.res 3, .res 4], [.res 3, .res 5], [.res 3, .res 6], [.res 7], [.res 8, .pre 0], [.res 8, .res 9, .pre 2], [.res 8, .res 10], [.res 8, .res 11]]) (outs := [.res 12, .pre 0, .pre 1, .pre 2]) (als := [false, false, false, false, false, false, false, false, false, false, false, false, false]) (posts := [.ptr 37 8 (IsVA t) 0, .val (Lit (.int .i8 ((VT.d t).k))), .val (IsB true), .val (IsB true), .ptr 37 8 (IsVA t) 0, .val (Lit (.int .i8 ((VT.d t).k))), .val (IsB false), .val (IsB false), .val (IsB false), .val (IsVA t), .val (IsErr false), .val (IsB true), .val (IsB true)])
    (out := [(15, .val (IsB true)), (1, .box 37 8 (IsVA t)), (2, .val (IsOne .none)), (42, .val (EnvV))]) (nb := []) H1 13 [] rfl (by kernel_rfl) rfl rfl ?_ ?_
  · refine .cons (.plain rfl (ok_addrV0 (.tmp 0 rfl))) ?_
    refine .cons (.plain rfl (ok_loadVA0 (.tmp 0 rfl))) ?_
    refine .cons (.plain rfl (ok_cmp (b := true) (.tmp 0 rfl) (.lit) ((decide_eq_true (h3)).symm))) ?_
    refine .cons (.plain rfl (ok_move (.tmp 0 rfl))) ?_
    refine .cons (.wanted 3 true rfl rfl rfl 0 rfl (ok_addrV0 (.tmp 1 rfl))) ?_
    refine .cons (.wanted 3 true rfl rfl rfl 0 rfl (ok_loadVA0 (.tmp 1 rfl))) ?_
    refine .cons (.wanted 3 true rfl rfl rfl 0 rfl (ok_cmp (b := false) (.tmp 1 rfl) (.lit) ((decide_eq_false (fun h => h h4)).symm))) ?_
    refine .cons (.plain rfl (ok_pickT (.tmp 0 rfl) (.tmp 1 rfl))) ?_
    refine .cons (.plain rfl (ok_move (.tmp 0 rfl))) ?_
    refine .cons (.wanted 8 false rfl rfl rfl 0 rfl (ok_load tyV (.tmp 1 rfl))) ?_
    refine .cons (.wanted 8 false rfl rfl rfl 0 rfl (ok_callE (con_checkbad t hk hb hno) 2 rfl (.cons (.tmp 1 rfl) (.nil)))) ?_
    refine .cons (.wanted 8 false rfl rfl rfl 0 rfl (ok_neErr (b := false) (.tmp 1 rfl))) ?_
    refine .cons (.plain rfl (ok_pickF (.tmp 0 rfl) (.tmp 1 rfl))) ?_
    exact .nil
  clear H1 a1 w1 B1
  intro a2 w2 B2 H2
  refine ops_done ?_
  refine then_normal ?_
  refine f_condT H2 (.tmp 0 rfl) ?_
  refine wp_seq ?_
  refine flow_region (dsts := [some 2]) (refs := [[]]) (outs := [.res 0, .pre 1, .pre 3]) (als := [false]) (posts := [.val (IsOne .none)])
    (out := [(2, .val (IsOne .none)), (1, .box 37 8 (IsVA t)), (42, .val (EnvV))]) (nb := []) H2 1 [] rfl (by kernel_rfl) rfl rfl ?_ ?_
  · refine .cons (.plain rfl (ok_assign (ok_nilIface))) ?_
    exact .nil
  clear H2 a2 w2 B2
  intro a3 w3 B3 H3
  refine ops_done ?_
  refine then_normal ?_
  refine wp_ret ?_
  refine then_ret ?_
  exact f_ret H3 rfl 0 rfl (fun _ _ _ h => h)

theorem con_whatN (t : VT) (hb : 0 ≤ (VT.d t).b ∧ (VT.d t).b < 18446744073709551616) (h : NoNum t) : ConE Tryz.prog 79 [IsVA t] (IsOne .none) := by
  rcases h with ⟨h3, h4⟩ | ⟨hk, hno⟩
  · exact con_whatN0 t h3 h4
  · by_cases h3 : (VT.d t).k = 3
    · exact con_whatN3 t hk hb hno h3
    · exact con_whatN4 t hk hb hno h3 (hk.resolve_left h3)

set_option maxRecDepth 20000 in
set_option maxHeartbeats 2000000 in
theorem con_nbitsN (t : VT) (hb : 0 ≤ (VT.d t).b ∧ (VT.d t).b < 18446744073709551616) (hno : NoNum t) : ConE Tryz.prog 29 [IsVA t] (Tup [Lit (.int .u64 0), IsB false]) := by
  refine f_enterE (N := 13) Tryz.ntmps29 (fun _ _ => by go_simp) Tryz.func29 rfl (by simp) ?_
  intro a0 w0 B0 H0
  replace H0 : St 13 w0 B0 a0 w0 B0 [(0, .val (IsVA t)), (13, .val (EnvV))] [] := H0
  refine wp_seq ?_
  refine flow_region (dsts := [some 1, some 2, some 3]) (refs := [[.pre 0], [], []]) (outs := [.res 0, .res 1, .res 2, .pre 1]) (als := [true, false, false]) (posts := [.box 37 8 (IsVA t), .val (Lit (.int .u64 0)), .val (IsB false)])
    (out := [(1, .box 37 8 (IsVA t)), (2, .val (Lit (.int .u64 0))), (3, .val (IsB false)), (13, .val (EnvV))]) (nb := [1]) H0 3 [] rfl (by kernel_rfl) rfl rfl ?_ ?_
  · refine .cons (.plain rfl (ok_box (.tmp 0 rfl) shape_VA.two)) ?_
    refine .cons (.plain rfl (ok_assign (.lit))) ?_
    refine .cons (.plain rfl (ok_assign (.lit))) ?_
    exact .nil
  clear H0
  intro a1 w1 B1 H1
  simp only [List.cons_append, List.nil_append] at H1
  refine ops_done ?_
  refine then_normal ?_
  refine wp_seq ?_
  refine flow_region (dsts := [some 5, some 6, some 4]) (refs := [[.pre 0], [.res 0, .pre 3], [.res 1]]) (outs := [.res 2, .pre 1, .pre 2, .pre 3]) (als := [false, false, false]) (posts := [.val (IsVA t), .val (IsOne .none), .val (IsOne .none)])
    (out := [(4, .val (IsOne .none)), (2, .val (Lit (.int .u64 0))), (3, .val (IsB false)), (13, .val (EnvV))]) (nb := []) H1 3 [] rfl (by kernel_rfl) rfl rfl ?_ ?_
  · refine .cons (.plain rfl (ok_load tyV (.tmp 0 rfl))) ?_
    refine .cons (.plain rfl (ok_callE (con_whatN t hb hno) 1 rfl (.cons (.tmp 0 rfl) (.nil)))) ?_
    refine .cons (.plain rfl (ok_assign (.tmp 0 rfl))) ?_
    exact .nil
  clear H1 a1 w1 B1
  intro a2 w2 B2 H2
  refine ops_done ?_
  refine then_normal ?_
  refine wp_seq ?_
  refine wp_seq ?_
  refine flow_region (dsts := [some 7, some 8]) (refs := [[.pre 0], [.res 0]]) (outs := [.res 1, .pre 0, .pre 1, .pre 2, .pre 3]) (als := [false, false]) (posts := [.val (IsOne .none), .val (IsB true)])
    (out := [(8, .val (IsB true)), (4, .val (IsOne .none)), (2, .val (Lit (.int .u64 0))), (3, .val (IsB false)), (13, .val (EnvV))]) (nb := []) H2 2 [] rfl (by kernel_rfl) rfl rfl ?_ ?_
  · refine .cons (.plain rfl (ok_move (.tmp 0 rfl))) ?_
    refine .cons (.plain rfl (ok_eqNil (.tmp 0 rfl) (rfl))) ?_
    exact .nil
  clear H2 a2 w2 B2
  intro a3 w3 B3 H3
  refine ops_done ?_
  refine then_normal ?_
  refine f_condT H3 (.tmp 0 rfl) ?_
  refine wp_seq ?_
  refine flow_region (dsts := [some 2, some 3]) (refs := [[], []]) (outs := [.res 0, .res 1, .pre 1, .pre 4]) (als := [false, false]) (posts := [.val (Lit (.int .u64 0)), .val (IsB false)])
    (out := [(2, .val (Lit (.int .u64 0))), (3, .val (IsB false)), (4, .val (IsOne .none)), (13, .val (EnvV))]) (nb := []) H3 2 [] rfl (by kernel_rfl) rfl rfl ?_ ?_
  · refine .cons (.plain rfl (ok_assign (.lit))) ?_
    refine .cons (.plain rfl (ok_assign (.lit))) ?_
    exact .nil
  clear H3 a3 w3 B3
  intro a4 w4 B4 H4
  refine ops_done ?_
  refine then_normal ?_
  refine wp_ret ?_
  refine then_ret ?_
  exact f_retN H4 rfl rfl (.tmp 0 rfl (fun _ _ _ h => h) (.tmp 1 rfl (fun _ _ _ h => h) (.nil)))

end Go.Proofs.YtoimhjcpeifegaaGreatDoor


/- The bound of one number; a list of one limb. -/
set_option maxRecDepth 50000
namespace Go.Proofs.YtoimhjcpeifegaaGreatDoor
open Go Go.RowKit

section
variable {need : List (Tmp × FD)} {d : Option Tmp} {ty : TypeId} {pos : String} {af : Array Edge} {g : Option (Nat × Bool)} {x : Operand}
theorem ok_dig1 {i : Int} (hi : 0 < i ∧ i < 4294967296) (h : Opd need x (.val (Lit (.int .u32 i)))) : OpOk Tryz.prog ⟨d, .buildSlice 32 1 #[(0, x)], ty, pos, af, g⟩ need (.val (IsC i)) false := by
  intro Q K a w B hB hF hK
  have e : a.eval x = .int .u32 i := h a w B hF
  have hbel : Below w.heap.size w (w.alloc (.cells #[.int .u32 i] 23)) := (Below.refl _ _).alloc (Nat.le_refl _) _
  have hr : (execOp a.eval ⟨d, .buildSlice 32 1 #[(0, x)], ty, pos, af, g⟩).run Tryz.prog w = .ok (.value (.slice (some ⟨w.heap.size, 0, none⟩) 1 1)) (w.alloc (.cells #[.int .u32 i] 23)) := by
    simp only [execOp, e, List.map_toArray, List.map_cons, List.map_nil]
    go_simp
  have hdg : dg 4294967296 i = [i] := by
    rw [dg_pos 4294967296 i (by omega) hi.1, show i / ((4294967296 : Nat) : Int) = 0 by omega, dg_zero, show i % ((4294967296 : Nat) : Int) = i by omega]
  unfold Oper.wp
  rw [hr]
  refine hK _ _ B ⟨_, 1, 1, rfl, ⟨by omega, ?_⟩, by rw [lim_eq]; omega, by omega⟩ (Bl.of_below B hbel) hbel (fun k hk => Nat.lt_of_lt_of_le (hB k hk) hbel.size) (by simp)
  rw [hdg]
  refine ⟨rfl, fun j hj => ⟨_, rfl, ?_⟩⟩
  obtain rfl : j = 0 := by omega
  rw [plain_add, cell_row (heap_alloc_new w _)]
  rfl
end
end Go.Proofs.YtoimhjcpeifegaaGreatDoor


/- The narrowest pattern of a pattern's number: plain. -/
set_option maxRecDepth 50000
namespace Go.Proofs.YtoimhjcpeifegaaGreatDoor
open Go Go.RowKit

theorem bits_flt (b : Int) : bitsO (oneF b) = (b, true) := by
  unfold oneF
  by_cases h1 : clsW 64 b = 4
  · rw [if_pos h1]; rfl
  · by_cases h2 : clsW 64 b = 5
    · rw [if_neg h1, if_pos h2]; rfl
    · rw [if_neg h1, if_neg h2]; rfl
theorem to_self (x : Int) (hx : 0 ≤ x ∧ x < 18446744073709551616) (hn : isNaN 64 x = false) : (toW 64 64 x).1 = x := by
  have hx2 : 0 ≤ x ∧ x < 2 ^ 64 := by rw [show (2 : Int) ^ 64 = 18446744073709551616 from by decide]; exact hx
  unfold toW
  rw [if_neg (by rw [hn]; exact Bool.false_ne_true)]
  by_cases h2 : sizeW 64 x = infW 64
  · rw [if_pos h2]
    rcases neg_size (W := 64) x with ⟨k1, k2, k3⟩ | ⟨k1, k2, k3⟩
    · rw [k1, if_pos rfl]; omega
    · rw [k1, if_neg (by decide)]; omega
  · rw [if_neg h2]
    have h3 : pOk 64 x = true := by
      unfold isNaN at hn
      have := of_decide_eq_false hn
      exact decide_eq_true (by omega)
    exact round_parts w64 x hx2 h3
theorem not_nan_int {x : Int} (h : intOk 64 x = true) : isNaN 64 x = false := by
  unfold intOk at h
  exact (not_nan x (Bool.and_eq_true_iff.1 h).1).1
theorem p_cases (x : Int) (hx : 0 ≤ x ∧ x < 18446744073709551616) :
    (isNaN 64 x = true ∧ ofV 64 x = .flt 9221120237041090560 ∧ bitsO (whatV (ofV 64 x)) = (9221120237041090560, true)) ∨ (isNaN 64 x = false ∧ bitsO (whatV (ofV 64 x)) = (x, true)) ∨ (isNaN 64 x = false ∧ x = 9223372036854775808 ∧ ofV 64 x = .int 0 ∧ bitsO (whatV (ofV 64 x)) = (0, true)) := by
  have hx2 : 0 ≤ x ∧ x < 2 ^ 64 := by rw [show (2 : Int) ^ 64 = 18446744073709551616 from by decide]; exact hx
  by_cases hi : intOk 64 x = true
  · obtain ⟨h1, h2⟩ := int_back w64 x hx2 hi
    have hn := not_nan_int hi
    have e : bitsO (whatV (ofV 64 x)) = ((fromW 64 (intN 64 x)).1, true) := by rw [of_yes hi]; exact bits_yes h1
    rcases h2 with h2 | ⟨h2, h3⟩
    · exact .inr (.inl ⟨hn, by rw [e, h2]⟩)
    · have h4 : x = 9223372036854775808 := h2
      refine .inr (.inr ⟨hn, h4, ?_, by rw [e, h3]⟩)
      rw [of_yes hi, h4]
      congr 1
  · have hi' : intOk 64 x = false := by simpa using hi
    rw [of_no hi']
    have e : bitsO (whatV (.flt (toW 64 64 x).1)) = ((toW 64 64 x).1, true) := bits_flt _
    by_cases hn : isNaN 64 x = true
    · have h2 : (toW 64 64 x).1 = nanW 64 := by unfold toW; rw [if_pos hn]
      rw [e, h2]
      exact .inl ⟨hn, rfl, rfl⟩
    · have hn' : isNaN 64 x = false := by simpa using hn
      rw [e, to_self x hx hn']
      exact .inr (.inl ⟨hn', rfl⟩)
theorem nar_16 {x : Int} (h : (toW 16 64 x).2 = true) : narrowP (x, true) = (16, (toW 16 64 x).1, true) := by
  unfold narrowP
  rw [if_pos rfl, if_pos h]
theorem nar_32 {x : Int} (h : (toW 16 64 x).2 = false) (h2 : (toW 32 64 x).2 = true) : narrowP (x, true) = (32, (toW 32 64 x).1, true) := by
  unfold narrowP
  rw [if_pos rfl, if_neg (by rw [h]; exact Bool.false_ne_true), if_pos h2]
theorem nar_64 {x : Int} (h : (toW 16 64 x).2 = false) (h2 : (toW 32 64 x).2 = false) : narrowP (x, true) = (64, x, true) := by
  unfold narrowP
  rw [if_pos rfl, if_neg (by rw [h]; exact Bool.false_ne_true), if_neg (by rw [h2]; exact Bool.false_ne_true)]
section
variable {P : Program} {Q : Exit → Act → World → Prop} {N : Nat} {w0 : World} {B0 : Bx} {a : Act} {w : World} {B : Bx} {l : List (Tmp × FD)} {bxs : List Tmp}
end
section
variable {need : List (Tmp × FD)} {d : Option Tmp} {ty : TypeId} {pos : String} {af : Array Edge} {g : Option (Nat × Bool)} {x : Operand}
end
end Go.Proofs.YtoimhjcpeifegaaGreatDoor

