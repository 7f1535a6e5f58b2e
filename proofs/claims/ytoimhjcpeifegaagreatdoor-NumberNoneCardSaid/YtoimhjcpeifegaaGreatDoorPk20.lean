/- Contracts of functions, and plain facts, part 20. -/
import Derived.Test.YtoimhjcpeifegaaGreatDoorPk7
import Derived.Test.YtoimhjcpeifegaaGreatDoorPk15
import Derived.Test.YtoimhjcpeifegaaGreatDoorPk18
import Derived.Test.YtoimhjcpeifegaaGreatDoorPk19
set_option linter.unusedVariables false
set_option linter.unusedSimpArgs false
/- VNone. (Printed by flow15.py.) -/
namespace Go.Proofs.YtoimhjcpeifegaaGreatDoor
open Go Go.RowKit

set_option maxRecDepth 20000 in
set_option maxHeartbeats 2000000 in
theorem con_check1A (t : VT) (hk : (VT.d t).k = 3 ∨ (VT.d t).k = 4) (hb : 0 ≤ (VT.d t).b ∧ (VT.d t).b < 18446744073709551616) (d : Int) : ConE Tryz.prog 100 [IsVA t, Lit (.int .i64 d)] (IsB (!aloneT t)) := by
  refine f_enterE (N := 8) Tryz.ntmps100 (fun _ _ => by go_simp) Tryz.func100 rfl (by simp) ?_
  intro a0 w0 B0 H0
  replace H0 : St 8 w0 B0 a0 w0 B0 [(0, .val (IsVA t)), (1, .val (Lit (.int .i64 d))), (8, .val (EnvV))] [] := H0
  refine wp_seq ?_
  refine flow_region (dsts := [some 2, some 4]) (refs := [[.pre 0], []]) (outs := [.res 0, .res 1, .pre 2]) (als := [true, false]) (posts := [.box 37 8 (IsVA t), .val (IsB false)])
    (out := [(2, .box 37 8 (IsVA t)), (4, .val (IsB false)), (8, .val (EnvV))]) (nb := [2]) H0 2 [] rfl (by kernel_rfl) rfl rfl ?_ ?_
  · refine .cons (.plain rfl (ok_box (.tmp 0 rfl) shape_VA.two)) ?_
    refine .cons (.plain rfl (ok_assign (.lit))) ?_
    exact .nil
  clear H0
  intro a1 w1 B1 H1
  simp only [List.cons_append, List.nil_append] at H1
  refine ops_done ?_
  refine then_normal ?_
  refine wp_seq ?_
  refine flow_region (dsts := [some 5, some 6, some 7, some 4]) (refs := [[.pre 0], [.res 0, .pre 2], [.res 1], [.res 2]]) (outs := [.res 3, .pre 2]) (als := [false, false, false, false]) (posts := [.val (IsVA t), .val (IsB (aloneT t)), .val (IsB (!(aloneT t))), .val (IsB (!(aloneT t)))])
    (out := [(4, .val (IsB (!(aloneT t)))), (8, .val (EnvV))]) (nb := []) H1 4 [] rfl (by kernel_rfl) rfl rfl ?_ ?_
  · refine .cons (.plain rfl (ok_load tyV (.tmp 0 rfl))) ?_
    refine .cons (.plain rfl (ok_callE (con_aloneA t hk hb) 1 rfl (.cons (.tmp 0 rfl) (.nil)))) ?_
    refine .cons (.plain rfl (ok_not (b := aloneT t) (.tmp 0 rfl))) ?_
    refine .cons (.plain rfl (ok_assign (.tmp 0 rfl))) ?_
    exact .nil
  clear H1 a1 w1 B1
  intro a2 w2 B2 H2
  refine ops_done ?_
  refine then_normal ?_
  refine wp_ret ?_
  exact f_ret H2 rfl 0 rfl (fun v w B h => by exact h)

/-- A number's node that may not be: an error. -/
theorem con_checkbad (t : VT) (hk : (VT.d t).k = 3 ∨ (VT.d t).k = 4) (hb : 0 ≤ (VT.d t).b ∧ (VT.d t).b < 18446744073709551616) (hno : aloneT t = false) : ConE Tryz.prog 39 [IsVA t] (IsErr false) := by
  refine ⟨fun _ _ => by go_simp, fun vs w B hB hE hV => ?_⟩
  match vs, hV with
  | [v], ⟨⟨h1, h2⟩, _⟩ =>
    have hst : ∀ w', Below w.heap.size w w' → EnvP w' (fun _ => False) ∧ (IsVA t).p v w' (fun _ => False) := fun w' hb => by
      have hE2 := hE.mv (Bl.of_below B hb).mv
      exact ⟨⟨hE2.sh, hE2.tab, fun h => h⟩, (IsVA t).st _ _ _ _ _ ⟨hb.size, fun k hk => .inl (hb.block k hk), fun _ _ h => h.elim⟩ ⟨h1, h2⟩⟩
    have h3 : RdV w.heap.size w B t v := h1
    obtain ⟨cs, rfl⟩ := h3.agg
    obtain ⟨ad, n, c, kd, rfl, _⟩ := h3.open
    obtain ⟨te, ue, hc, _⟩ := h2
    refine (check_bad _ _ _ _ _ _ _ kd ue te w hc (fun w' hb2 => ?_)).mono fun e w' h => ?_
    · refine ((con_check1A t hk hb 0).calls [_, _] w' (fun _ => False) (fun _ h => h.elim) (hst w' hb2).1 ⟨(hst w' hb2).2, rfl, trivial⟩).mono ?_
      rintro e w2 ⟨v, rfl, h, hb3⟩
      have h : v = .bool (!aloneT t) := h
      rw [hno] at h
      subst h
      exact ⟨rfl, hb3⟩
    · obtain ⟨⟨ty, u, rfl⟩, h5⟩ := h
      exact ⟨_, rfl, ⟨ty, u, rfl⟩, h5⟩

set_option maxRecDepth 20000 in
set_option maxHeartbeats 2000000 in
theorem con_whatN0 (t : VT) (h3 : (VT.d t).k ≠ 3) (h4 : (VT.d t).k ≠ 4) : ConE Tryz.prog 79 [IsVA t] (IsOne .none) := by
  refine f_enterE (N := 42) Tryz.ntmps79 (fun _ _ => by go_simp) Tryz.func79 rfl (by simp) ?_
  intro a0 w0 B0 H0
  replace H0 : St 42 w0 B0 a0 w0 B0 [(0, .val (IsVA t)), (42, .val (EnvV))] [] := H0
  refine wp_seq ?_
  refine flow_region (dsts := [some 1, some 2]) (refs := [[.pre 0], []]) (outs := [.res 0, .res 1, .pre 1]) (als := [true, false]) (posts := [.box 37 8 (IsVA t), .val (IsOne .none)])
    (out := [(1, .box 37 8 (IsVA t)), (2, .val (IsOne .none)), (42, .val (EnvV))]) (nb := [1]) H0 2 [] rfl (by kernel_rfl) rfl rfl ?_ ?_
  · refine .cons (.plain rfl (ok_box (.tmp 0 rfl) shape_VA.two)) ?_
    refine .cons (.plain rfl (ok_assign (ok_nilIface))) ?_
    exact .nil
  clear H0
  intro a1 w1 B1 H1
  simp only [List.cons_append, List.nil_append] at H1
  refine ops_done ?_
  refine then_normal ?_
  refine wp_seq ?_
  refine wp_seq ?_
  refine flow_region (dsts := [some 3, some 4, some 5, some 6, some 7, some 8, some 9, some 10, some 11, some 12, some 13, some 14, some 15]) (refs := [[.pre 0], [.res 0], [.res 1], [.res 2], [.res 3, .pre 0], [.res 3, .res 4], [.res 3, .res 5], [.res 3, .res 6], [.res 7], [.res 8], [.res 8], [.res 8], [.res 8]]) (outs := [.res 12, .pre 0, .pre 1, .pre 2]) (als := [false, false, false, false, false, false, false, false, false, false, false, false, false]) (posts := [.ptr 37 8 (IsVA t) 0, .val (Lit (.int .i8 ((VT.d t).k))), .val (IsB true), .val (IsB true), .ptr 37 8 (IsVA t) 0, .val (Lit (.int .i8 ((VT.d t).k))), .val (IsB true), .val (IsB true), .val (IsB true), .val (IsUndef), .val (IsUndef), .val (IsUndef), .val (IsB true)])
    (out := [(15, .val (IsB true)), (1, .box 37 8 (IsVA t)), (2, .val (IsOne .none)), (42, .val (EnvV))]) (nb := []) H1 13 [] rfl (by kernel_rfl) rfl rfl ?_ ?_
  · refine .cons (.plain rfl (ok_addrV0 (.tmp 0 rfl))) ?_
    refine .cons (.plain rfl (ok_loadVA0 (.tmp 0 rfl))) ?_
    refine .cons (.plain rfl (ok_cmp (b := true) (.tmp 0 rfl) (.lit) ((decide_eq_true (h3)).symm))) ?_
    refine .cons (.plain rfl (ok_move (.tmp 0 rfl))) ?_
    refine .cons (.wanted 3 true rfl rfl rfl 0 rfl (ok_addrV0 (.tmp 1 rfl))) ?_
    refine .cons (.wanted 3 true rfl rfl rfl 0 rfl (ok_loadVA0 (.tmp 1 rfl))) ?_
    refine .cons (.wanted 3 true rfl rfl rfl 0 rfl (ok_cmp (b := true) (.tmp 1 rfl) (.lit) ((decide_eq_true (h4)).symm))) ?_
    refine .cons (.plain rfl (ok_pickT (.tmp 0 rfl) (.tmp 1 rfl))) ?_
    refine .cons (.plain rfl (ok_move (.tmp 0 rfl))) ?_
    refine .cons (.unwanted 8 false rfl rfl rfl 0 rfl) ?_
    refine .cons (.unwanted 8 false rfl rfl rfl 0 rfl) ?_
    refine .cons (.unwanted 8 false rfl rfl rfl 0 rfl) ?_
    refine .cons (.plain rfl (ok_pickT (.tmp 0 rfl) (.lit))) ?_
    exact .nil
  clear H1 a1 w1 B1
  intro a2 w2 B2 H2
  refine ops_done ?_
  refine then_normal ?_
  refine f_condT H2 (.tmp 0 rfl) ?_
  refine wp_seq ?_
  refine flow_region (dsts := [some 2]) (refs := [[]]) (outs := [.res 0, .pre 1, .pre 3]) (als := [false]) (posts := [.val (IsOne .none)])
    (out := [(2, .val (IsOne .none)), (1, .box 37 8 (IsVA t)), (42, .val (EnvV))]) (nb := []) H2 1 [] rfl (by kernel_rfl) rfl rfl ?_ ?_
  · refine .cons (.plain rfl (ok_assign (ok_nilIface))) ?_
    exact .nil
  clear H2 a2 w2 B2
  intro a3 w3 B3 H3
  refine ops_done ?_
  refine then_normal ?_
  refine wp_ret ?_
  refine then_ret ?_
  exact f_ret H3 rfl 0 rfl (fun _ _ _ h => h)

set_option maxRecDepth 20000 in
set_option maxHeartbeats 2000000 in
theorem con_whatN3 (t : VT) (hk : (VT.d t).k = 3 ∨ (VT.d t).k = 4) (hb : 0 ≤ (VT.d t).b ∧ (VT.d t).b < 18446744073709551616) (hno : aloneT t = false) (h3 : (VT.d t).k = 3) : ConE Tryz.prog 79 [IsVA t] (IsOne .none) := by
  refine f_enterE (N := 42) Tryz.ntmps79 (fun _ _ => by go_simp) Tryz.func79 rfl (by simp) ?_
  intro a0 w0 B0 H0
  replace H0 : St 42 w0 B0 a0 w0 B0 [(0, .val (IsVA t)), (42, .val (EnvV))] [] := H0
  refine wp_seq ?_
  refine flow_region (dsts := [some 1, some 2]) (refs := [[.pre 0], []]) (outs := [.res 0, .res 1, .pre 1]) (als := [true, false]) (posts := [.box 37 8 (IsVA t), .val (IsOne .none)])
    (out := [(1, .box 37 8 (IsVA t)), (2, .val (IsOne .none)), (42, .val (EnvV))]) (nb := [1]) H0 2 [] rfl (by kernel_rfl) rfl rfl ?_ ?_
  · refine .cons (.plain rfl (ok_box (.tmp 0 rfl) shape_VA.two)) ?_
    refine .cons (.plain rfl (ok_assign (ok_nilIface))) ?_
    exact .nil
  clear H0
  intro a1 w1 B1 H1
  simp only [List.cons_append, List.nil_append] at H1
  refine ops_done ?_
  refine then_normal ?_
  refine wp_seq ?_
  refine wp_seq ?_
  refine flow_region (dsts := [some 3, some 4, some 5, some 6, some 7, some 8, some 9, some 10, some 11, some 12, some 13, some 14, some 15]) (refs := [[.pre 0], [.res 0], [.res 1], [.res 2], [.res 3], [.res 3], [.res 3], [.res 3], [.res 7], [.res 8, .pre 0], [.res 8, .res 9, .pre 2], [.res 8, .res 10], [.res 8, .res 11]]) (outs := [.res 12, .pre 0, .pre 1, .pre 2]) (als := [false, false, false, false, false, false, false, false, false, false, false, false, false]) (posts := [.ptr 37 8 (IsVA t) 0, .val (Lit (.int .i8 ((VT.d t).k))), .val (IsB false), .val (IsB false), .val (IsUndef), .val (IsUndef), .val (IsUndef), .val (IsB false), .val (IsB false), .val (IsVA t), .val (IsErr false), .val (IsB true), .val (IsB true)])
    (out := [(15, .val (IsB true)), (1, .box 37 8 (IsVA t)), (2, .val (IsOne .none)), (42, .val (EnvV))]) (nb := []) H1 13 [] rfl (by kernel_rfl) rfl rfl ?_ ?_
  · refine .cons (.plain rfl (ok_addrV0 (.tmp 0 rfl))) ?_
    refine .cons (.plain rfl (ok_loadVA0 (.tmp 0 rfl))) ?_
    refine .cons (.plain rfl (ok_cmp (b := false) (.tmp 0 rfl) (.lit) ((decide_eq_false (fun h => h h3)).symm))) ?_
    refine .cons (.plain rfl (ok_move (.tmp 0 rfl))) ?_
    refine .cons (.unwanted 3 true rfl rfl rfl 0 rfl) ?_
    refine .cons (.unwanted 3 true rfl rfl rfl 0 rfl) ?_
    refine .cons (.unwanted 3 true rfl rfl rfl 0 rfl) ?_
    refine .cons (.plain rfl (ok_pickF (.tmp 0 rfl) (.lit))) ?_
    refine .cons (.plain rfl (ok_move (.tmp 0 rfl))) ?_
    refine .cons (.wanted 8 false rfl rfl rfl 0 rfl (ok_load tyV (.tmp 1 rfl))) ?_
    refine .cons (.wanted 8 false rfl rfl rfl 0 rfl (ok_callE (con_checkbad t hk hb hno) 2 rfl (.cons (.tmp 1 rfl) (.nil)))) ?_
    refine .cons (.wanted 8 false rfl rfl rfl 0 rfl (ok_neErr (b := false) (.tmp 1 rfl))) ?_
    refine .cons (.plain rfl (ok_pickF (.tmp 0 rfl) (.tmp 1 rfl))) ?_
    exact .nil
  clear H1 a1 w1 B1
  intro a2 w2 B2 H2
  refine ops_done ?_
  refine then_normal ?_
  refine f_condT H2 (.tmp 0 rfl) ?_
  refine wp_seq ?_
  refine flow_region (dsts := [some 2]) (refs := [[]]) (outs := [.res 0, .pre 1, .pre 3]) (als := [false]) (posts := [.val (IsOne .none)])
    (out := [(2, .val (IsOne .none)), (1, .box 37 8 (IsVA t)), (42, .val (EnvV))]) (nb := []) H2 1 [] rfl (by kernel_rfl) rfl rfl ?_ ?_
  · refine .cons (.plain rfl (ok_assign (ok_nilIface))) ?_
    exact .nil
  clear H2 a2 w2 B2
  intro a3 w3 B3 H3
  refine ops_done ?_
  refine then_normal ?_
  refine wp_ret ?_
  refine then_ret ?_
  exact f_ret H3 rfl 0 rfl (fun _ _ _ h => h)

set_option maxRecDepth 20000 in
set_option maxHeartbeats 2000000 in
theorem con_whatN4 (t : VT) (hk : (VT.d t).k = 3 ∨ (VT.d t).k = 4) (hb : 0 ≤ (VT.d t).b ∧ (VT.d t).b < 18446744073709551616) (hno : aloneT t = false) (h3 : (VT.d t).k ≠ 3) (h4 : (VT.d t).k = 4) : ConE Tryz.prog 79 [IsVA t] (IsOne .none) := by
  refine f_enterE (N := 42) Tryz.ntmps79 (fun _ _ => by go_simp) Tryz.func79 rfl (by simp) ?_
  intro a0 w0 B0 H0
  replace H0 : St 42 w0 B0 a0 w0 B0 [(0, .val (IsVA t)), (42, .val (EnvV))] [] := H0
  refine wp_seq ?_
  refine flow_region (dsts := [some 1, some 2]) (refs := [[.pre 0], []]) (outs := [.res 0, .res 1, .pre 1]) (als := [true, false]) (posts := [.box 37 8 (IsVA t), .val (IsOne .none)])
    (out := [(1, .box 37 8 (IsVA t)), (2, .val (IsOne .none)), (42, .val (EnvV))]) (nb := [1]) H0 2 [] rfl (by kernel_rfl) rfl rfl ?_ ?_
  · refine .cons (.plain rfl (ok_box (.tmp 0 rfl) shape_VA.two)) ?_
    refine .cons (.plain rfl (ok_assign (ok_nilIface))) ?_
    exact .nil
  clear H0
  intro a1 w1 B1 H1
  simp only [List.cons_append, List.nil_append] at H1
  refine ops_done ?_
  refine then_normal ?_
  refine wp_seq ?_
  refine wp_seq ?_
  refine flow_region (dsts := [some 3, some 4, some 5, some 6, some 7, some 8, some 9, some 10, some 11, some 12, some 13, some 14, some 15]) (refs := [[.pre 0], [.res 0], [.res 1], [.res 2], [.res 3, .pre 0], [.res 3, .res 4], [.res 3, .res 5], [.res 3, .res 6], [.res 7], [.res 8, .pre 0], [.res 8, .res 9, .pre 2], [.res 8, .res 10], [.res 8, .res 11]]) (outs := [.res 12, .pre 0, .pre 1, .pre 2]) (als := [false, false, false, false, false, false, false, false, false, false, false, false, false]) (posts := [.ptr 37 8 (IsVA t) 0, .val (Lit (.int .i8 ((VT.d t).k))), .val (IsB true), .val (IsB true), .ptr 37 8 (IsVA t) 0, .val (Lit (.int .i8 ((VT.d t).k))), .val (IsB false), .val (IsB false), .val (IsB false), .val (IsVA t), .val (IsErr false), .val (IsB true), .val (IsB true)])
    (out := [(15, .val (IsB true)), (1, .box 37 8 (IsVA t)), (2, .val (IsOne .none)), (42, .val (EnvV))]) (nb := []) H1 13 [] rfl (by kernel_rfl) rfl rfl ?_ ?_
  · refine .cons (.plain rfl (ok_addrV0 (.tmp 0 rfl))) ?_
    refine .cons (.plain rfl (ok_loadVA0 (.tmp 0 rfl))) ?_
    refine .cons (.plain rfl (ok_cmp (b := true) (.tmp 0 rfl) (.lit) ((decide_eq_true (h3)).symm))) ?_
    refine .cons (.plain rfl (ok_move (.tmp 0 rfl))) ?_
    refine .cons (.wanted 3 true rfl rfl rfl 0 rfl (ok_addrV0 (.tmp 1 rfl))) ?_
    refine .cons (.wanted 3 true rfl rfl rfl 0 rfl (ok_loadVA0 (.tmp 1 rfl))) ?_
    refine .cons (.wanted 3 true rfl rfl rfl 0 rfl (ok_cmp (b := false) (.tmp 1 rfl) (.lit) ((decide_eq_false (fun h => h h4)).symm))) ?_
    refine .cons (.plain rfl (ok_pickT (.tmp 0 rfl) (.tmp 1 rfl))) ?_
    refine .cons (.plain rfl (ok_move (.tmp 0 rfl))) ?_
    refine .cons (.wanted 8 false rfl rfl rfl 0 rfl (ok_load tyV (.tmp 1 rfl))) ?_
    refine .cons (.wanted 8 false rfl rfl rfl 0 rfl (ok_callE (con_checkbad t hk hb hno) 2 rfl (.cons (.tmp 1 rfl) (.nil)))) ?_
    refine .cons (.wanted 8 false rfl rfl rfl 0 rfl (ok_neErr (b := false) (.tmp 1 rfl))) ?_
    refine .cons (.plain rfl (ok_pickF (.tmp 0 rfl) (.tmp 1 rfl))) ?_
    exact .nil
  clear H1 a1 w1 B1
  intro a2 w2 B2 H2
  refine ops_done ?_
  refine then_normal ?_
  refine f_condT H2 (.tmp 0 rfl) ?_
  refine wp_seq ?_
  refine flow_region (dsts := [some 2]) (refs := [[]]) (outs := [.res 0, .pre 1, .pre 3]) (als := [false]) (posts := [.val (IsOne .none)])
    (out := [(2, .val (IsOne .none)), (1, .box 37 8 (IsVA t)), (42, .val (EnvV))]) (nb := []) H2 1 [] rfl (by kernel_rfl) rfl rfl ?_ ?_
  · refine .cons (.plain rfl (ok_assign (ok_nilIface))) ?_
    exact .nil
  clear H2 a2 w2 B2
  intro a3 w3 B3 H3
  refine ops_done ?_
  refine then_normal ?_
  refine wp_ret ?_
  refine then_ret ?_
  exact f_ret H3 rfl 0 rfl (fun _ _ _ h => h)

theorem con_whatN (t : VT) (hb : 0 ≤ (VT.d t).b ∧ (VT.d t).b < 18446744073709551616) (h : NoNum t) : ConE Tryz.prog 79 [IsVA t] (IsOne .none) := by
  rcases h with ⟨h3, h4⟩ | ⟨hk, hno⟩
  · exact con_whatN0 t h3 h4
  · by_cases h3 : (VT.d t).k = 3
    · exact con_whatN3 t hk hb hno h3
    · exact con_whatN4 t hk hb hno h3 (hk.resolve_left h3)

set_option maxRecDepth 20000 in
set_option maxHeartbeats 2000000 in
theorem con_nbitsN (t : VT) (hb : 0 ≤ (VT.d t).b ∧ (VT.d t).b < 18446744073709551616) (hno : NoNum t) : ConE Tryz.prog 29 [IsVA t] (Tup [Lit (.int .u64 0), IsB false]) := by
  refine f_enterE (N := 13) Tryz.ntmps29 (fun _ _ => by go_simp) Tryz.func29 rfl (by simp) ?_
  intro a0 w0 B0 H0
  replace H0 : St 13 w0 B0 a0 w0 B0 [(0, .val (IsVA t)), (13, .val (EnvV))] [] := H0
  refine wp_seq ?_
  refine flow_region (dsts := [some 1, some 2, some 3]) (refs := [[.pre 0], [], []]) (outs := [.res 0, .res 1, .res 2, .pre 1]) (als := [true, false, false]) (posts := [.box 37 8 (IsVA t), .val (Lit (.int .u64 0)), .val (IsB false)])
    (out := [(1, .box 37 8 (IsVA t)), (2, .val (Lit (.int .u64 0))), (3, .val (IsB false)), (13, .val (EnvV))]) (nb := [1]) H0 3 [] rfl (by kernel_rfl) rfl rfl ?_ ?_
  · refine .cons (.plain rfl (ok_box (.tmp 0 rfl) shape_VA.two)) ?_
    refine .cons (.plain rfl (ok_assign (.lit))) ?_
    refine .cons (.plain rfl (ok_assign (.lit))) ?_
    exact .nil
  clear H0
  intro a1 w1 B1 H1
  simp only [List.cons_append, List.nil_append] at H1
  refine ops_done ?_
  refine then_normal ?_
  refine wp_seq ?_
  refine flow_region (dsts := [some 5, some 6, some 4]) (refs := [[.pre 0], [.res 0, .pre 3], [.res 1]]) (outs := [.res 2, .pre 1, .pre 2, .pre 3]) (als := [false, false, false]) (posts := [.val (IsVA t), .val (IsOne .none), .val (IsOne .none)])
    (out := [(4, .val (IsOne .none)), (2, .val (Lit (.int .u64 0))), (3, .val (IsB false)), (13, .val (EnvV))]) (nb := []) H1 3 [] rfl (by kernel_rfl) rfl rfl ?_ ?_
  · refine .cons (.plain rfl (ok_load tyV (.tmp 0 rfl))) ?_
    refine .cons (.plain rfl (ok_callE (con_whatN t hb hno) 1 rfl (.cons (.tmp 0 rfl) (.nil)))) ?_
    refine .cons (.plain rfl (ok_assign (.tmp 0 rfl))) ?_
    exact .nil
  clear H1 a1 w1 B1
  intro a2 w2 B2 H2
  refine ops_done ?_
  refine then_normal ?_
  refine wp_seq ?_
  refine wp_seq ?_
  refine flow_region (dsts := [some 7, some 8]) (refs := [[.pre 0], [.res 0]]) (outs := [.res 1, .pre 0, .pre 1, .pre 2, .pre 3]) (als := [false, false]) (posts := [.val (IsOne .none), .val (IsB true)])
    (out := [(8, .val (IsB true)), (4, .val (IsOne .none)), (2, .val (Lit (.int .u64 0))), (3, .val (IsB false)), (13, .val (EnvV))]) (nb := []) H2 2 [] rfl (by kernel_rfl) rfl rfl ?_ ?_
  · refine .cons (.plain rfl (ok_move (.tmp 0 rfl))) ?_
    refine .cons (.plain rfl (ok_eqNil (.tmp 0 rfl) (rfl))) ?_
    exact .nil
  clear H2 a2 w2 B2
  intro a3 w3 B3 H3
  refine ops_done ?_
  refine then_normal ?_
  refine f_condT H3 (.tmp 0 rfl) ?_
  refine wp_seq ?_
  refine flow_region (dsts := [some 2, some 3]) (refs := [[], []]) (outs := [.res 0, .res 1, .pre 1, .pre 4]) (als := [false, false]) (posts := [.val (Lit (.int .u64 0)), .val (IsB false)])
    (out := [(2, .val (Lit (.int .u64 0))), (3, .val (IsB false)), (4, .val (IsOne .none)), (13, .val (EnvV))]) (nb := []) H3 2 [] rfl (by kernel_rfl) rfl rfl ?_ ?_
  · refine .cons (.plain rfl (ok_assign (.lit))) ?_
    refine .cons (.plain rfl (ok_assign (.lit))) ?_
    exact .nil
  clear H3 a3 w3 B3
  intro a4 w4 B4 H4
  refine ops_done ?_
  refine then_normal ?_
  refine wp_ret ?_
  refine then_ret ?_
  exact f_retN H4 rfl rfl (.tmp 0 rfl (fun _ _ _ h => h) (.tmp 1 rfl (fun _ _ _ h => h) (.nil)))

set_option maxRecDepth 20000 in
set_option maxHeartbeats 2000000 in
theorem con_narrowN (t : VT) (hb : 0 ≤ (VT.d t).b ∧ (VT.d t).b < 18446744073709551616) (hno : NoNum t) : ConE Tryz.prog 22 [IsVA t] (Tup [Lit (.int .i64 0), Lit (.int .u64 0), IsB false]) := by
  refine f_enterE (N := 34) Tryz.ntmps22 (fun _ _ => by go_simp) Tryz.func22 rfl (by simp) ?_
  intro a0 w0 B0 H0
  replace H0 : St 34 w0 B0 a0 w0 B0 [(0, .val (IsVA t)), (34, .val (EnvV))] [] := H0
  refine wp_seq ?_
  refine flow_region (dsts := [some 1, some 2, some 3, some 4]) (refs := [[.pre 0], [], [], []]) (outs := [.res 0, .res 1, .res 2, .res 3, .pre 1]) (als := [true, false, false, false]) (posts := [.box 37 8 (IsVA t), .val (Lit (.int .i64 0)), .val (Lit (.int .u64 0)), .val (IsB false)])
    (out := [(1, .box 37 8 (IsVA t)), (2, .val (Lit (.int .i64 0))), (3, .val (Lit (.int .u64 0))), (4, .val (IsB false)), (34, .val (EnvV))]) (nb := [1]) H0 4 [] rfl (by kernel_rfl) rfl rfl ?_ ?_
  · refine .cons (.plain rfl (ok_box (.tmp 0 rfl) shape_VA.two)) ?_
    refine .cons (.plain rfl (ok_assign (.lit))) ?_
    refine .cons (.plain rfl (ok_assign (.lit))) ?_
    refine .cons (.plain rfl (ok_assign (.lit))) ?_
    exact .nil
  clear H0
  intro a1 w1 B1 H1
  simp only [List.cons_append, List.nil_append] at H1
  refine ops_done ?_
  refine then_normal ?_
  refine wp_seq ?_
  refine flow_region (dsts := [some 11, some 12, some 10, some 13, some 14, some 5, some 4]) (refs := [[.pre 0], [.res 0, .pre 4], [.res 1], [.res 2], [.res 2], [.res 3], [.res 4]]) (outs := [.res 5, .res 6, .pre 1, .pre 2, .pre 4]) (als := [false, false, false, false, false, false, false]) (posts := [.val (IsVA t), .val (Tup [Lit (.int .u64 0), IsB false]), .val (Tup [Lit (.int .u64 0), IsB false]), .val (Lit (.int .u64 0)), .val (IsB false), .val (Lit (.int .u64 0)), .val (IsB false)])
    (out := [(5, .val (Lit (.int .u64 0))), (4, .val (IsB false)), (2, .val (Lit (.int .i64 0))), (3, .val (Lit (.int .u64 0))), (34, .val (EnvV))]) (nb := []) H1 7 [] rfl (by kernel_rfl) rfl rfl ?_ ?_
  · refine .cons (.plain rfl (ok_load tyV (.tmp 0 rfl))) ?_
    refine .cons (.plain rfl (ok_callE (con_nbitsN t hb hno) 1 rfl (.cons (.tmp 0 rfl) (.nil)))) ?_
    refine .cons (.plain rfl (ok_move (.tmp 0 rfl))) ?_
    refine .cons (.plain rfl (ok_extract 0 (.tmp 0 rfl) rfl)) ?_
    refine .cons (.plain rfl (ok_extract 1 (.tmp 0 rfl) rfl)) ?_
    refine .cons (.plain rfl (ok_assign (.tmp 0 rfl))) ?_
    refine .cons (.plain rfl (ok_assign (.tmp 0 rfl))) ?_
    exact .nil
  clear H1 a1 w1 B1
  intro a2 w2 B2 H2
  refine ops_done ?_
  refine then_normal ?_
  refine wp_seq ?_
  refine wp_seq ?_
  refine flow_region (dsts := [some 15, some 16]) (refs := [[.pre 1], [.res 0]]) (outs := [.res 1, .pre 0, .pre 1, .pre 2, .pre 3, .pre 4]) (als := [false, false]) (posts := [.val (IsB false), .val (IsB true)])
    (out := [(16, .val (IsB true)), (5, .val (Lit (.int .u64 0))), (4, .val (IsB false)), (2, .val (Lit (.int .i64 0))), (3, .val (Lit (.int .u64 0))), (34, .val (EnvV))]) (nb := []) H2 2 [] rfl (by kernel_rfl) rfl rfl ?_ ?_
  · refine .cons (.plain rfl (ok_move (.tmp 0 rfl))) ?_
    refine .cons (.plain rfl (ok_not (b := false) (.tmp 0 rfl))) ?_
    exact .nil
  clear H2 a2 w2 B2
  intro a3 w3 B3 H3
  refine ops_done ?_
  refine then_normal ?_
  refine f_condT H3 (.tmp 0 rfl) ?_
  refine wp_seq ?_
  refine flow_region (dsts := [some 2, some 3, some 4]) (refs := [[], [], []]) (outs := [.res 0, .res 1, .res 2, .pre 1, .pre 5]) (als := [false, false, false]) (posts := [.val (Lit (.int .i64 0)), .val (Lit (.int .u64 0)), .val (IsB false)])
    (out := [(2, .val (Lit (.int .i64 0))), (3, .val (Lit (.int .u64 0))), (4, .val (IsB false)), (5, .val (Lit (.int .u64 0))), (34, .val (EnvV))]) (nb := []) H3 3 [] rfl (by kernel_rfl) rfl rfl ?_ ?_
  · refine .cons (.plain rfl (ok_assign (.lit))) ?_
    refine .cons (.plain rfl (ok_assign (.lit))) ?_
    refine .cons (.plain rfl (ok_assign (.lit))) ?_
    exact .nil
  clear H3 a3 w3 B3
  intro a4 w4 B4 H4
  refine ops_done ?_
  refine then_normal ?_
  refine wp_ret ?_
  refine then_ret ?_
  exact f_retN H4 rfl rfl (.tmp 0 rfl (fun _ _ _ h => h) (.tmp 1 rfl (fun _ _ _ h => h) (.tmp 2 rfl (fun _ _ _ h => h) (.nil))))

set_option maxRecDepth 20000 in
set_option maxHeartbeats 2000000 in
theorem con_ncmpNL (t : VT) (hb : 0 ≤ (VT.d t).b ∧ (VT.d t).b < 18446744073709551616) (hno : NoNum t) (z : NV) (hz : okNV z) : ConE Tryz.prog 34 [IsVA t, IsNum z] (Tup [Lit (.int .i64 0), IsB false]) := by
  refine f_enterE (N := 117) Tryz.ntmps34 (fun _ _ => by go_simp) Tryz.func34 rfl (by simp) ?_
  intro a0 w0 B0 H0
  replace H0 : St 117 w0 B0 a0 w0 B0 [(0, .val (IsVA t)), (1, .val (IsNum z)), (117, .val (EnvV))] [] := H0
  refine wp_seq ?_
  refine flow_region (dsts := [some 2, some 3, some 4, some 5]) (refs := [[.pre 0], [.pre 1], [], []]) (outs := [.res 0, .res 1, .res 2, .res 3, .pre 2]) (als := [true, true, false, false]) (posts := [.box 37 8 (IsVA t), .box 37 8 (IsNum z), .val (Lit (.int .i64 0)), .val (IsB false)])
    (out := [(2, .box 37 8 (IsVA t)), (3, .box 37 8 (IsNum z)), (4, .val (Lit (.int .i64 0))), (5, .val (IsB false)), (117, .val (EnvV))]) (nb := [2, 3]) H0 4 [] rfl (by kernel_rfl) rfl rfl ?_ ?_
  · refine .cons (.plain rfl (ok_box (.tmp 0 rfl) shape_VA.two)) ?_
    refine .cons (.plain rfl (ok_box (.tmp 0 rfl) shape_Num.two)) ?_
    refine .cons (.plain rfl (ok_assign (.lit))) ?_
    refine .cons (.plain rfl (ok_assign (.lit))) ?_
    exact .nil
  clear H0
  intro a1 w1 B1 H1
  simp only [List.cons_append, List.nil_append] at H1
  refine ops_done ?_
  refine then_normal ?_
  refine wp_seq ?_
  refine flow_drawT (dsts := [some 17, some 18, some 19, some 20, some 6, some 7]) (refs := [[.pre 0], [.res 0, .pre 4], [.pre 1], [.res 2, .pre 4], [.res 1], [.res 3]]) (outs := [.res 4, .res 5, .pre 2, .pre 3, .pre 4]) (als := [false, false, false, false, false, false]) (posts := [.val (IsVA t), .val (IsOne .none), .val (IsNum z), .val (IsOne (whatV z)), .val (IsOne .none), .val (IsOne (whatV z))])
    (out := [(6, .val (IsOne .none)), (7, .val (IsOne (whatV z))), (4, .val (Lit (.int .i64 0))), (5, .val (IsB false)), (117, .val (EnvV))]) (nb := []) H1 (by kernel_rfl) 6 0 #[true, true, true, true, true, true] (by kernel_rfl) (by kernel_rfl) rfl rfl ?_ ?_
  · refine .cons (.plain rfl (ok_load tyV (.tmp 0 rfl))) ?_
    refine .cons (.plain rfl (ok_callE (con_whatN t hb hno) 1 rfl (.cons (.tmp 0 rfl) (.nil)))) ?_
    refine .cons (.plain rfl (ok_load tyV (.tmp 0 rfl))) ?_
    refine .cons (.plain rfl (ok_callE (con_what (z) hz) 1 rfl (.cons (.tmp 0 rfl) (.nil)))) ?_
    refine .cons (.plain rfl (ok_assign (.tmp 0 rfl))) ?_
    refine .cons (.plain rfl (ok_assign (.tmp 0 rfl))) ?_
    exact .nil
  clear H1 a1 w1 B1
  intro a2 w2 B2 H2
  refine any_done (by kernel_rfl) ?_
  refine then_normal ?_
  refine wp_seq ?_
  refine wp_seq ?_
  refine flow_region (dsts := [some 21, some 22, some 23, some 24, some 25, some 26]) (refs := [[.pre 0], [.res 0], [.res 1], [.res 2], [.res 2], [.res 2]]) (outs := [.res 5, .pre 0, .pre 1, .pre 2, .pre 3, .pre 4]) (als := [false, false, false, false, false, false]) (posts := [.val (IsOne .none), .val (IsB true), .val (IsB true), .val (IsUndef), .val (IsUndef), .val (IsB true)])
    (out := [(26, .val (IsB true)), (6, .val (IsOne .none)), (7, .val (IsOne (whatV z))), (4, .val (Lit (.int .i64 0))), (5, .val (IsB false)), (117, .val (EnvV))]) (nb := []) H2 6 [] rfl (by kernel_rfl) rfl rfl ?_ ?_
  · refine .cons (.plain rfl (ok_move (.tmp 0 rfl))) ?_
    refine .cons (.plain rfl (ok_eqNil (.tmp 0 rfl) (rfl))) ?_
    refine .cons (.plain rfl (ok_move (.tmp 0 rfl))) ?_
    refine .cons (.unwanted 2 false rfl rfl rfl 0 rfl) ?_
    refine .cons (.unwanted 2 false rfl rfl rfl 0 rfl) ?_
    refine .cons (.plain rfl (ok_pickT (.tmp 0 rfl) (.lit))) ?_
    exact .nil
  clear H2 a2 w2 B2
  intro a3 w3 B3 H3
  refine ops_done ?_
  refine then_normal ?_
  refine f_condT H3 (.tmp 0 rfl) ?_
  refine wp_seq ?_
  refine flow_region (dsts := [some 4, some 5]) (refs := [[], []]) (outs := [.res 0, .res 1, .pre 1, .pre 2, .pre 5]) (als := [false, false]) (posts := [.val (Lit (.int .i64 0)), .val (IsB false)])
    (out := [(4, .val (Lit (.int .i64 0))), (5, .val (IsB false)), (6, .val (IsOne .none)), (7, .val (IsOne (whatV z))), (117, .val (EnvV))]) (nb := []) H3 2 [] rfl (by kernel_rfl) rfl rfl ?_ ?_
  · refine .cons (.plain rfl (ok_assign (.lit))) ?_
    refine .cons (.plain rfl (ok_assign (.lit))) ?_
    exact .nil
  clear H3 a3 w3 B3
  intro a4 w4 B4 H4
  refine ops_done ?_
  refine then_normal ?_
  refine wp_ret ?_
  refine then_ret ?_
  exact f_retN H4 rfl rfl (.tmp 0 rfl (fun _ _ _ h => h) (.tmp 1 rfl (fun _ _ _ h => h) (.nil)))

set_option maxRecDepth 20000 in
set_option maxHeartbeats 2000000 in
theorem con_ncmpNR (t : VT) (hb : 0 ≤ (VT.d t).b ∧ (VT.d t).b < 18446744073709551616) (hno : NoNum t) (z : NV) (hz : okNV z) (hw : (whatV z).isNone = false) : ConE Tryz.prog 34 [IsNum z, IsVA t] (Tup [Lit (.int .i64 0), IsB false]) := by
  refine f_enterE (N := 117) Tryz.ntmps34 (fun _ _ => by go_simp) Tryz.func34 rfl (by simp) ?_
  intro a0 w0 B0 H0
  replace H0 : St 117 w0 B0 a0 w0 B0 [(0, .val (IsNum z)), (1, .val (IsVA t)), (117, .val (EnvV))] [] := H0
  refine wp_seq ?_
  refine flow_region (dsts := [some 2, some 3, some 4, some 5]) (refs := [[.pre 0], [.pre 1], [], []]) (outs := [.res 0, .res 1, .res 2, .res 3, .pre 2]) (als := [true, true, false, false]) (posts := [.box 37 8 (IsNum z), .box 37 8 (IsVA t), .val (Lit (.int .i64 0)), .val (IsB false)])
    (out := [(2, .box 37 8 (IsNum z)), (3, .box 37 8 (IsVA t)), (4, .val (Lit (.int .i64 0))), (5, .val (IsB false)), (117, .val (EnvV))]) (nb := [2, 3]) H0 4 [] rfl (by kernel_rfl) rfl rfl ?_ ?_
  · refine .cons (.plain rfl (ok_box (.tmp 0 rfl) shape_Num.two)) ?_
    refine .cons (.plain rfl (ok_box (.tmp 0 rfl) shape_VA.two)) ?_
    refine .cons (.plain rfl (ok_assign (.lit))) ?_
    refine .cons (.plain rfl (ok_assign (.lit))) ?_
    exact .nil
  clear H0
  intro a1 w1 B1 H1
  simp only [List.cons_append, List.nil_append] at H1
  refine ops_done ?_
  refine then_normal ?_
  refine wp_seq ?_
  refine flow_drawT (dsts := [some 17, some 18, some 19, some 20, some 6, some 7]) (refs := [[.pre 0], [.res 0, .pre 4], [.pre 1], [.res 2, .pre 4], [.res 1], [.res 3]]) (outs := [.res 4, .res 5, .pre 2, .pre 3, .pre 4]) (als := [false, false, false, false, false, false]) (posts := [.val (IsNum z), .val (IsOne (whatV z)), .val (IsVA t), .val (IsOne .none), .val (IsOne (whatV z)), .val (IsOne .none)])
    (out := [(6, .val (IsOne (whatV z))), (7, .val (IsOne .none)), (4, .val (Lit (.int .i64 0))), (5, .val (IsB false)), (117, .val (EnvV))]) (nb := []) H1 (by kernel_rfl) 6 0 #[true, true, true, true, true, true] (by kernel_rfl) (by kernel_rfl) rfl rfl ?_ ?_
  · refine .cons (.plain rfl (ok_load tyV (.tmp 0 rfl))) ?_
    refine .cons (.plain rfl (ok_callE (con_what (z) hz) 1 rfl (.cons (.tmp 0 rfl) (.nil)))) ?_
    refine .cons (.plain rfl (ok_load tyV (.tmp 0 rfl))) ?_
    refine .cons (.plain rfl (ok_callE (con_whatN t hb hno) 1 rfl (.cons (.tmp 0 rfl) (.nil)))) ?_
    refine .cons (.plain rfl (ok_assign (.tmp 0 rfl))) ?_
    refine .cons (.plain rfl (ok_assign (.tmp 0 rfl))) ?_
    exact .nil
  clear H1 a1 w1 B1
  intro a2 w2 B2 H2
  refine any_done (by kernel_rfl) ?_
  refine then_normal ?_
  refine wp_seq ?_
  refine wp_seq ?_
  refine flow_region (dsts := [some 21, some 22, some 23, some 24, some 25, some 26]) (refs := [[.pre 0], [.res 0], [.res 1], [.res 2, .pre 1], [.res 2, .res 3], [.res 2, .res 4]]) (outs := [.res 5, .pre 0, .pre 1, .pre 2, .pre 3, .pre 4]) (als := [false, false, false, false, false, false]) (posts := [.val (IsOne (whatV z)), .val (IsB false), .val (IsB false), .val (IsOne .none), .val (IsB true), .val (IsB true)])
    (out := [(26, .val (IsB true)), (6, .val (IsOne (whatV z))), (7, .val (IsOne .none)), (4, .val (Lit (.int .i64 0))), (5, .val (IsB false)), (117, .val (EnvV))]) (nb := []) H2 6 [] rfl (by kernel_rfl) rfl rfl ?_ ?_
  · refine .cons (.plain rfl (ok_move (.tmp 0 rfl))) ?_
    refine .cons (.plain rfl (ok_eqNil (.tmp 0 rfl) (hw.symm))) ?_
    refine .cons (.plain rfl (ok_move (.tmp 0 rfl))) ?_
    refine .cons (.wanted 2 false rfl rfl rfl 0 rfl (ok_move (.tmp 1 rfl))) ?_
    refine .cons (.wanted 2 false rfl rfl rfl 0 rfl (ok_eqNil (.tmp 1 rfl) (rfl))) ?_
    refine .cons (.plain rfl (ok_pickF (.tmp 0 rfl) (.tmp 1 rfl))) ?_
    exact .nil
  clear H2 a2 w2 B2
  intro a3 w3 B3 H3
  refine ops_done ?_
  refine then_normal ?_
  refine f_condT H3 (.tmp 0 rfl) ?_
  refine wp_seq ?_
  refine flow_region (dsts := [some 4, some 5]) (refs := [[], []]) (outs := [.res 0, .res 1, .pre 1, .pre 2, .pre 5]) (als := [false, false]) (posts := [.val (Lit (.int .i64 0)), .val (IsB false)])
    (out := [(4, .val (Lit (.int .i64 0))), (5, .val (IsB false)), (6, .val (IsOne (whatV z))), (7, .val (IsOne .none)), (117, .val (EnvV))]) (nb := []) H3 2 [] rfl (by kernel_rfl) rfl rfl ?_ ?_
  · refine .cons (.plain rfl (ok_assign (.lit))) ?_
    refine .cons (.plain rfl (ok_assign (.lit))) ?_
    exact .nil
  clear H3 a3 w3 B3
  intro a4 w4 B4 H4
  refine ops_done ?_
  refine then_normal ?_
  refine wp_ret ?_
  refine then_ret ?_
  exact f_retN H4 rfl rfl (.tmp 0 rfl (fun _ _ _ h => h) (.tmp 1 rfl (fun _ _ _ h => h) (.nil)))
end Go.Proofs.YtoimhjcpeifegaaGreatDoor


/- The bound of one number; a list of one limb. -/
set_option maxRecDepth 50000
namespace Go.Proofs.YtoimhjcpeifegaaGreatDoor
open Go Go.RowKit

section
variable {need : List (Tmp × FD)} {d : Option Tmp} {ty : TypeId} {pos : String} {af : Array Edge} {g : Option (Nat × Bool)} {x : Operand}
theorem ok_dig1 {i : Int} (hi : 0 < i ∧ i < 4294967296) (h : Opd need x (.val (Lit (.int .u32 i)))) : OpOk Tryz.prog ⟨d, .buildSlice 32 1 #[(0, x)], ty, pos, af, g⟩ need (.val (IsC i)) false := by
  intro Q K a w B hB hF hK
  have e : a.eval x = .int .u32 i := h a w B hF
  have hbel : Below w.heap.size w (w.alloc (.cells #[.int .u32 i] 23)) := (Below.refl _ _).alloc (Nat.le_refl _) _
  have hr : (execOp a.eval ⟨d, .buildSlice 32 1 #[(0, x)], ty, pos, af, g⟩).run Tryz.prog w = .ok (.value (.slice (some ⟨w.heap.size, 0, none⟩) 1 1)) (w.alloc (.cells #[.int .u32 i] 23)) := by
    simp only [execOp, e, List.map_toArray, List.map_cons, List.map_nil]
    go_simp
  have hdg : dg 4294967296 i = [i] := by
    rw [dg_pos 4294967296 i (by omega) hi.1, show i / ((4294967296 : Nat) : Int) = 0 by omega, dg_zero, show i % ((4294967296 : Nat) : Int) = i by omega]
  unfold Oper.wp
  rw [hr]
  refine hK _ _ B ⟨_, 1, 1, rfl, ⟨by omega, ?_⟩, by rw [lim_eq]; omega, by omega⟩ (Bl.of_below B hbel) hbel (fun k hk => Nat.lt_of_lt_of_le (hB k hk) hbel.size) (by simp)
  rw [hdg]
  refine ⟨rfl, fun j hj => ⟨_, rfl, ?_⟩⟩
  obtain rfl : j = 0 := by omega
  rw [plain_add, cell_row (heap_alloc_new w _)]
  rfl
end
end Go.Proofs.YtoimhjcpeifegaaGreatDoor


/- VNumT. (Printed by flow15.py.) -/
namespace Go.Proofs.YtoimhjcpeifegaaGreatDoor
open Go Go.RowKit

theorem hx64v {x : Int} (h : 0 ≤ x ∧ x < 18446744073709551616) : 0 ≤ x ∧ x < 2 ^ 64 := by rw [show (2 : Int) ^ 64 = 18446744073709551616 from by decide]; exact h
theorem k_cases (t : VT) : ((VT.d t).k ≠ 3 ∧ (VT.d t).k ≠ 4) ∨ ((VT.d t).k = 3 ∧ aloneT t = true) ∨ ((VT.d t).k = 3 ∧ aloneT t = false) ∨ ((VT.d t).k ≠ 3 ∧ (VT.d t).k = 4 ∧ aloneT t = true) ∨ ((VT.d t).k ≠ 3 ∧ (VT.d t).k = 4 ∧ aloneT t = false) := by
  by_cases h3 : (VT.d t).k = 3
  · cases h : aloneT t
    · exact .inr (.inr (.inl ⟨h3, rfl⟩))
    · exact .inr (.inl ⟨h3, rfl⟩)
  · by_cases h4 : (VT.d t).k = 4
    · cases h : aloneT t
      · exact .inr (.inr (.inr (.inr ⟨h3, h4, rfl⟩)))
      · exact .inr (.inr (.inr (.inl ⟨h3, h4, rfl⟩)))
    · exact .inl ⟨h3, h4⟩
section
variable {need : List (Tmp × FD)} {d : Option Tmp} {ty : TypeId} {pos : String} {af : Array Edge} {g : Option (Nat × Bool)} {x : Operand}
theorem run_eqErr1 (ρ : Operand → Value) (w : World) (h1 : ρ x = .nilIface) (hc : ρ (.const .nilIface) = .nilIface) : (execOp ρ ⟨d, .binOp .eql 67 x (.const .nilIface) 67, ty, pos, af, g⟩).run Tryz.prog w = .ok (.value (.bool true)) w := by
  unfold execOp
  simp only [h1, hc]
  go_simp
theorem run_eqErr2 (ρ : Operand → Value) (w : World) (t : TypeId) (u : Value) (h1 : ρ x = .iface t u) (hc : ρ (.const .nilIface) = .nilIface) : (execOp ρ ⟨d, .binOp .eql 67 x (.const .nilIface) 67, ty, pos, af, g⟩).run Tryz.prog w = .ok (.value (.bool false)) w := by
  unfold execOp
  simp only [h1, hc]
  go_simp
theorem ok_eqErr {b : Bool} (h : Opd need x (.val (IsErr b))) : OpOk Tryz.prog ⟨d, .binOp .eql 67 x (.const .nilIface) 67, ty, pos, af, g⟩ need (.val (IsB b)) false :=
  ok_via2 h .lit fun ρ w B v u hv hu h1 h2 => by
    obtain rfl := hu
    cases b with
    | true =>
      obtain rfl : v = .nilIface := hv
      exact ⟨_, run_eqErr1 ρ w h1 h2, rfl⟩
    | false =>
      obtain ⟨t, u, rfl⟩ := hv
      exact ⟨_, run_eqErr2 ρ w _ _ h1 h2, rfl⟩
end
/-- The number that a value is. -/
noncomputable def numT (t : VT) : NV := if (VT.d t).k = 3 then .int (sI (VT.d t).ng (val 4294967296 (VT.d t).xs)) else .flt (VT.d t).b
theorem rest_true {n b x : Int} {tt : ByteArray} {kn : Nat} (h : restB n b x tt kn = true) : n = 0 ∧ b = 0 ∧ x = 0 ∧ tt = ⟨#[]⟩ ∧ kn = 0 := by
  rcases rest_cases n b x tt kn with ⟨_, e⟩ | ⟨_, _, e⟩ | ⟨_, _, _, e⟩ | ⟨_, _, _, _, e⟩ | ⟨_, _, _, _, _, e⟩ | ⟨h1, h2, h3, h4, h5, _⟩
  · rw [h] at e; cases e
  · rw [h] at e; cases e
  · rw [h] at e; cases e
  · rw [h] at e; cases e
  · rw [h] at e; cases e
  · exact ⟨h1, h2, h3, h4, h5⟩
theorem num_ok {t : VT} (hk : (VT.d t).k = 3 ∨ (VT.d t).k = 4) (hb : 0 ≤ (VT.d t).b ∧ (VT.d t).b < 18446744073709551616) (hg : aloneT t = true) : okNV (numT t) := by
  unfold numT
  by_cases h3 : (VT.d t).k = 3
  · rw [if_pos h3]; trivial
  · rw [if_neg h3]
    unfold aloneT at hg
    rw [if_neg h3, Bool.and_eq_true, Bool.and_eq_true, Bool.and_eq_true] at hg
    exact ⟨hb, hg.1.1.1⟩
theorem norm_of_last {xs : List Int} (h : xs.length = 0 ∨ (0 < xs.length ∧ xs[xs.length - 1]?.getD 0 ≠ 0)) : norm xs = xs := by
  have := norm_stop xs xs.length (Nat.le_refl _) (fun j hj => by rw [List.getElem?_eq_none hj]; rfl) (h.imp id fun h => h.2)
  rwa [List.take_length] at this
theorem norm_of_normB {ng : Bool} {xs : List Int} (h : normB ng xs = true) : norm xs = xs := by
  unfold normB at h
  rw [Bool.or_eq_true, Bool.and_eq_true, Bool.and_eq_true, decide_eq_true_eq, decide_eq_true_eq, decide_eq_true_eq] at h
  exact norm_of_last (h.imp (fun h => h.1) id)
theorem dg_of_norm {xs : List Int} (d : Dig 4294967296 xs) (h : norm xs = xs) : dg 4294967296 (val 4294967296 xs) = xs := (norm_eq 4294967296 (by omega) d).symm.trans h
theorem val_pos_of_last {xs : List Int} (d : Dig 4294967296 xs) (h0 : 0 < xs.length) (h : xs[xs.length - 1]?.getD 0 ≠ 0) : 0 < val 4294967296 xs := by
  have hv0 := val_nonneg (show (0 : Int) < 4294967296 by omega) d
  rcases Int.lt_or_eq_of_le hv0 with h1 | h1
  · exact h1
  · have h2 := dg_of_norm d (norm_of_last (.inr ⟨h0, h⟩))
    rw [← h1, dg_zero] at h2
    rw [← h2] at h0
    exact absurd h0 (by decide)
theorem weakVANum {t : VT} (hk : (VT.d t).k = 3 ∨ (VT.d t).k = 4) (hg : aloneT t = true) (hW : Wn t) (v : Value) (w : World) (B : Bx) (h : (IsVA t).p v w B) : (IsNum (numT t)).p v w B := by
  have h1 : RdV w.heap.size w B t v := h.1
  obtain ⟨cs, rfl⟩ := h1.agg
  obtain ⟨ad, n, c, kd, rfl, _, ka, ⟨ke, kc, rfl, _⟩, hn, _⟩ := h1.open
  have hxl : (VT.d t).xs.length ≤ 1048576 := by
    cases hW with
    | mk d l q1 q2 q3 => exact q1
  have hl := ka.rds.len
  unfold numT
  unfold aloneT at hg
  by_cases h3 : (VT.d t).k = 3
  · rw [if_pos h3]
    rw [if_pos h3, Bool.and_eq_true] at hg
    obtain ⟨h4, h5, h6, h7, h8⟩ := rest_true hg.2
    rw [h3, h4, h5, h6, h7, h8]
    show (IsVal 3 0 (IsI (sI (VT.d t).ng (val 4294967296 (VT.d t).xs))) 0 0 ⟨#[]⟩ K0).p _ w B
    refine ⟨_, _, _, rfl, ⟨ad, n, c, ?_, ⟨ka.le, ?_⟩, by rw [lim_eq]; omega⟩, ke, kc, rfl⟩
    · have hg1 := hg.1
      unfold normB at hg1
      rw [Bool.or_eq_true, Bool.and_eq_true, Bool.and_eq_true, decide_eq_true_eq, decide_eq_true_eq, decide_eq_true_eq] at hg1
      congr 2
      congr 2
      have hv0 := val_nonneg (show (0 : Int) < 4294967296 by omega) ka.dig
      unfold sI
      cases hng : (VT.d t).ng with
      | false =>
        rw [decide_eq_false]
        simp only [Bool.false_eq_true, if_false]
        omega
      | true =>
        rw [hng] at hg1
        rw [decide_eq_true]
        simp only [if_true]
        rcases hg1 with hg1 | hg1
        · exact absurd hg1.2 (by decide)
        · have := val_pos_of_last ka.dig hg1.1 hg1.2
          omega
    · have hd : dg 4294967296 (((sI (VT.d t).ng (val 4294967296 (VT.d t).xs)).natAbs : Int)) = (VT.d t).xs := by
        have hv0 := val_nonneg (show (0 : Int) < 4294967296 by omega) ka.dig
        have e : (((sI (VT.d t).ng (val 4294967296 (VT.d t).xs)).natAbs : Int)) = val 4294967296 (VT.d t).xs := sI_abs _ _ hv0
        rw [e]
        exact dg_of_norm ka.dig (norm_of_normB hg.1)
      rw [hd]
      exact ka.rds
  · rw [if_neg h3]
    rw [if_neg h3, Bool.and_eq_true, Bool.and_eq_true, Bool.and_eq_true, decide_eq_true_eq] at hg
    obtain ⟨⟨⟨g1, g2⟩, g3⟩, g4⟩ := hg
    obtain ⟨h4, _, h6, h7, h8⟩ := rest_true g4
    have hng : (VT.d t).ng = false := by simpa using g2
    have hxs : (VT.d t).xs = [] := List.eq_nil_of_length_eq_zero g3
    rw [hk.resolve_left h3, h4, h6, h7, h8, hng]
    rw [hxs] at ka hl
    refine ⟨_, _, _, rfl, ⟨ad, n, c, rfl, ⟨ka.le, ?_⟩, by rw [← hl]; exact Nat.zero_le _⟩, ke, kc, rfl⟩
    show Rds w .u32 ad n (dg 4294967296 0)
    rw [dg_zero]
    exact ka.rds
theorem ConE.pre {P : Program} {f : FuncId} {D D' : VP} {R : VP} (h : ConE P f [D] R) (hw : ∀ v w B, D'.p v w B → D.p v w B) : ConE P f [D'] R :=
  ⟨h.enters, fun vs w B hB hE hV => by
    match vs, hV with
    | [v], ⟨h1, _⟩ => exact h.calls [v] w B hB hE ⟨hw _ _ _ h1, trivial⟩⟩
theorem con_checkgood (t : VT) (hk : (VT.d t).k = 3 ∨ (VT.d t).k = 4) (hb : 0 ≤ (VT.d t).b ∧ (VT.d t).b < 18446744073709551616) (hg : aloneT t = true) (hW : Wn t) : ConE Tryz.prog 39 [IsVA t] (IsErr true) :=
  (con_vcheck (numT t) (num_ok hk hb hg)).pre (weakVANum hk hg hW)
end Go.Proofs.YtoimhjcpeifegaaGreatDoor


/- VLives. (Printed by flow15.py.) -/
namespace Go.Proofs.YtoimhjcpeifegaaGreatDoor
open Go Go.RowKit

set_option maxRecDepth 20000 in
set_option maxHeartbeats 2000000 in
theorem con_lives15 : ConE Tryz.prog 33 [] (IsB true) := by
  refine f_enterE (N := 48) Tryz.ntmps33 (fun _ _ => by go_simp) Tryz.func33 rfl (by simp) ?_
  intro a0 w0 B0 H0
  replace H0 : St 48 w0 B0 a0 w0 B0 [(48, .val (EnvV))] [] := H0
  refine wp_seq ?_
  refine flow_region (dsts := [some 0]) (refs := [[]]) (outs := [.res 0, .pre 0]) (als := [false]) (posts := [.val (IsB false)])
    (out := [(0, .val (IsB false)), (48, .val (EnvV))]) (nb := []) H0 1 [] rfl (by kernel_rfl) rfl rfl ?_ ?_
  · refine .cons (.plain rfl (ok_assign (.lit))) ?_
    exact .nil
  clear H0
  intro a1 w1 B1 H1
  refine ops_done ?_
  refine then_normal ?_
  refine wp_seq ?_
  refine flow_region (dsts := [some 7, some 1]) (refs := [[.pre 1], []]) (outs := [.res 0, .res 1, .pre 0, .pre 1]) (als := [false, true]) (posts := [.val (IsNum (.flt 4609434218613702656)), .box 37 8 (IsVal 0 0 (IsI 0) 0 0 (⟨#[]⟩) (K0))])
    (out := [(7, .val (IsNum (.flt 4609434218613702656))), (1, .box 37 8 (IsVal 0 0 (IsI 0) 0 0 (⟨#[]⟩) (K0))), (0, .val (IsB false)), (48, .val (EnvV))]) (nb := [1]) H1 2 [2] rfl (by kernel_rfl) rfl rfl ?_ ?_
  · refine .cons (.plain rfl (ok_callE ((con_of16 15872 (by omega)).weak (fun v w B h => num_eq lives_of h)) 0 rfl (.cons (.lit) (.nil)))) ?_
    refine .cons (.plain rfl (ok_allocV)) ?_
    exact .nil
  clear H1 a1 w1 B1
  intro a2 w2 B2 H2
  simp only [List.cons_append, List.nil_append] at H2
  refine ops_one ?_
  refine store_op (l' := [(7, .val (IsNum (.flt 4609434218613702656))), (1, .box 37 8 (IsNum (.flt 4609434218613702656))), (0, .val (IsB false)), (48, .val (EnvV))]) 1 H2 rfl tyV rfl (.tmp 0 rfl) (shape_Val shape_I oneK0) shape_Num rfl rfl ?_
  clear H2 w2
  intro w3 H3
  refine ops_done ?_
  refine then_normal ?_
  refine wp_seq ?_
  refine flow_region (dsts := [some 9, some 10, some 11, some 12, some 8, some 13, some 14, some 15, some 2, some 3, some 4]) (refs := [[], [.res 0], [.res 1], [.res 2, .pre 3], [.res 3], [.res 4], [.res 4], [.res 4], [.res 5], [.res 6], [.res 7]]) (outs := [.res 8, .res 9, .res 10, .pre 1, .pre 2, .pre 3]) (als := [false, false, false, false, false, false, false, false, false, false, false]) (posts := [.val (IsC 65505), .val (IsI 65505), .val (IsNum (.int 65505)), .val (Tup [Lit (.int .i64 32), Lit (.int .u64 1199563008), IsB true]), .val (Tup [Lit (.int .i64 32), Lit (.int .u64 1199563008), IsB true]), .val (Lit (.int .i64 32)), .val (Lit (.int .u64 1199563008)), .val (IsB true), .val (Lit (.int .i64 32)), .val (Lit (.int .u64 1199563008)), .val (IsB true)])
    (out := [(2, .val (Lit (.int .i64 32))), (3, .val (Lit (.int .u64 1199563008))), (4, .val (IsB true)), (1, .box 37 8 (IsNum (.flt 4609434218613702656))), (0, .val (IsB false)), (48, .val (EnvV))]) (nb := []) H3 11 [] rfl (by kernel_rfl) rfl rfl ?_ ?_
  · refine .cons (.plain rfl (ok_dig1 (by omega) (.lit))) ?_
    refine .cons (.plain rfl (ok_buildI1 (.tmp 0 rfl))) ?_
    refine .cons (.plain rfl (ok_buildVI (k := 3) (.lit) (.tmp 0 rfl) shape_I)) ?_
    refine .cons (.plain rfl (ok_callE ((con_narrow (.int 65505) trivial).weak (fun v w B h => by rw [lives_bits, lives_narrow] at h; exact h)) 1 rfl (.cons (.tmp 0 rfl) (.nil)))) ?_
    refine .cons (.plain rfl (ok_move (.tmp 0 rfl))) ?_
    refine .cons (.plain rfl (ok_extract 0 (.tmp 0 rfl) rfl)) ?_
    refine .cons (.plain rfl (ok_extract 1 (.tmp 0 rfl) rfl)) ?_
    refine .cons (.plain rfl (ok_extract 2 (.tmp 0 rfl) rfl)) ?_
    refine .cons (.plain rfl (ok_assign (.tmp 0 rfl))) ?_
    refine .cons (.plain rfl (ok_assign (.tmp 0 rfl))) ?_
    refine .cons (.plain rfl (ok_assign (.tmp 0 rfl))) ?_
    exact .nil
  clear H3 a2 w3 B2
  intro a4 w4 B4 H4
  refine ops_done ?_
  refine then_normal ?_
  refine wp_seq ?_
  refine flow_drawT (dsts := [some 17, some 18, some 19, some 16, some 20, some 21, some 5, some 6]) (refs := [[.pre 5], [.pre 3], [.res 0, .res 1, .pre 5], [.res 2], [.res 3], [.res 3], [.res 4], [.res 5]]) (outs := [.res 6, .res 7, .pre 0, .pre 1, .pre 2, .pre 3, .pre 4, .pre 5]) (als := [false, false, false, false, false, false, false, false]) (posts := [.val (IsNum (.int 1)), .val (IsNum (.flt 4609434218613702656)), .val (Tup [Lit (.int .i64 (-1)), IsB true]), .val (Tup [Lit (.int .i64 (-1)), IsB true]), .val (Lit (.int .i64 (-1))), .val (IsB true), .val (Lit (.int .i64 (-1))), .val (IsB true)])
    (out := [(5, .val (Lit (.int .i64 (-1)))), (6, .val (IsB true)), (2, .val (Lit (.int .i64 32))), (3, .val (Lit (.int .u64 1199563008))), (4, .val (IsB true)), (1, .box 37 8 (IsNum (.flt 4609434218613702656))), (0, .val (IsB false)), (48, .val (EnvV))]) (nb := []) H4 (by kernel_rfl) 8 0 #[true, true, true, true, true, true, true, true] (by kernel_rfl) (by kernel_rfl) rfl rfl ?_ ?_
  · refine .cons (.plain rfl (ok_callE ((con_of32 1065353216 (by omega)).weak (fun v w B h => num_eq lives_of1 h)) 0 rfl (.cons (.lit) (.nil)))) ?_
    refine .cons (.plain rfl (ok_load tyV (.tmp 0 rfl))) ?_
    refine .cons (.plain rfl (ok_callE ((con_ncmpL (.int 1) (.flt 4609434218613702656) trivial lives_ok 1 rfl 4609434218613702656 lives_what (by omega) (by decide)).weak (fun v w B h => by rw [lives_cmp] at h; exact h)) 2 rfl (.cons (.tmp 0 rfl) (.cons (.tmp 1 rfl) (.nil))))) ?_
    refine .cons (.plain rfl (ok_move (.tmp 0 rfl))) ?_
    refine .cons (.plain rfl (ok_extract 0 (.tmp 0 rfl) rfl)) ?_
    refine .cons (.plain rfl (ok_extract 1 (.tmp 0 rfl) rfl)) ?_
    refine .cons (.plain rfl (ok_assign (.tmp 0 rfl))) ?_
    refine .cons (.plain rfl (ok_assign (.tmp 0 rfl))) ?_
    exact .nil
  clear H4 a4 w4 B4
  intro a5 w5 B5 H5
  refine any_done (by kernel_rfl) ?_
  refine then_normal ?_
  refine wp_seq ?_
  refine flow_region (dsts := [some 22, some 23, some 24, some 25, some 26, some 27, some 28, some 29, some 30, some 31, some 32, some 33, some 34, some 35, some 36, some 37, some 38, some 39, some 40, some 41, some 42, some 43, some 44, some 45, some 46, some 47, some 0]) (refs := [[.pre 5], [.res 0], [.res 1], [.res 2], [.res 3, .pre 5], [.res 3, .res 4], [.res 3, .res 5], [.res 3, .res 6], [.res 7], [.res 8, .pre 4], [.res 8, .res 9], [.res 10], [.res 11, .pre 2], [.res 11, .res 12], [.res 11, .res 13], [.res 14], [.res 15, .pre 3], [.res 15, .res 16], [.res 15, .res 17], [.res 18], [.res 19, .pre 0], [.res 19, .res 20], [.res 19, .res 21], [.res 22], [.res 23, .pre 1], [.res 23, .res 24], [.res 25]]) (outs := [.res 26, .pre 7]) (als := [false, false, false, false, false, false, false, false, false, false, false, false, false, false, false, false, false, false, false, false, false, false, false, false, false, false, false]) (posts := [.ptr 37 8 (IsNum (.flt 4609434218613702656)) 0, .val (Lit (.int .i8 4)), .val (IsB true), .val (IsB true), .ptr 37 8 (IsNum (.flt 4609434218613702656)) 4, .val (Lit (.int .u64 4609434218613702656)), .val (IsB true), .val (IsB true), .val (IsB true), .val (IsB true), .val (IsB true), .val (IsB true), .val (Lit (.int .i64 32)), .val (IsB true), .val (IsB true), .val (IsB true), .val (Lit (.int .u64 1199563008)), .val (IsB true), .val (IsB true), .val (IsB true), .val (Lit (.int .i64 (-1))), .val (IsB true), .val (IsB true), .val (IsB true), .val (IsB true), .val (IsB true), .val (IsB true)])
    (out := [(0, .val (IsB true)), (48, .val (EnvV))]) (nb := []) H5 27 [] rfl (by kernel_rfl) rfl rfl ?_ ?_
  · refine .cons (.plain rfl (ok_addrV0 (.tmp 0 rfl))) ?_
    refine .cons (.plain rfl (ok_loadV0 (.tmp 0 rfl))) ?_
    refine .cons (.plain rfl (ok_cmp (b := true) (.tmp 0 rfl) (.lit) (by decide))) ?_
    refine .cons (.plain rfl (ok_move (.tmp 0 rfl))) ?_
    refine .cons (.wanted 3 true rfl rfl rfl 0 rfl (ok_addrV3 (.tmp 1 rfl))) ?_
    refine .cons (.wanted 3 true rfl rfl rfl 0 rfl (ok_loadV3 (.tmp 1 rfl))) ?_
    refine .cons (.wanted 3 true rfl rfl rfl 0 rfl (ok_cmp (b := true) (.tmp 1 rfl) (.lit) (by decide))) ?_
    refine .cons (.plain rfl (ok_pickT (.tmp 0 rfl) (.tmp 1 rfl))) ?_
    refine .cons (.plain rfl (ok_move (.tmp 0 rfl))) ?_
    refine .cons (.wanted 8 true rfl rfl rfl 0 rfl (ok_move (.tmp 1 rfl))) ?_
    refine .cons (.plain rfl (ok_pickT (.tmp 0 rfl) (.tmp 1 rfl))) ?_
    refine .cons (.plain rfl (ok_move (.tmp 0 rfl))) ?_
    refine .cons (.wanted 11 true rfl rfl rfl 0 rfl (ok_move (.tmp 1 rfl))) ?_
    refine .cons (.wanted 11 true rfl rfl rfl 0 rfl (ok_cmp (b := true) (.tmp 1 rfl) (.lit) (by decide))) ?_
    refine .cons (.plain rfl (ok_pickT (.tmp 0 rfl) (.tmp 1 rfl))) ?_
    refine .cons (.plain rfl (ok_move (.tmp 0 rfl))) ?_
    refine .cons (.wanted 15 true rfl rfl rfl 0 rfl (ok_move (.tmp 1 rfl))) ?_
    refine .cons (.wanted 15 true rfl rfl rfl 0 rfl (ok_cmp (b := true) (.tmp 1 rfl) (.lit) (by decide))) ?_
    refine .cons (.plain rfl (ok_pickT (.tmp 0 rfl) (.tmp 1 rfl))) ?_
    refine .cons (.plain rfl (ok_move (.tmp 0 rfl))) ?_
    refine .cons (.wanted 19 true rfl rfl rfl 0 rfl (ok_move (.tmp 1 rfl))) ?_
    refine .cons (.wanted 19 true rfl rfl rfl 0 rfl (ok_cmp (b := true) (.tmp 1 rfl) (.lit) (by decide))) ?_
    refine .cons (.plain rfl (ok_pickT (.tmp 0 rfl) (.tmp 1 rfl))) ?_
    refine .cons (.plain rfl (ok_move (.tmp 0 rfl))) ?_
    refine .cons (.wanted 23 true rfl rfl rfl 0 rfl (ok_move (.tmp 1 rfl))) ?_
    refine .cons (.plain rfl (ok_pickT (.tmp 0 rfl) (.tmp 1 rfl))) ?_
    refine .cons (.plain rfl (ok_assign (.tmp 0 rfl))) ?_
    exact .nil
  clear H5 a5 w5 B5
  intro a6 w6 B6 H6
  refine ops_done ?_
  refine then_normal ?_
  refine wp_ret ?_
  exact f_ret H6 rfl 0 rfl (fun _ _ _ h => h)

end Go.Proofs.YtoimhjcpeifegaaGreatDoor

