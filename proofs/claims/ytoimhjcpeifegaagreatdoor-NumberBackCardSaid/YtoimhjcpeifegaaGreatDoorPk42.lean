/- Contracts of functions, and plain facts, part 42. -/
import Derived.Test.YtoimhjcpeifegaaGreatDoorPk33
import Derived.Test.YtoimhjcpeifegaaGreatDoorPk40
import Derived.Test.YtoimhjcpeifegaaGreatDoorPk41
set_option linter.unusedVariables false
set_option linter.unusedSimpArgs false
/- VNumT. (Printed by flow15.py.) -/
namespace Go.Proofs.YtoimhjcpeifegaaGreatDoor
open Go Go.RowKit

theorem hx64v {x : Int} (h : 0 ≤ x ∧ x < 18446744073709551616) : 0 ≤ x ∧ x < 2 ^ 64 := by rw [show (2 : Int) ^ 64 = 18446744073709551616 from by decide]; exact h
theorem k_cases (t : VT) : ((VT.d t).k ≠ 3 ∧ (VT.d t).k ≠ 4) ∨ ((VT.d t).k = 3 ∧ aloneT t = true) ∨ ((VT.d t).k = 3 ∧ aloneT t = false) ∨ ((VT.d t).k ≠ 3 ∧ (VT.d t).k = 4 ∧ aloneT t = true) ∨ ((VT.d t).k ≠ 3 ∧ (VT.d t).k = 4 ∧ aloneT t = false) := by
  by_cases h3 : (VT.d t).k = 3
  · cases h : aloneT t
    · exact .inr (.inr (.inl ⟨h3, rfl⟩))
    · exact .inr (.inl ⟨h3, rfl⟩)
  · by_cases h4 : (VT.d t).k = 4
    · cases h : aloneT t
      · exact .inr (.inr (.inr (.inr ⟨h3, h4, rfl⟩)))
      · exact .inr (.inr (.inr (.inl ⟨h3, h4, rfl⟩)))
    · exact .inl ⟨h3, h4⟩
section
variable {need : List (Tmp × FD)} {d : Option Tmp} {ty : TypeId} {pos : String} {af : Array Edge} {g : Option (Nat × Bool)} {x : Operand}
end
/-- The number that a value is. -/
noncomputable def numT (t : VT) : NV := if (VT.d t).k = 3 then .int (sI (VT.d t).ng (val 4294967296 (VT.d t).xs)) else .flt (VT.d t).b
theorem rest_true {n b x : Int} {tt : ByteArray} {kn : Nat} (h : restB n b x tt kn = true) : n = 0 ∧ b = 0 ∧ x = 0 ∧ tt = ⟨#[]⟩ ∧ kn = 0 := by
  rcases rest_cases n b x tt kn with ⟨_, e⟩ | ⟨_, _, e⟩ | ⟨_, _, _, e⟩ | ⟨_, _, _, _, e⟩ | ⟨_, _, _, _, _, e⟩ | ⟨h1, h2, h3, h4, h5, _⟩
  · rw [h] at e; cases e
  · rw [h] at e; cases e
  · rw [h] at e; cases e
  · rw [h] at e; cases e
  · rw [h] at e; cases e
  · exact ⟨h1, h2, h3, h4, h5⟩
theorem num_ok {t : VT} (hk : (VT.d t).k = 3 ∨ (VT.d t).k = 4) (hb : 0 ≤ (VT.d t).b ∧ (VT.d t).b < 18446744073709551616) (hg : aloneT t = true) : okNV (numT t) := by
  unfold numT
  by_cases h3 : (VT.d t).k = 3
  · rw [if_pos h3]; trivial
  · rw [if_neg h3]
    unfold aloneT at hg
    rw [if_neg h3, Bool.and_eq_true, Bool.and_eq_true, Bool.and_eq_true] at hg
    exact ⟨hb, hg.1.1.1⟩
theorem norm_of_last {xs : List Int} (h : xs.length = 0 ∨ (0 < xs.length ∧ xs[xs.length - 1]?.getD 0 ≠ 0)) : norm xs = xs := by
  have := norm_stop xs xs.length (Nat.le_refl _) (fun j hj => by rw [List.getElem?_eq_none hj]; rfl) (h.imp id fun h => h.2)
  rwa [List.take_length] at this
theorem norm_of_normB {ng : Bool} {xs : List Int} (h : normB ng xs = true) : norm xs = xs := by
  unfold normB at h
  rw [Bool.or_eq_true, Bool.and_eq_true, Bool.and_eq_true, decide_eq_true_eq, decide_eq_true_eq, decide_eq_true_eq] at h
  exact norm_of_last (h.imp (fun h => h.1) id)
theorem dg_of_norm {xs : List Int} (d : Dig 4294967296 xs) (h : norm xs = xs) : dg 4294967296 (val 4294967296 xs) = xs := (norm_eq 4294967296 (by omega) d).symm.trans h
theorem val_pos_of_last {xs : List Int} (d : Dig 4294967296 xs) (h0 : 0 < xs.length) (h : xs[xs.length - 1]?.getD 0 ≠ 0) : 0 < val 4294967296 xs := by
  have hv0 := val_nonneg (show (0 : Int) < 4294967296 by omega) d
  rcases Int.lt_or_eq_of_le hv0 with h1 | h1
  · exact h1
  · have h2 := dg_of_norm d (norm_of_last (.inr ⟨h0, h⟩))
    rw [← h1, dg_zero] at h2
    rw [← h2] at h0
    exact absurd h0 (by decide)
theorem weakVANum {t : VT} (hk : (VT.d t).k = 3 ∨ (VT.d t).k = 4) (hg : aloneT t = true) (hW : Wn t) (v : Value) (w : World) (B : Bx) (h : (IsVA t).p v w B) : (IsNum (numT t)).p v w B := by
  have h1 : RdV w.heap.size w B t v := h.1
  obtain ⟨cs, rfl⟩ := h1.agg
  obtain ⟨ad, n, c, kd, rfl, _, ka, ⟨ke, kc, rfl, _⟩, hn, _⟩ := h1.open
  have hxl : (VT.d t).xs.length ≤ 1048576 := by
    cases hW with
    | mk d l q1 q2 q3 => exact q1
  have hl := ka.rds.len
  unfold numT
  unfold aloneT at hg
  by_cases h3 : (VT.d t).k = 3
  · rw [if_pos h3]
    rw [if_pos h3, Bool.and_eq_true] at hg
    obtain ⟨h4, h5, h6, h7, h8⟩ := rest_true hg.2
    rw [h3, h4, h5, h6, h7, h8]
    show (IsVal 3 0 (IsI (sI (VT.d t).ng (val 4294967296 (VT.d t).xs))) 0 0 ⟨#[]⟩ K0).p _ w B
    refine ⟨_, _, _, rfl, ⟨ad, n, c, ?_, ⟨ka.le, ?_⟩, by rw [lim_eq]; omega⟩, ke, kc, rfl⟩
    · have hg1 := hg.1
      unfold normB at hg1
      rw [Bool.or_eq_true, Bool.and_eq_true, Bool.and_eq_true, decide_eq_true_eq, decide_eq_true_eq, decide_eq_true_eq] at hg1
      congr 2
      congr 2
      have hv0 := val_nonneg (show (0 : Int) < 4294967296 by omega) ka.dig
      unfold sI
      cases hng : (VT.d t).ng with
      | false =>
        rw [decide_eq_false]
        simp only [Bool.false_eq_true, if_false]
        omega
      | true =>
        rw [hng] at hg1
        rw [decide_eq_true]
        simp only [if_true]
        rcases hg1 with hg1 | hg1
        · exact absurd hg1.2 (by decide)
        · have := val_pos_of_last ka.dig hg1.1 hg1.2
          omega
    · have hd : dg 4294967296 (((sI (VT.d t).ng (val 4294967296 (VT.d t).xs)).natAbs : Int)) = (VT.d t).xs := by
        have hv0 := val_nonneg (show (0 : Int) < 4294967296 by omega) ka.dig
        have e : (((sI (VT.d t).ng (val 4294967296 (VT.d t).xs)).natAbs : Int)) = val 4294967296 (VT.d t).xs := sI_abs _ _ hv0
        rw [e]
        exact dg_of_norm ka.dig (norm_of_normB hg.1)
      rw [hd]
      exact ka.rds
  · rw [if_neg h3]
    rw [if_neg h3, Bool.and_eq_true, Bool.and_eq_true, Bool.and_eq_true, decide_eq_true_eq] at hg
    obtain ⟨⟨⟨g1, g2⟩, g3⟩, g4⟩ := hg
    obtain ⟨h4, _, h6, h7, h8⟩ := rest_true g4
    have hng : (VT.d t).ng = false := by simpa using g2
    have hxs : (VT.d t).xs = [] := List.eq_nil_of_length_eq_zero g3
    rw [hk.resolve_left h3, h4, h6, h7, h8, hng]
    rw [hxs] at ka hl
    refine ⟨_, _, _, rfl, ⟨ad, n, c, rfl, ⟨ka.le, ?_⟩, by rw [← hl]; exact Nat.zero_le _⟩, ke, kc, rfl⟩
    show Rds w .u32 ad n (dg 4294967296 0)
    rw [dg_zero]
    exact ka.rds
theorem ConE.pre {P : Program} {f : FuncId} {D D' : VP} {R : VP} (h : ConE P f [D] R) (hw : ∀ v w B, D'.p v w B → D.p v w B) : ConE P f [D'] R :=
  ⟨h.enters, fun vs w B hB hE hV => by
    match vs, hV with
    | [v], ⟨h1, _⟩ => exact h.calls [v] w B hB hE ⟨hw _ _ _ h1, trivial⟩⟩
end Go.Proofs.YtoimhjcpeifegaaGreatDoor


/- VLives. (Printed by flow15.py.) -/
namespace Go.Proofs.YtoimhjcpeifegaaGreatDoor
open Go Go.RowKit

set_option maxRecDepth 20000 in
set_option maxHeartbeats 2000000 in
theorem con_lives15 : ConE Tryz.prog 33 [] (IsB true) := by
  refine f_enterE (N := 48) Tryz.ntmps33 (fun _ _ => by go_simp) Tryz.func33 rfl (by simp) ?_
  intro a0 w0 B0 H0
  replace H0 : St 48 w0 B0 a0 w0 B0 [(48, .val (EnvV))] [] := H0
  refine wp_seq ?_
  refine flow_region (dsts := [some 0]) (refs := [[]]) (outs := [.res 0, .pre 0]) (als := [false]) (posts := [.val (IsB false)])
    (out := [(0, .val (IsB false)), (48, .val (EnvV))]) (nb := []) H0 1 [] rfl (by kernel_rfl) rfl rfl ?_ ?_
  · refine .cons (.plain rfl (ok_assign (.lit))) ?_
    exact .nil
  clear H0
  intro a1 w1 B1 H1
  refine ops_done ?_
  refine then_normal ?_
  refine wp_seq ?_
  refine flow_region (dsts := [some 7, some 1]) (refs := [[.pre 1], []]) (outs := [.res 0, .res 1, .pre 0, .pre 1]) (als := [false, true]) (posts := [.val (IsNum (.flt 4609434218613702656)), .box 37 8 (IsVal 0 0 (IsI 0) 0 0 (⟨#[]⟩) (K0))])
    (out := [(7, .val (IsNum (.flt 4609434218613702656))), (1, .box 37 8 (IsVal 0 0 (IsI 0) 0 0 (⟨#[]⟩) (K0))), (0, .val (IsB false)), (48, .val (EnvV))]) (nb := [1]) H1 2 [2] rfl (by kernel_rfl) rfl rfl ?_ ?_
  · refine .cons (.plain rfl (ok_callE ((con_of16 15872 (by omega)).weak (fun v w B h => num_eq lives_of h)) 0 rfl (.cons (.lit) (.nil)))) ?_
    refine .cons (.plain rfl (ok_allocV)) ?_
    exact .nil
  clear H1 a1 w1 B1
  intro a2 w2 B2 H2
  simp only [List.cons_append, List.nil_append] at H2
  refine ops_one ?_
  refine store_op (l' := [(7, .val (IsNum (.flt 4609434218613702656))), (1, .box 37 8 (IsNum (.flt 4609434218613702656))), (0, .val (IsB false)), (48, .val (EnvV))]) 1 H2 rfl tyV rfl (.tmp 0 rfl) (shape_Val shape_I oneK0) shape_Num rfl rfl ?_
  clear H2 w2
  intro w3 H3
  refine ops_done ?_
  refine then_normal ?_
  refine wp_seq ?_
  refine flow_region (dsts := [some 9, some 10, some 11, some 12, some 8, some 13, some 14, some 15, some 2, some 3, some 4]) (refs := [[], [.res 0], [.res 1], [.res 2, .pre 3], [.res 3], [.res 4], [.res 4], [.res 4], [.res 5], [.res 6], [.res 7]]) (outs := [.res 8, .res 9, .res 10, .pre 1, .pre 2, .pre 3]) (als := [false, false, false, false, false, false, false, false, false, false, false]) (posts := [.val (IsC 65505), .val (IsI 65505), .val (IsNum (.int 65505)), .val (Tup [Lit (.int .i64 32), Lit (.int .u64 1199563008), IsB true]), .val (Tup [Lit (.int .i64 32), Lit (.int .u64 1199563008), IsB true]), .val (Lit (.int .i64 32)), .val (Lit (.int .u64 1199563008)), .val (IsB true), .val (Lit (.int .i64 32)), .val (Lit (.int .u64 1199563008)), .val (IsB true)])
    (out := [(2, .val (Lit (.int .i64 32))), (3, .val (Lit (.int .u64 1199563008))), (4, .val (IsB true)), (1, .box 37 8 (IsNum (.flt 4609434218613702656))), (0, .val (IsB false)), (48, .val (EnvV))]) (nb := []) H3 11 [] rfl (by kernel_rfl) rfl rfl ?_ ?_
  · refine .cons (.plain rfl (ok_dig1 (by omega) (.lit))) ?_
    refine .cons (.plain rfl (ok_buildI1 (.tmp 0 rfl))) ?_
    refine .cons (.plain rfl (ok_buildVI (k := 3) (.lit) (.tmp 0 rfl) shape_I)) ?_
    refine .cons (.plain rfl (ok_callE ((con_narrow (.int 65505) trivial).weak (fun v w B h => by rw [lives_bits, lives_narrow] at h; exact h)) 1 rfl (.cons (.tmp 0 rfl) (.nil)))) ?_
    refine .cons (.plain rfl (ok_move (.tmp 0 rfl))) ?_
    refine .cons (.plain rfl (ok_extract 0 (.tmp 0 rfl) rfl)) ?_
    refine .cons (.plain rfl (ok_extract 1 (.tmp 0 rfl) rfl)) ?_
    refine .cons (.plain rfl (ok_extract 2 (.tmp 0 rfl) rfl)) ?_
    refine .cons (.plain rfl (ok_assign (.tmp 0 rfl))) ?_
    refine .cons (.plain rfl (ok_assign (.tmp 0 rfl))) ?_
    refine .cons (.plain rfl (ok_assign (.tmp 0 rfl))) ?_
    exact .nil
  clear H3 a2 w3 B2
  intro a4 w4 B4 H4
  refine ops_done ?_
  refine then_normal ?_
  refine wp_seq ?_
  refine flow_drawT (dsts := [some 17, some 18, some 19, some 16, some 20, some 21, some 5, some 6]) (refs := [[.pre 5], [.pre 3], [.res 0, .res 1, .pre 5], [.res 2], [.res 3], [.res 3], [.res 4], [.res 5]]) (outs := [.res 6, .res 7, .pre 0, .pre 1, .pre 2, .pre 3, .pre 4, .pre 5]) (als := [false, false, false, false, false, false, false, false]) (posts := [.val (IsNum (.int 1)), .val (IsNum (.flt 4609434218613702656)), .val (Tup [Lit (.int .i64 (-1)), IsB true]), .val (Tup [Lit (.int .i64 (-1)), IsB true]), .val (Lit (.int .i64 (-1))), .val (IsB true), .val (Lit (.int .i64 (-1))), .val (IsB true)])
    (out := [(5, .val (Lit (.int .i64 (-1)))), (6, .val (IsB true)), (2, .val (Lit (.int .i64 32))), (3, .val (Lit (.int .u64 1199563008))), (4, .val (IsB true)), (1, .box 37 8 (IsNum (.flt 4609434218613702656))), (0, .val (IsB false)), (48, .val (EnvV))]) (nb := []) H4 (by kernel_rfl) 8 0 #[true, true, true, true, true, true, true, true] (by kernel_rfl) (by kernel_rfl) rfl rfl ?_ ?_
  · refine .cons (.plain rfl (ok_callE ((con_of32 1065353216 (by omega)).weak (fun v w B h => num_eq lives_of1 h)) 0 rfl (.cons (.lit) (.nil)))) ?_
    refine .cons (.plain rfl (ok_load tyV (.tmp 0 rfl))) ?_
    refine .cons (.plain rfl (ok_callE ((con_ncmpL (.int 1) (.flt 4609434218613702656) trivial lives_ok 1 rfl 4609434218613702656 lives_what (by omega) (by decide)).weak (fun v w B h => by rw [lives_cmp] at h; exact h)) 2 rfl (.cons (.tmp 0 rfl) (.cons (.tmp 1 rfl) (.nil))))) ?_
    refine .cons (.plain rfl (ok_move (.tmp 0 rfl))) ?_
    refine .cons (.plain rfl (ok_extract 0 (.tmp 0 rfl) rfl)) ?_
    refine .cons (.plain rfl (ok_extract 1 (.tmp 0 rfl) rfl)) ?_
    refine .cons (.plain rfl (ok_assign (.tmp 0 rfl))) ?_
    refine .cons (.plain rfl (ok_assign (.tmp 0 rfl))) ?_
    exact .nil
  clear H4 a4 w4 B4
  intro a5 w5 B5 H5
  refine any_done (by kernel_rfl) ?_
  refine then_normal ?_
  refine wp_seq ?_
  refine flow_region (dsts := [some 22, some 23, some 24, some 25, some 26, some 27, some 28, some 29, some 30, some 31, some 32, some 33, some 34, some 35, some 36, some 37, some 38, some 39, some 40, some 41, some 42, some 43, some 44, some 45, some 46, some 47, some 0]) (refs := [[.pre 5], [.res 0], [.res 1], [.res 2], [.res 3, .pre 5], [.res 3, .res 4], [.res 3, .res 5], [.res 3, .res 6], [.res 7], [.res 8, .pre 4], [.res 8, .res 9], [.res 10], [.res 11, .pre 2], [.res 11, .res 12], [.res 11, .res 13], [.res 14], [.res 15, .pre 3], [.res 15, .res 16], [.res 15, .res 17], [.res 18], [.res 19, .pre 0], [.res 19, .res 20], [.res 19, .res 21], [.res 22], [.res 23, .pre 1], [.res 23, .res 24], [.res 25]]) (outs := [.res 26, .pre 7]) (als := [false, false, false, false, false, false, false, false, false, false, false, false, false, false, false, false, false, false, false, false, false, false, false, false, false, false, false]) (posts := [.ptr 37 8 (IsNum (.flt 4609434218613702656)) 0, .val (Lit (.int .i8 4)), .val (IsB true), .val (IsB true), .ptr 37 8 (IsNum (.flt 4609434218613702656)) 4, .val (Lit (.int .u64 4609434218613702656)), .val (IsB true), .val (IsB true), .val (IsB true), .val (IsB true), .val (IsB true), .val (IsB true), .val (Lit (.int .i64 32)), .val (IsB true), .val (IsB true), .val (IsB true), .val (Lit (.int .u64 1199563008)), .val (IsB true), .val (IsB true), .val (IsB true), .val (Lit (.int .i64 (-1))), .val (IsB true), .val (IsB true), .val (IsB true), .val (IsB true), .val (IsB true), .val (IsB true)])
    (out := [(0, .val (IsB true)), (48, .val (EnvV))]) (nb := []) H5 27 [] rfl (by kernel_rfl) rfl rfl ?_ ?_
  · refine .cons (.plain rfl (ok_addrV0 (.tmp 0 rfl))) ?_
    refine .cons (.plain rfl (ok_loadV0 (.tmp 0 rfl))) ?_
    refine .cons (.plain rfl (ok_cmp (b := true) (.tmp 0 rfl) (.lit) (by decide))) ?_
    refine .cons (.plain rfl (ok_move (.tmp 0 rfl))) ?_
    refine .cons (.wanted 3 true rfl rfl rfl 0 rfl (ok_addrV3 (.tmp 1 rfl))) ?_
    refine .cons (.wanted 3 true rfl rfl rfl 0 rfl (ok_loadV3 (.tmp 1 rfl))) ?_
    refine .cons (.wanted 3 true rfl rfl rfl 0 rfl (ok_cmp (b := true) (.tmp 1 rfl) (.lit) (by decide))) ?_
    refine .cons (.plain rfl (ok_pickT (.tmp 0 rfl) (.tmp 1 rfl))) ?_
    refine .cons (.plain rfl (ok_move (.tmp 0 rfl))) ?_
    refine .cons (.wanted 8 true rfl rfl rfl 0 rfl (ok_move (.tmp 1 rfl))) ?_
    refine .cons (.plain rfl (ok_pickT (.tmp 0 rfl) (.tmp 1 rfl))) ?_
    refine .cons (.plain rfl (ok_move (.tmp 0 rfl))) ?_
    refine .cons (.wanted 11 true rfl rfl rfl 0 rfl (ok_move (.tmp 1 rfl))) ?_
    refine .cons (.wanted 11 true rfl rfl rfl 0 rfl (ok_cmp (b := true) (.tmp 1 rfl) (.lit) (by decide))) ?_
    refine .cons (.plain rfl (ok_pickT (.tmp 0 rfl) (.tmp 1 rfl))) ?_
    refine .cons (.plain rfl (ok_move (.tmp 0 rfl))) ?_
    refine .cons (.wanted 15 true rfl rfl rfl 0 rfl (ok_move (.tmp 1 rfl))) ?_
    refine .cons (.wanted 15 true rfl rfl rfl 0 rfl (ok_cmp (b := true) (.tmp 1 rfl) (.lit) (by decide))) ?_
    refine .cons (.plain rfl (ok_pickT (.tmp 0 rfl) (.tmp 1 rfl))) ?_
    refine .cons (.plain rfl (ok_move (.tmp 0 rfl))) ?_
    refine .cons (.wanted 19 true rfl rfl rfl 0 rfl (ok_move (.tmp 1 rfl))) ?_
    refine .cons (.wanted 19 true rfl rfl rfl 0 rfl (ok_cmp (b := true) (.tmp 1 rfl) (.lit) (by decide))) ?_
    refine .cons (.plain rfl (ok_pickT (.tmp 0 rfl) (.tmp 1 rfl))) ?_
    refine .cons (.plain rfl (ok_move (.tmp 0 rfl))) ?_
    refine .cons (.wanted 23 true rfl rfl rfl 0 rfl (ok_move (.tmp 1 rfl))) ?_
    refine .cons (.plain rfl (ok_pickT (.tmp 0 rfl) (.tmp 1 rfl))) ?_
    refine .cons (.plain rfl (ok_assign (.tmp 0 rfl))) ?_
    exact .nil
  clear H5 a5 w5 B5
  intro a6 w6 B6 H6
  refine ops_done ?_
  refine then_normal ?_
  refine wp_ret ?_
  exact f_ret H6 rfl 0 rfl (fun _ _ _ h => h)

set_option maxRecDepth 20000 in
set_option maxHeartbeats 2000000 in
theorem con_nan15 (x : Int) (hx : 0 ≤ x ∧ x < 18446744073709551616) : ConE Tryz.prog 38 [Lit (.int .u64 x)] (IsB (isNaN 64 x)) := by
  refine f_enterE (N := 6) Tryz.ntmps38 (fun _ _ => by go_simp) Tryz.func38 rfl (by simp) ?_
  intro a0 w0 B0 H0
  replace H0 : St 6 w0 B0 a0 w0 B0 [(0, .val (Lit (.int .u64 x))), (6, .val (EnvV))] [] := H0
  refine wp_seq ?_
  refine flow_region (dsts := [some 2]) (refs := [[]]) (outs := [.res 0, .pre 0, .pre 1]) (als := [false]) (posts := [.val (IsB false)])
    (out := [(2, .val (IsB false)), (0, .val (Lit (.int .u64 x))), (6, .val (EnvV))]) (nb := []) H0 1 [] rfl (by kernel_rfl) rfl rfl ?_ ?_
  · refine .cons (.plain rfl (ok_assign (.lit))) ?_
    exact .nil
  clear H0
  intro a1 w1 B1 H1
  refine ops_done ?_
  refine then_normal ?_
  refine wp_seq ?_
  refine flow_region (dsts := [some 3, some 4, some 5, some 2]) (refs := [[.pre 1], [.res 0, .pre 2], [.res 1], [.res 2]]) (outs := [.res 3, .pre 2]) (als := [false, false, false, false]) (posts := [.val (Lit (.int .u64 x)), .val (Lit (.int .i8 (clsW 64 x))), .val (IsB (decide (clsW 64 x = 5))), .val (IsB (decide (clsW 64 x = 5)))])
    (out := [(2, .val (IsB (decide (clsW 64 x = 5)))), (6, .val (EnvV))]) (nb := []) H1 4 [] rfl (by kernel_rfl) rfl rfl ?_ ?_
  · refine .cons (.plain rfl (ok_move (.tmp 0 rfl))) ?_
    refine .cons (.plain rfl (ok_callE (con_class64 x hx) 1 rfl (.cons (.tmp 0 rfl) (.nil)))) ?_
    refine .cons (.plain rfl (ok_cmp (.tmp 0 rfl) (.lit) rfl)) ?_
    refine .cons (.plain rfl (ok_assign (.tmp 0 rfl))) ?_
    exact .nil
  clear H1 a1 w1 B1
  intro a2 w2 B2 H2
  refine ops_done ?_
  refine then_normal ?_
  refine wp_ret ?_
  exact f_ret H2 rfl 0 rfl (fun v w B h => by refine isB_e ?_ h; rw [← nan_cls]; by_cases c : clsW 64 x = 5 <;> simp [c])
end Go.Proofs.YtoimhjcpeifegaaGreatDoor


/- Whole numbers and patterns in order: plain. -/
set_option maxRecDepth 50000
namespace Go.Proofs.YtoimhjcpeifegaaGreatDoor
open Go Go.RowKit

theorem cmpI_pos (a b P : Int) (hP : 0 < P) : cmpI (a * P) (b * P) = cmpI a b := by
  rcases Int.lt_trichotomy a b with h | h | h
  · rw [cmpI_lt h, cmpI_lt (Int.mul_lt_mul_of_pos_right h hP)]
  · rw [h]; unfold cmpI; simp
  · rw [cmpI_gt h, cmpI_gt (Int.mul_lt_mul_of_pos_right h hP)]
/-- Two finite numbers by least steps. -/
theorem cmpFin_key (m e n f : Int) (he : -1074 ≤ e) (hf : -1074 ≤ f) : cmpFin m e n f = cmpI (m * 2 ^ (e + 1074).toNat) (n * 2 ^ (f + 1074).toNat) := by
  unfold cmpFin
  rcases Int.lt_or_le f e with h | h
  · rw [if_pos (show 0 < e - f by omega), if_neg (show ¬ 0 < f - e by omega)]
    have hP : (0 : Int) < 2 ^ (f + 1074).toNat := Int.pow_pos (by omega)
    rw [show (e + 1074).toNat = (e - f).toNat + (f + 1074).toNat by omega, Int.pow_add, ← Int.mul_assoc, cmpI_pos _ _ _ hP]
    simp
  · have hP : (0 : Int) < 2 ^ (e + 1074).toNat := Int.pow_pos (by omega)
    rw [if_neg (show ¬ 0 < e - f by omega)]
    by_cases h2 : 0 < f - e
    · rw [if_pos h2, show (f + 1074).toNat = (f - e).toNat + (e + 1074).toNat by omega, Int.pow_add, ← Int.mul_assoc, cmpI_pos _ _ _ hP]
      simp
    · obtain rfl : f = e := by omega
      rw [if_neg h2, cmpI_pos _ _ _ hP]
      simp
def keyF (b : Int) : Int := sI (pNeg 64 b) (pM 64 b) * 2 ^ (pE 64 b + 1074).toNat
/-- What the number of a pattern of 64 bits may be. -/
theorem of_cases (b : Int) (hb : 0 ≤ b ∧ b < 18446744073709551616) :
    (isNaN 64 b = true ∧ ofV 64 b = .flt 9221120237041090560 ∧ whatV (.flt 9221120237041090560) = .nothing 9221120237041090560) ∨
    (isNaN 64 b = false ∧ clsW 64 b = 4 ∧ ofV 64 b = .flt b ∧ whatV (.flt b) = .endless b) ∨
    (isNaN 64 b = false ∧ ∃ N, ofV 64 b = .int N) ∨
    (isNaN 64 b = false ∧ clsW 64 b ≠ 4 ∧ ofV 64 b = .flt b ∧ whatV (.flt b) = .broken b ∧ pOk 64 b = true ∧ pE 64 b < 0) := by
  by_cases hn : isNaN 64 b = true
  · refine .inl ⟨hn, ?_, ?_⟩
    · rcases p_cases b hb with ⟨h1, h2, h3⟩ | ⟨h1, h3⟩ | ⟨h1, h2, h3, h4⟩
      · exact h2
      · rw [hn] at h1; cases h1
      · rw [hn] at h1; cases h1
    · show oneF _ = _
      unfold oneF
      rw [if_neg (by decide), if_pos (by decide)]
  · have hn' : isNaN 64 b = false := by simpa using hn
    by_cases hi : intOk 64 b = true
    · exact .inr (.inr (.inl ⟨hn', _, of_yes hi⟩))
    · have hi' : intOk 64 b = false := by simpa using hi
      have ho : ofV 64 b = .flt b := by rw [of_no hi', to_self b hb hn']
      by_cases h2 : sizeW 64 b = infW 64
      · have hc := (cls_of (W := 64) b).2.1 h2
        refine .inr (.inl ⟨hn', hc, ho, ?_⟩)
        show oneF b = _
        unfold oneF
        rw [if_pos hc]
      · have h3 : pOk 64 b = true := by
          unfold isNaN at hn'
          have := of_decide_eq_false hn'
          exact decide_eq_true (by omega)
        obtain ⟨c1, c2⟩ := (cls_of (W := 64) b).2.2 h3
        refine .inr (.inr (.inr ⟨hn', c1, ho, ?_, h3, ?_⟩))
        · show oneF b = _
          unfold oneF
          rw [if_neg c1, if_neg c2]
        · unfold intOk at hi'
          rw [h3, Bool.true_and] at hi'
          have := of_decide_eq_false hi'
          omega
end Go.Proofs.YtoimhjcpeifegaaGreatDoor

