/- Contracts of functions, and plain facts, part 40. -/
import Derived.Test.YtoimhjcpeifegaaGreatDoorPk15
import Derived.Test.YtoimhjcpeifegaaGreatDoorPk38
import Derived.Test.YtoimhjcpeifegaaGreatDoorPk39
set_option linter.unusedVariables false
set_option linter.unusedSimpArgs false
/- The bound of one number; a list of one limb. -/
set_option maxRecDepth 50000
namespace Go.Proofs.YtoimhjcpeifegaaGreatDoor
open Go Go.RowKit

def IsSl (n : Nat) : VP := ⟨fun v _ _ => ∃ ad c, v = .slice ad n c, fun _ _ _ _ _ _ h => h⟩
def PNats1 (n : Nat) (v : Value) (w : World) (B : Bx) : Prop := ∃ b c ad cc, v = .slice (some ⟨b, 0, none⟩) 1 c ∧ ¬ B b ∧ w.cell? ⟨b, 0, none⟩ = some (.slice ad n cc)
def IsNats1 (n : Nat) : VP := ⟨PNats1 n, fun v w B w' B' h ⟨b, c, ad, cc, e, hb, hc⟩ => ⟨b, c, ad, cc, e, (cell_st h hb hc).1, (cell_st h hb hc).2⟩⟩
section
variable {need : List (Tmp × FD)} {d : Option Tmp} {ty : TypeId} {pos : String} {af : Array Edge} {g : Option (Nat × Bool)} {x : Operand}
theorem ok_loadMagA {ng : Bool} {n : Nat} {xs : List Int} (h : Opd need x (.ptr 34 2 (IsArg ng n xs) 1)) : OpOk Tryz.prog ⟨d, .load 32 x, ty, pos, af, g⟩ need (.val (IsSl n)) false :=
  ok_loadPtr1 aggNat h (by decide) fun cs v w B ⟨ad, c, e, k⟩ hv => by
    injection e with e
    subst e
    simp at hv
    exact ⟨ad, c, hv.symm⟩
theorem ok_nats1 {n : Nat} (h : Opd need x (.val (IsSl n))) : OpOk Tryz.prog ⟨d, .buildSlice 144 1 #[(0, x)], ty, pos, af, g⟩ need (.val (IsNats1 n)) false := by
  intro Q K a w B hB hF hK
  obtain ⟨ad, c, e⟩ := h a w B hF
  have hbel : Below w.heap.size w (w.alloc (.cells #[.slice ad n c] 32)) := (Below.refl _ _).alloc (Nat.le_refl _) _
  have hr : (execOp a.eval ⟨d, .buildSlice 144 1 #[(0, x)], ty, pos, af, g⟩).run Tryz.prog w = .ok (.value (.slice (some ⟨w.heap.size, 0, none⟩) 1 1)) (w.alloc (.cells #[.slice ad n c] 32)) := by
    simp only [execOp, e, List.map_toArray, List.map_cons, List.map_nil]
    go_simp
  unfold Oper.wp
  rw [hr]
  refine hK _ _ B ⟨w.heap.size, 1, ad, c, rfl, fun hb => by have := hB _ hb; omega, ?_⟩ (Bl.of_below B hbel) hbel (fun k hk => Nat.lt_of_lt_of_le (hB k hk) hbel.size) (by simp)
  rw [cell_row (heap_alloc_new w _)]
  rfl
theorem ok_dig1 {i : Int} (hi : 0 < i ∧ i < 4294967296) (h : Opd need x (.val (Lit (.int .u32 i)))) : OpOk Tryz.prog ⟨d, .buildSlice 32 1 #[(0, x)], ty, pos, af, g⟩ need (.val (IsC i)) false := by
  intro Q K a w B hB hF hK
  have e : a.eval x = .int .u32 i := h a w B hF
  have hbel : Below w.heap.size w (w.alloc (.cells #[.int .u32 i] 23)) := (Below.refl _ _).alloc (Nat.le_refl _) _
  have hr : (execOp a.eval ⟨d, .buildSlice 32 1 #[(0, x)], ty, pos, af, g⟩).run Tryz.prog w = .ok (.value (.slice (some ⟨w.heap.size, 0, none⟩) 1 1)) (w.alloc (.cells #[.int .u32 i] 23)) := by
    simp only [execOp, e, List.map_toArray, List.map_cons, List.map_nil]
    go_simp
  have hdg : dg 4294967296 i = [i] := by
    rw [dg_pos 4294967296 i (by omega) hi.1, show i / ((4294967296 : Nat) : Int) = 0 by omega, dg_zero, show i % ((4294967296 : Nat) : Int) = i by omega]
  unfold Oper.wp
  rw [hr]
  refine hK _ _ B ⟨_, 1, 1, rfl, ⟨by omega, ?_⟩, by rw [lim_eq]; omega, by omega⟩ (Bl.of_below B hbel) hbel (fun k hk => Nat.lt_of_lt_of_le (hB k hk) hbel.size) (by simp)
  rw [hdg]
  refine ⟨rfl, fun j hj => ⟨_, rfl, ?_⟩⟩
  obtain rfl : j = 0 := by omega
  rw [plain_add, cell_row (heap_alloc_new w _)]
  rfl
end
theorem con_beyondNat1 (n : Nat) (hn : n ≤ 140737488355328) : Con Tryz.prog 40 [IsNats1 n] (IsIf True (n ≤ 1048576)) := by
  refine ⟨fun _ _ => by go_simp, fun vs w B hB hV => ?_⟩
  match vs, hV with
  | [v], ⟨h1, _⟩ =>
    obtain ⟨b, c, ad, cc, rfl, hb, hc⟩ := h1
    refine (beyond_calls b 1 c [n] (fun _ => (ad, cc)) w rfl (by omega) (fun j => by rcases j with _ | j <;> simp; exact hn) (fun j hj => by
      obtain rfl : j = 0 := by omega
      exact hc)).mono ?_
    rintro e w' ⟨r, rfl, rfl, hr⟩
    exact ⟨_, rfl, ⟨r, rfl, fun _ => trivial, fun h => by have := hr h; simp [parts] at this; omega⟩, Below.refl _ _⟩
end Go.Proofs.YtoimhjcpeifegaaGreatDoor

/- VLives. (Printed by flow15.py.) -/
namespace Go.Proofs.YtoimhjcpeifegaaGreatDoor
open Go Go.RowKit

set_option maxRecDepth 20000 in
set_option maxHeartbeats 2000000 in
theorem con_lives15 : ConE Tryz.prog 33 [] (IsB true) := by
  refine f_enterE (N := 48) Tryz.ntmps33 (fun _ _ => by go_simp) Tryz.func33 rfl (by simp) ?_
  intro a0 w0 B0 H0
  replace H0 : St 48 w0 B0 a0 w0 B0 [(48, .val (EnvV))] [] := H0
  refine wp_seq ?_
  refine flow_region (dsts := [some 0]) (refs := [[]]) (outs := [.res 0, .pre 0]) (als := [false]) (posts := [.val (IsB false)])
    (out := [(0, .val (IsB false)), (48, .val (EnvV))]) (nb := []) H0 1 [] rfl (by kernel_rfl) rfl rfl ?_ ?_
  · refine .cons (.plain rfl (ok_assign (.lit))) ?_
    exact .nil
  clear H0
  intro a1 w1 B1 H1
  refine ops_done ?_
  refine then_normal ?_
  refine wp_seq ?_
  refine flow_region (dsts := [some 7, some 1]) (refs := [[.pre 1], []]) (outs := [.res 0, .res 1, .pre 0, .pre 1]) (als := [false, true]) (posts := [.val (IsNum (.flt 4609434218613702656)), .box 37 8 (IsVal 0 0 (IsI 0) 0 0 (⟨#[]⟩) (K0))])
    (out := [(7, .val (IsNum (.flt 4609434218613702656))), (1, .box 37 8 (IsVal 0 0 (IsI 0) 0 0 (⟨#[]⟩) (K0))), (0, .val (IsB false)), (48, .val (EnvV))]) (nb := [1]) H1 2 [2] rfl (by kernel_rfl) rfl rfl ?_ ?_
  · refine .cons (.plain rfl (ok_callE ((con_of16 15872 (by omega)).weak (fun v w B h => num_eq lives_of h)) 0 rfl (.cons (.lit) (.nil)))) ?_
    refine .cons (.plain rfl (ok_allocV)) ?_
    exact .nil
  clear H1 a1 w1 B1
  intro a2 w2 B2 H2
  simp only [List.cons_append, List.nil_append] at H2
  refine ops_one ?_
  refine store_op (l' := [(7, .val (IsNum (.flt 4609434218613702656))), (1, .box 37 8 (IsNum (.flt 4609434218613702656))), (0, .val (IsB false)), (48, .val (EnvV))]) 1 H2 rfl tyV rfl (.tmp 0 rfl) (shape_Val shape_I oneK0) shape_Num rfl rfl ?_
  clear H2 w2
  intro w3 H3
  refine ops_done ?_
  refine then_normal ?_
  refine wp_seq ?_
  refine flow_region (dsts := [some 9, some 10, some 11, some 12, some 8, some 13, some 14, some 15, some 2, some 3, some 4]) (refs := [[], [.res 0], [.res 1], [.res 2, .pre 3], [.res 3], [.res 4], [.res 4], [.res 4], [.res 5], [.res 6], [.res 7]]) (outs := [.res 8, .res 9, .res 10, .pre 1, .pre 2, .pre 3]) (als := [false, false, false, false, false, false, false, false, false, false, false]) (posts := [.val (IsC 65505), .val (IsI 65505), .val (IsNum (.int 65505)), .val (Tup [Lit (.int .i64 32), Lit (.int .u64 1199563008), IsB true]), .val (Tup [Lit (.int .i64 32), Lit (.int .u64 1199563008), IsB true]), .val (Lit (.int .i64 32)), .val (Lit (.int .u64 1199563008)), .val (IsB true), .val (Lit (.int .i64 32)), .val (Lit (.int .u64 1199563008)), .val (IsB true)])
    (out := [(2, .val (Lit (.int .i64 32))), (3, .val (Lit (.int .u64 1199563008))), (4, .val (IsB true)), (1, .box 37 8 (IsNum (.flt 4609434218613702656))), (0, .val (IsB false)), (48, .val (EnvV))]) (nb := []) H3 11 [] rfl (by kernel_rfl) rfl rfl ?_ ?_
  · refine .cons (.plain rfl (ok_dig1 (by omega) (.lit))) ?_
    refine .cons (.plain rfl (ok_buildI1 (.tmp 0 rfl))) ?_
    refine .cons (.plain rfl (ok_buildVI (k := 3) (.lit) (.tmp 0 rfl) shape_I)) ?_
    refine .cons (.plain rfl (ok_callE ((con_narrow (.int 65505) trivial).weak (fun v w B h => by rw [lives_bits, lives_narrow] at h; exact h)) 1 rfl (.cons (.tmp 0 rfl) (.nil)))) ?_
    refine .cons (.plain rfl (ok_move (.tmp 0 rfl))) ?_
    refine .cons (.plain rfl (ok_extract 0 (.tmp 0 rfl) rfl)) ?_
    refine .cons (.plain rfl (ok_extract 1 (.tmp 0 rfl) rfl)) ?_
    refine .cons (.plain rfl (ok_extract 2 (.tmp 0 rfl) rfl)) ?_
    refine .cons (.plain rfl (ok_assign (.tmp 0 rfl))) ?_
    refine .cons (.plain rfl (ok_assign (.tmp 0 rfl))) ?_
    refine .cons (.plain rfl (ok_assign (.tmp 0 rfl))) ?_
    exact .nil
  clear H3 a2 w3 B2
  intro a4 w4 B4 H4
  refine ops_done ?_
  refine then_normal ?_
  refine wp_seq ?_
  refine flow_drawT (dsts := [some 17, some 18, some 19, some 16, some 20, some 21, some 5, some 6]) (refs := [[.pre 5], [.pre 3], [.res 0, .res 1, .pre 5], [.res 2], [.res 3], [.res 3], [.res 4], [.res 5]]) (outs := [.res 6, .res 7, .pre 0, .pre 1, .pre 2, .pre 3, .pre 4, .pre 5]) (als := [false, false, false, false, false, false, false, false]) (posts := [.val (IsNum (.int 1)), .val (IsNum (.flt 4609434218613702656)), .val (Tup [Lit (.int .i64 (-1)), IsB true]), .val (Tup [Lit (.int .i64 (-1)), IsB true]), .val (Lit (.int .i64 (-1))), .val (IsB true), .val (Lit (.int .i64 (-1))), .val (IsB true)])
    (out := [(5, .val (Lit (.int .i64 (-1)))), (6, .val (IsB true)), (2, .val (Lit (.int .i64 32))), (3, .val (Lit (.int .u64 1199563008))), (4, .val (IsB true)), (1, .box 37 8 (IsNum (.flt 4609434218613702656))), (0, .val (IsB false)), (48, .val (EnvV))]) (nb := []) H4 (by kernel_rfl) 8 0 #[true, true, true, true, true, true, true, true] (by kernel_rfl) (by kernel_rfl) rfl rfl ?_ ?_
  · refine .cons (.plain rfl (ok_callE ((con_of32 1065353216 (by omega)).weak (fun v w B h => num_eq lives_of1 h)) 0 rfl (.cons (.lit) (.nil)))) ?_
    refine .cons (.plain rfl (ok_load tyV (.tmp 0 rfl))) ?_
    refine .cons (.plain rfl (ok_callE ((con_ncmpL (.int 1) (.flt 4609434218613702656) trivial lives_ok 1 rfl 4609434218613702656 lives_what (by omega) (by decide)).weak (fun v w B h => by rw [lives_cmp] at h; exact h)) 2 rfl (.cons (.tmp 0 rfl) (.cons (.tmp 1 rfl) (.nil))))) ?_
    refine .cons (.plain rfl (ok_move (.tmp 0 rfl))) ?_
    refine .cons (.plain rfl (ok_extract 0 (.tmp 0 rfl) rfl)) ?_
    refine .cons (.plain rfl (ok_extract 1 (.tmp 0 rfl) rfl)) ?_
    refine .cons (.plain rfl (ok_assign (.tmp 0 rfl))) ?_
    refine .cons (.plain rfl (ok_assign (.tmp 0 rfl))) ?_
    exact .nil
  clear H4 a4 w4 B4
  intro a5 w5 B5 H5
  refine any_done (by kernel_rfl) ?_
  refine then_normal ?_
  refine wp_seq ?_
  refine flow_region (dsts := [some 22, some 23, some 24, some 25, some 26, some 27, some 28, some 29, some 30, some 31, some 32, some 33, some 34, some 35, some 36, some 37, some 38, some 39, some 40, some 41, some 42, some 43, some 44, some 45, some 46, some 47, some 0]) (refs := [[.pre 5], [.res 0], [.res 1], [.res 2], [.res 3, .pre 5], [.res 3, .res 4], [.res 3, .res 5], [.res 3, .res 6], [.res 7], [.res 8, .pre 4], [.res 8, .res 9], [.res 10], [.res 11, .pre 2], [.res 11, .res 12], [.res 11, .res 13], [.res 14], [.res 15, .pre 3], [.res 15, .res 16], [.res 15, .res 17], [.res 18], [.res 19, .pre 0], [.res 19, .res 20], [.res 19, .res 21], [.res 22], [.res 23, .pre 1], [.res 23, .res 24], [.res 25]]) (outs := [.res 26, .pre 7]) (als := [false, false, false, false, false, false, false, false, false, false, false, false, false, false, false, false, false, false, false, false, false, false, false, false, false, false, false]) (posts := [.ptr 37 8 (IsNum (.flt 4609434218613702656)) 0, .val (Lit (.int .i8 4)), .val (IsB true), .val (IsB true), .ptr 37 8 (IsNum (.flt 4609434218613702656)) 4, .val (Lit (.int .u64 4609434218613702656)), .val (IsB true), .val (IsB true), .val (IsB true), .val (IsB true), .val (IsB true), .val (IsB true), .val (Lit (.int .i64 32)), .val (IsB true), .val (IsB true), .val (IsB true), .val (Lit (.int .u64 1199563008)), .val (IsB true), .val (IsB true), .val (IsB true), .val (Lit (.int .i64 (-1))), .val (IsB true), .val (IsB true), .val (IsB true), .val (IsB true), .val (IsB true), .val (IsB true)])
    (out := [(0, .val (IsB true)), (48, .val (EnvV))]) (nb := []) H5 27 [] rfl (by kernel_rfl) rfl rfl ?_ ?_
  · refine .cons (.plain rfl (ok_addrV0 (.tmp 0 rfl))) ?_
    refine .cons (.plain rfl (ok_loadV0 (.tmp 0 rfl))) ?_
    refine .cons (.plain rfl (ok_cmp (b := true) (.tmp 0 rfl) (.lit) (by decide))) ?_
    refine .cons (.plain rfl (ok_move (.tmp 0 rfl))) ?_
    refine .cons (.wanted 3 true rfl rfl rfl 0 rfl (ok_addrV3 (.tmp 1 rfl))) ?_
    refine .cons (.wanted 3 true rfl rfl rfl 0 rfl (ok_loadV3 (.tmp 1 rfl))) ?_
    refine .cons (.wanted 3 true rfl rfl rfl 0 rfl (ok_cmp (b := true) (.tmp 1 rfl) (.lit) (by decide))) ?_
    refine .cons (.plain rfl (ok_pickT (.tmp 0 rfl) (.tmp 1 rfl))) ?_
    refine .cons (.plain rfl (ok_move (.tmp 0 rfl))) ?_
    refine .cons (.wanted 8 true rfl rfl rfl 0 rfl (ok_move (.tmp 1 rfl))) ?_
    refine .cons (.plain rfl (ok_pickT (.tmp 0 rfl) (.tmp 1 rfl))) ?_
    refine .cons (.plain rfl (ok_move (.tmp 0 rfl))) ?_
    refine .cons (.wanted 11 true rfl rfl rfl 0 rfl (ok_move (.tmp 1 rfl))) ?_
    refine .cons (.wanted 11 true rfl rfl rfl 0 rfl (ok_cmp (b := true) (.tmp 1 rfl) (.lit) (by decide))) ?_
    refine .cons (.plain rfl (ok_pickT (.tmp 0 rfl) (.tmp 1 rfl))) ?_
    refine .cons (.plain rfl (ok_move (.tmp 0 rfl))) ?_
    refine .cons (.wanted 15 true rfl rfl rfl 0 rfl (ok_move (.tmp 1 rfl))) ?_
    refine .cons (.wanted 15 true rfl rfl rfl 0 rfl (ok_cmp (b := true) (.tmp 1 rfl) (.lit) (by decide))) ?_
    refine .cons (.plain rfl (ok_pickT (.tmp 0 rfl) (.tmp 1 rfl))) ?_
    refine .cons (.plain rfl (ok_move (.tmp 0 rfl))) ?_
    refine .cons (.wanted 19 true rfl rfl rfl 0 rfl (ok_move (.tmp 1 rfl))) ?_
    refine .cons (.wanted 19 true rfl rfl rfl 0 rfl (ok_cmp (b := true) (.tmp 1 rfl) (.lit) (by decide))) ?_
    refine .cons (.plain rfl (ok_pickT (.tmp 0 rfl) (.tmp 1 rfl))) ?_
    refine .cons (.plain rfl (ok_move (.tmp 0 rfl))) ?_
    refine .cons (.wanted 23 true rfl rfl rfl 0 rfl (ok_move (.tmp 1 rfl))) ?_
    refine .cons (.plain rfl (ok_pickT (.tmp 0 rfl) (.tmp 1 rfl))) ?_
    refine .cons (.plain rfl (ok_assign (.tmp 0 rfl))) ?_
    exact .nil
  clear H5 a5 w5 B5
  intro a6 w6 B6 H6
  refine ops_done ?_
  refine then_normal ?_
  refine wp_ret ?_
  exact f_ret H6 rfl 0 rfl (fun _ _ _ h => h)

set_option maxRecDepth 20000 in
set_option maxHeartbeats 2000000 in
theorem con_nan15 (x : Int) (hx : 0 ≤ x ∧ x < 18446744073709551616) : ConE Tryz.prog 38 [Lit (.int .u64 x)] (IsB (isNaN 64 x)) := by
  refine f_enterE (N := 6) Tryz.ntmps38 (fun _ _ => by go_simp) Tryz.func38 rfl (by simp) ?_
  intro a0 w0 B0 H0
  replace H0 : St 6 w0 B0 a0 w0 B0 [(0, .val (Lit (.int .u64 x))), (6, .val (EnvV))] [] := H0
  refine wp_seq ?_
  refine flow_region (dsts := [some 2]) (refs := [[]]) (outs := [.res 0, .pre 0, .pre 1]) (als := [false]) (posts := [.val (IsB false)])
    (out := [(2, .val (IsB false)), (0, .val (Lit (.int .u64 x))), (6, .val (EnvV))]) (nb := []) H0 1 [] rfl (by kernel_rfl) rfl rfl ?_ ?_
  · refine .cons (.plain rfl (ok_assign (.lit))) ?_
    exact .nil
  clear H0
  intro a1 w1 B1 H1
  refine ops_done ?_
  refine then_normal ?_
  refine wp_seq ?_
  refine flow_region (dsts := [some 3, some 4, some 5, some 2]) (refs := [[.pre 1], [.res 0, .pre 2], [.res 1], [.res 2]]) (outs := [.res 3, .pre 2]) (als := [false, false, false, false]) (posts := [.val (Lit (.int .u64 x)), .val (Lit (.int .i8 (clsW 64 x))), .val (IsB (decide (clsW 64 x = 5))), .val (IsB (decide (clsW 64 x = 5)))])
    (out := [(2, .val (IsB (decide (clsW 64 x = 5)))), (6, .val (EnvV))]) (nb := []) H1 4 [] rfl (by kernel_rfl) rfl rfl ?_ ?_
  · refine .cons (.plain rfl (ok_move (.tmp 0 rfl))) ?_
    refine .cons (.plain rfl (ok_callE (con_class64 x hx) 1 rfl (.cons (.tmp 0 rfl) (.nil)))) ?_
    refine .cons (.plain rfl (ok_cmp (.tmp 0 rfl) (.lit) rfl)) ?_
    refine .cons (.plain rfl (ok_assign (.tmp 0 rfl))) ?_
    exact .nil
  clear H1 a1 w1 B1
  intro a2 w2 B2 H2
  refine ops_done ?_
  refine then_normal ?_
  refine wp_ret ?_
  exact f_ret H2 rfl 0 rfl (fun v w B h => by refine isB_e ?_ h; rw [← nan_cls]; by_cases c : clsW 64 x = 5 <;> simp [c])
end Go.Proofs.YtoimhjcpeifegaaGreatDoor
