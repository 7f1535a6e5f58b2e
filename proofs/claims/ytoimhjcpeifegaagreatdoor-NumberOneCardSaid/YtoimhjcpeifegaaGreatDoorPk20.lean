/- Contracts of functions, and plain facts, part 20. -/
import Derived.LoopN
import Derived.Test.YtoimhjcpeifegaaGreatDoorPk19
set_option linter.unusedVariables false
set_option linter.unusedSimpArgs false
/- package value: is a number that may be one. -/
set_option maxRecDepth 50000
set_option maxHeartbeats 4000000
namespace Go.Proofs.YtoimhjcpeifegaaGreatDoor
open Go Go.RowKit

theorem alone_int (X : Int) (ad : Option Addr) (n c : Nat) (ka : Option Addr) (kc : Nat) (w : World) (h : Can w ad n c (X.natAbs : Int)) (hn : n ≤ 9223372036854775807) :
    Calls Tryz.prog 101 #[.agg #[.int .i8 3, .int .u64 0, .bool (decide (X < 0)), .slice ad n c, .int .u64 0, .int .i8 0, .string ⟨#[]⟩, .slice ka 0 kc]] w (fun e w' => e = .returned (.bool true) ∧ Below w.heap.size w w') := by
  have hl := h.rds.len
  have b1 : Below w.heap.size w (w.alloc (.cells #[.int .i8 3, .int .u64 0, .bool (decide (X < 0)), .slice ad n c, .int .u64 0, .int .i8 0, .string ⟨#[]⟩, .slice ka 0 kc] 37)) := (Below.refl _ _).alloc (Nat.le_refl _) _
  by_cases h0 : n = 0
  · have hV0 := (h.zero_iff (by omega)).1 h0
    have e : decide (X < 0) = false := decide_eq_false (by omega)
    rw [e]
    subst h0
    clear b1 hl h hV0 e
    go_enter Tryz.func101, Tryz.ntmps101
    go_wp2
    go_ret
    exact ⟨rfl, ((Below.refl _ _).alloc (Nat.le_refl _) _).alloc (by simp) _⟩
  · obtain ⟨k, rfl⟩ : ∃ k, n = k + 1 := ⟨n - 1, by omega⟩
    have hx := norm_last (b := 4294967296) (norm_dg 4294967296 (by omega) (X.natAbs : Int)) k hl
    obtain ⟨a, rfl, hc⟩ := h.rds.cell k (by omega)
    obtain ⟨x, hxx⟩ : ∃ x, (dg 4294967296 (X.natAbs : Int))[k]?.getD 0 = x := ⟨_, rfl⟩
    rw [hxx] at hx hc
    have hx1 : (x != 0) = true := by simpa using hx
    have hk1 : ((k : Int) + 1 == 0) = false := by simp; omega
    have hk2 : ((k : Int) + 1 - 1) = (k : Int) := by omega
    generalize decide (X < 0) = ng at *
    have hc2 : ((w.alloc (.cells #[.int .i8 3, .int .u64 0, .bool ng, .slice (some a) (k + 1) c, .int .u64 0, .int .i8 0, .string ⟨#[]⟩, .slice ka 0 kc] 37)).alloc (.cells #[.bool ng, .slice (some a) (k + 1) c] 34)).cell? (a.add k) = some (.int .u32 x) := by
      have hl1 := World.block_lt_of_cell? w _ hc
      refine (World.cell?_alloc_lt _ _ _ ?_).trans ((World.cell?_alloc_lt _ _ _ hl1).trans hc)
      simp
      omega
    clear hxx hx hl h0 h hc b1
    go_enter Tryz.func101, Tryz.ntmps101
    go_wp2
    go_ret
    exact ⟨rfl, ((Below.refl _ _).alloc (Nat.le_refl _) _).alloc (by simp) _⟩
theorem alone_flt (b : Int) (ad : Option Addr) (c : Nat) (ka : Option Addr) (kc : Nat) (w : World) (HF : ∀ w', Below w.heap.size w w' → Calls Tryz.prog 151 #[.int .u64 b] w' (fun e w2 => e = .returned (.bool true) ∧ Below w'.heap.size w' w2)) :
    Calls Tryz.prog 101 #[.agg #[.int .i8 4, .int .u64 0, .bool false, .slice ad 0 c, .int .u64 b, .int .i8 0, .string ⟨#[]⟩, .slice ka 0 kc]] w (fun e w' => e = .returned (.bool true) ∧ Below w.heap.size w w') := by
  have b0 : Below w.heap.size w (w.alloc (.cells #[.int .i8 4, .int .u64 0, .bool false, .slice ad 0 c, .int .u64 b, .int .i8 0, .string ⟨#[]⟩, .slice ka 0 kc] 37)) := (Below.refl _ _).alloc (Nat.le_refl _) _
  have k0 : Cel (w.alloc (.cells #[.int .i8 4, .int .u64 0, .bool false, .slice ad 0 c, .int .u64 b, .int .i8 0, .string ⟨#[]⟩, .slice ka 0 kc] 37)) w.heap.size 37 [.int .i8 4, .int .u64 0, .bool false, .slice ad 0 c, .int .u64 b, .int .i8 0, .string ⟨#[]⟩, .slice ka 0 kc] := Cel.made _ _ _ _ rfl
  have HP := Lib.hid (HF _ b0)
  clear HF
  go_enter Tryz.func101, Tryz.ntmps101
  go_wp2_with fail
  refine (HP.out).mono ?_
  rintro e w1 ⟨rfl, b1⟩
  have k1 := k0.next b1
  have b2 := below_trans b0 b1
  have c4 := k1.cell 4 _ rfl
  have g4 := k1.free 4
  have k2 := k1.set 4 (.int .u64 0)
  have d0 := k2.cell 0 _ rfl
  have d1 := k2.cell 1 _ rfl
  have d2 := k2.cell 2 _ rfl
  have d3 := k2.cell 3 _ rfl
  have d4 := k2.cell 4 _ rfl
  have d5 := k2.cell 5 _ rfl
  have d6 := k2.cell 6 _ rfl
  have d7 := k2.cell 7 _ rfl
  clear k0 k1 k2 HP b1
  go_wp2
  go_ret
  exact ⟨rfl, below_set b2 _ _ _ (Nat.le_refl _)⟩
/-- The number z, may it be, by itself. -/
theorem con_alone (z : NV) (hz : okNV z) : ConE Tryz.prog 101 [IsNum z] (IsB true) := by
  refine ⟨fun _ _ => by go_simp, fun vs w B hB hE hV => ?_⟩
  match vs, hV with
  | [v], ⟨h1, _⟩ =>
    cases z with
    | int X =>
      obtain ⟨p, q, kd, rfl, ⟨ad, n, c, e, hc, hl⟩, ⟨ka, kc, rfl⟩⟩ := h1
      injection e with e
      simp at e
      obtain ⟨rfl, rfl⟩ := e
      exact (alone_int X ad n c ka kc w hc (by have := lim_eq; omega)).mono fun e w' h => ⟨_, h.1, rfl, h.2⟩
    | flt b =>
      obtain ⟨p, q, kd, rfl, ⟨ad, n, c, e, hc, hl⟩, ⟨ka, kc, rfl⟩⟩ := h1
      injection e with e
      simp at e
      obtain ⟨rfl, rfl⟩ := e
      have hn : n = 0 := (hc.zero_iff (Int.natCast_nonneg _)).2 rfl
      subst hn
      refine (alone_flt b ad c ka kc w fun w' hb => ?_).mono fun e w' h => ⟨_, h.1, rfl, h.2⟩
      have hE2 := hE.mv (Bl.of_below B hb).mv
      refine ((con_vfloat b hz.1).calls [.int .u64 b] w' (fun _ => False) (fun _ h => h.elim) ⟨hE2.sh, hE2.tab, fun h => h⟩ ⟨rfl, trivial⟩).mono ?_
      rintro e w2 ⟨v, rfl, h, hb2⟩
      have h : v = .bool (fltB b) := h
      rw [hz.2] at h
      subst h
      exact ⟨rfl, hb2⟩
end Go.Proofs.YtoimhjcpeifegaaGreatDoor


/- VCheck2. (Printed by flow15.py.) -/
namespace Go.Proofs.YtoimhjcpeifegaaGreatDoor
open Go Go.RowKit

set_option maxRecDepth 20000 in
set_option maxHeartbeats 2000000 in
theorem con_check1 (z : NV) (hz : okNV z) (d : Int) : ConE Tryz.prog 100 [IsNum z, Lit (.int .i64 d)] (IsB false) := by
  refine f_enterE (N := 8) Tryz.ntmps100 (fun _ _ => by go_simp) Tryz.func100 rfl (by simp) ?_
  intro a0 w0 B0 H0
  replace H0 : St 8 w0 B0 a0 w0 B0 [(0, .val (IsNum z)), (1, .val (Lit (.int .i64 d))), (8, .val (EnvV))] [] := H0
  refine wp_seq ?_
  refine flow_region (dsts := [some 2, some 4]) (refs := [[.pre 0], []]) (outs := [.res 0, .res 1, .pre 2]) (als := [true, false]) (posts := [.box 37 8 (IsNum z), .val (IsB false)])
    (out := [(2, .box 37 8 (IsNum z)), (4, .val (IsB false)), (8, .val (EnvV))]) (nb := [2]) H0 2 [] rfl (by kernel_rfl) rfl rfl ?_ ?_
  · refine .cons (.plain rfl (ok_box (.tmp 0 rfl) shape_Num.two)) ?_
    refine .cons (.plain rfl (ok_assign (.lit))) ?_
    exact .nil
  clear H0
  intro a1 w1 B1 H1
  simp only [List.cons_append, List.nil_append] at H1
  refine ops_done ?_
  refine then_normal ?_
  refine wp_seq ?_
  refine flow_region (dsts := [some 5, some 6, some 7, some 4]) (refs := [[.pre 0], [.res 0, .pre 2], [.res 1], [.res 2]]) (outs := [.res 3, .pre 2]) (als := [false, false, false, false]) (posts := [.val (IsNum z), .val (IsB true), .val (IsB false), .val (IsB false)])
    (out := [(4, .val (IsB false)), (8, .val (EnvV))]) (nb := []) H1 4 [] rfl (by kernel_rfl) rfl rfl ?_ ?_
  · refine .cons (.plain rfl (ok_load tyV (.tmp 0 rfl))) ?_
    refine .cons (.plain rfl (ok_callE (con_alone (z) hz) 1 rfl (.cons (.tmp 0 rfl) (.nil)))) ?_
    refine .cons (.plain rfl (ok_not (b := true) (.tmp 0 rfl))) ?_
    refine .cons (.plain rfl (ok_assign (.tmp 0 rfl))) ?_
    exact .nil
  clear H1 a1 w1 B1
  intro a2 w2 B2 H2
  refine ops_done ?_
  refine then_normal ?_
  refine wp_ret ?_
  exact f_ret H2 rfl 0 rfl (fun _ _ _ h => h)

set_option maxRecDepth 20000 in
set_option maxHeartbeats 2000000 in
theorem con_check2 (z : NV) (d : Int) : Con Tryz.prog 102 [IsNum z, Lit (.int .i64 d)] (IsB false) := by
  refine f_enter (N := 11) Tryz.ntmps102 (fun _ _ => by go_simp) Tryz.func102 rfl (by simp) ?_
  intro a0 w0 B0 H0
  replace H0 : St 11 w0 B0 a0 w0 B0 [(0, .val (IsNum z)), (1, .val (Lit (.int .i64 d)))] [] := H0
  refine wp_seq ?_
  refine flow_region (dsts := [some 2, some 4]) (refs := [[.pre 0], []]) (outs := [.res 0, .res 1, .pre 1]) (als := [true, false]) (posts := [.box 37 8 (IsNum z), .val (IsB false)])
    (out := [(2, .box 37 8 (IsNum z)), (4, .val (IsB false)), (1, .val (Lit (.int .i64 d)))]) (nb := [2]) H0 2 [] rfl (by kernel_rfl) rfl rfl ?_ ?_
  · refine .cons (.plain rfl (ok_box (.tmp 0 rfl) shape_Num.two)) ?_
    refine .cons (.plain rfl (ok_assign (.lit))) ?_
    exact .nil
  clear H0
  intro a1 w1 B1 H1
  simp only [List.cons_append, List.nil_append] at H1
  refine ops_done ?_
  refine then_normal ?_
  refine wp_seq ?_
  refine flow_region (dsts := [some 5, some 6, some 7, some 8, some 9, some 10, some 4]) (refs := [[.pre 0], [.res 0], [.res 1], [.res 2], [.res 2], [.res 2], [.res 5]]) (outs := [.res 6]) (als := [false, false, false, false, false, false, false]) (posts := [.val (IsNum z), .val (IsB false), .val (IsB false), .val (IsUndef), .val (IsUndef), .val (IsB false), .val (IsB false)])
    (out := [(4, .val (IsB false))]) (nb := []) H1 7 [] rfl (by kernel_rfl) rfl rfl ?_ ?_
  · refine .cons (.plain rfl (ok_load tyV (.tmp 0 rfl))) ?_
    refine .cons (.plain rfl (ok_call (con_container z) (.cons (.tmp 0 rfl) (.nil)))) ?_
    refine .cons (.plain rfl (ok_move (.tmp 0 rfl))) ?_
    refine .cons (.unwanted 2 true rfl rfl rfl 0 rfl) ?_
    refine .cons (.unwanted 2 true rfl rfl rfl 0 rfl) ?_
    refine .cons (.plain rfl (ok_pickF (.tmp 0 rfl) (.lit))) ?_
    refine .cons (.plain rfl (ok_assign (.tmp 0 rfl))) ?_
    exact .nil
  clear H1 a1 w1 B1
  intro a2 w2 B2 H2
  refine ops_done ?_
  refine then_normal ?_
  refine wp_ret ?_
  exact f_ret H2 rfl 0 rfl (fun _ _ _ h => h)
end Go.Proofs.YtoimhjcpeifegaaGreatDoor


/- package value: the walk through a number's nodes, of which there is one. -/
set_option maxRecDepth 50000
set_option maxHeartbeats 4000000
namespace Go.Proofs.YtoimhjcpeifegaaGreatDoor
open Go Go.RowKit

/-- One visit: nothing is wrong, there are no kids. -/
theorem visit_calls (f : FuncId) (c0 c1 c4 c5 : Value) (c2 c3 c6 : Value) (ka : Option Addr) (kc : Nat) (bf : Nat) (p3 p4 : Value) (w : World)
    (hent : ∀ (vs : Array Value) (w : World), (callFunc f vs).run Tryz.prog w = .ok (.enter f vs) w) (hf : w.cell? ⟨bf, 0, none⟩ = some (.func (.func f) #[] #[]))
    (HW : ∀ w', Below w.heap.size w w' → Calls Tryz.prog f #[.agg #[c0, c1, c2, c3, c4, c5, c6, .slice ka 0 kc], .int .i64 0] w' (fun e w2 => e = .returned (.bool false) ∧ Below w'.heap.size w' w2))
    (HC : ∀ w', Below w.heap.size w w' → Calls Tryz.prog 103 #[.agg #[c0, c1, c2, c3, c4, c5, c6, .slice ka 0 kc]] w' (fun e w2 => e = .returned (.bool false) ∧ Below w'.heap.size w' w2)) :
    Calls Tryz.prog 146 #[.agg #[c0, c1, c2, c3, c4, c5, c6, .slice ka 0 kc], .int .i64 0, .pointer (some ⟨bf, 0, none⟩), p3, p4] w (fun e w' => e = .returned (.bool false) ∧ Below w.heap.size w w') := by
  have b0 : Below w.heap.size w (w.alloc (.cells #[c0, c1, c2, c3, c4, c5, c6, .slice ka 0 kc] 37)) := (Below.refl _ _).alloc (Nat.le_refl _) _
  have hfl : bf < w.heap.size := World.block_lt_of_cell? w _ hf
  have k0 : Cel (w.alloc (.cells #[c0, c1, c2, c3, c4, c5, c6, .slice ka 0 kc] 37)) w.heap.size 37 [c0, c1, c2, c3, c4, c5, c6, .slice ka 0 kc] := Cel.made _ _ _ _ rfl
  have hf0 : (w.alloc (.cells #[c0, c1, c2, c3, c4, c5, c6, .slice ka 0 kc] 37)).cell? ⟨bf, 0, none⟩ = some (.func (.func f) #[] #[]) := (World.cell?_alloc_lt _ _ _ hfl).trans hf
  have G1 := Lib.hid (HW _ b0)
  have G2 := Lib.hid HC
  clear HW HC
  go_enter Tryz.func146, Tryz.ntmps146
  go_wp2_with fail
  refine (G1.out).mono ?_
  rintro e w1 ⟨rfl, b1⟩
  have k1 := k0.next b1
  have b2 := below_trans b0 b1
  have c0' := k1.cell 0 _ rfl
  have c1' := k1.cell 1 _ rfl
  have c2' := k1.cell 2 _ rfl
  have c3' := k1.cell 3 _ rfl
  have c4' := k1.cell 4 _ rfl
  have c5' := k1.cell 5 _ rfl
  have c6' := k1.cell 6 _ rfl
  have c7' := k1.cell 7 _ rfl
  have G3 := Lib.hid (G2.out w1 b2)
  clear G1 G2 k0 b0 b1 hf0
  have K1 := Lib.hid k1
  clear k1
  go_wp2_with fail
  refine (G3.out).mono ?_
  rintro e w2 ⟨rfl, b3⟩
  have k2 := K1.out.next b3
  have b4 := below_trans b2 b3
  have d7' := k2.cell 7 _ rfl
  clear c0' c1' c2' c3' c4' c5' c6' c7' K1 k2 G3 b2 b3
  go_wp2_with fail
  refine wp_loop_rounds 1 ?_
  rw [rounds_succ]
  go_wp2
  go_ret
  exact ⟨rfl, b4⟩
theorem walk_calls (f : FuncId) (c0 c1 c4 c5 : Value) (c2 c3 c6 : Value) (ka : Option Addr) (kc : Nat) (w : World)
    (hent : ∀ (vs : Array Value) (w : World), (callFunc f vs).run Tryz.prog w = .ok (.enter f vs) w)
    (HW : ∀ w', Below w.heap.size w w' → Calls Tryz.prog f #[.agg #[c0, c1, c2, c3, c4, c5, c6, .slice ka 0 kc], .int .i64 0] w' (fun e w2 => e = .returned (.bool false) ∧ Below w'.heap.size w' w2))
    (HC : ∀ w', Below w.heap.size w w' → Calls Tryz.prog 103 #[.agg #[c0, c1, c2, c3, c4, c5, c6, .slice ka 0 kc]] w' (fun e w2 => e = .returned (.bool false) ∧ Below w'.heap.size w' w2)) :
    Calls Tryz.prog 99 #[.agg #[c0, c1, c2, c3, c4, c5, c6, .slice ka 0 kc], .func (.func f) #[] #[]] w (fun e w' => e = .returned (.tuple #[.string ⟨#[]⟩, .bool false]) ∧ Below w.heap.size w w') := by
  have hmf : ∀ (fn : Fn) (first cap : Array Value) (w : World), (Instr.makeFunc fn first cap).run Tryz.prog w = .ok (.func fn first cap) w := fun _ _ _ _ => rfl
  have b1 : Below w.heap.size w (w.alloc (.cells #[c0, c1, c2, c3, c4, c5, c6, .slice ka 0 kc] 37)) := (Below.refl _ _).alloc (Nat.le_refl _) _
  have b2 : Below w.heap.size w ((w.alloc (.cells #[c0, c1, c2, c3, c4, c5, c6, .slice ka 0 kc] 37)).alloc (.cells #[.func (.func f) #[] #[]] 140)) := b1.alloc (by simp) _
  have b3 : Below w.heap.size w (((w.alloc (.cells #[c0, c1, c2, c3, c4, c5, c6, .slice ka 0 kc] 37)).alloc (.cells #[.func (.func f) #[] #[]] 140)).alloc (.cells #[.slice none 0 0] 182)) := b2.alloc (by simp; omega) _
  have b5 : Below w.heap.size w ((((w.alloc (.cells #[c0, c1, c2, c3, c4, c5, c6, .slice ka 0 kc] 37)).alloc (.cells #[.func (.func f) #[] #[]] 140)).alloc (.cells #[.slice none 0 0] 182)).alloc (.cells #[.func (.func 146) #[] #[.pointer (some ⟨w.heap.size + 1, 0, none⟩), .pointer (some ⟨w.heap.size + 1 + 1, 0, none⟩), .pointer (some ⟨w.heap.size + 1 + 1 + 1, 0, none⟩)]] 140)) := b3.alloc (by simp; omega) _
  have k1 : Cel (w.alloc (.cells #[c0, c1, c2, c3, c4, c5, c6, .slice ka 0 kc] 37)) w.heap.size 37 [c0, c1, c2, c3, c4, c5, c6, .slice ka 0 kc] := Cel.made _ _ _ _ rfl
  have k2 : Cel ((w.alloc (.cells #[c0, c1, c2, c3, c4, c5, c6, .slice ka 0 kc] 37)).alloc (.cells #[.func (.func f) #[] #[]] 140)) (w.heap.size + 1) 140 [.func (.func f) #[] #[]] := Cel.made _ _ _ _ (by simp)
  have k4 : Cel ((((w.alloc (.cells #[c0, c1, c2, c3, c4, c5, c6, .slice ka 0 kc] 37)).alloc (.cells #[.func (.func f) #[] #[]] 140)).alloc (.cells #[.slice none 0 0] 182)).alloc (.cells #[.nilFunc] 140)) (w.heap.size + 1 + 1 + 1) 140 [.nilFunc] := Cel.made _ _ _ _ (by simp)
  have k5 : Cel ((((w.alloc (.cells #[c0, c1, c2, c3, c4, c5, c6, .slice ka 0 kc] 37)).alloc (.cells #[.func (.func f) #[] #[]] 140)).alloc (.cells #[.slice none 0 0] 182)).alloc (.cells #[.func (.func 146) #[] #[.pointer (some ⟨w.heap.size + 1, 0, none⟩), .pointer (some ⟨w.heap.size + 1 + 1, 0, none⟩), .pointer (some ⟨w.heap.size + 1 + 1 + 1, 0, none⟩)]] 140)) (w.heap.size + 1 + 1 + 1) 140 [.func (.func 146) #[] #[.pointer (some ⟨w.heap.size + 1, 0, none⟩), .pointer (some ⟨w.heap.size + 1 + 1, 0, none⟩), .pointer (some ⟨w.heap.size + 1 + 1 + 1, 0, none⟩)]] := Cel.made _ _ _ _ (by simp)
  have a1 : Cel ((((w.alloc (.cells #[c0, c1, c2, c3, c4, c5, c6, .slice ka 0 kc] 37)).alloc (.cells #[.func (.func f) #[] #[]] 140)).alloc (.cells #[.slice none 0 0] 182)).alloc (.cells #[.func (.func 146) #[] #[.pointer (some ⟨w.heap.size + 1, 0, none⟩), .pointer (some ⟨w.heap.size + 1 + 1, 0, none⟩), .pointer (some ⟨w.heap.size + 1 + 1 + 1, 0, none⟩)]] 140)) w.heap.size 37 [c0, c1, c2, c3, c4, c5, c6, .slice ka 0 kc] := ((k1.next ((Below.refl _ _).alloc (Nat.le_refl _) _)).next ((Below.refl _ _).alloc (Nat.le_refl _) _)).next ((Below.refl _ _).alloc (Nat.le_refl _) _)
  have a2 : Cel ((((w.alloc (.cells #[c0, c1, c2, c3, c4, c5, c6, .slice ka 0 kc] 37)).alloc (.cells #[.func (.func f) #[] #[]] 140)).alloc (.cells #[.slice none 0 0] 182)).alloc (.cells #[.func (.func 146) #[] #[.pointer (some ⟨w.heap.size + 1, 0, none⟩), .pointer (some ⟨w.heap.size + 1 + 1, 0, none⟩), .pointer (some ⟨w.heap.size + 1 + 1 + 1, 0, none⟩)]] 140)) (w.heap.size + 1) 140 [.func (.func f) #[] #[]] := (k2.next ((Below.refl _ _).alloc (Nat.le_refl _) _)).next ((Below.refl _ _).alloc (Nat.le_refl _) _)
  have g4 := k4.free 0
  have e4 := k4.cell 0 _ rfl
  have hst : (store ⟨w.heap.size + 1 + 1 + 1, 0, none⟩ (.func (.func 146) #[] #[.pointer (some ⟨w.heap.size + 1, 0, none⟩), .pointer (some ⟨w.heap.size + 1 + 1, 0, none⟩), .pointer (some ⟨w.heap.size + 1 + 1 + 1, 0, none⟩)]) .plain).run Tryz.prog ((((w.alloc (.cells #[c0, c1, c2, c3, c4, c5, c6, .slice ka 0 kc] 37)).alloc (.cells #[.func (.func f) #[] #[]] 140)).alloc (.cells #[.slice none 0 0] 182)).alloc (.cells #[.nilFunc] 140)) = .ok () (((((w.alloc (.cells #[c0, c1, c2, c3, c4, c5, c6, .slice ka 0 kc] 37)).alloc (.cells #[.func (.func f) #[] #[]] 140)).alloc (.cells #[.slice none 0 0] 182)).alloc (.cells #[.nilFunc] 140)).setCell ⟨w.heap.size + 1 + 1 + 1, 0, none⟩ (.func (.func 146) #[] #[.pointer (some ⟨w.heap.size + 1, 0, none⟩), .pointer (some ⟨w.heap.size + 1 + 1, 0, none⟩), .pointer (some ⟨w.heap.size + 1 + 1 + 1, 0, none⟩)])) := by
    rw [run_store _ _ _ _ .plain rfl, e4]
    simp [g4]
  have d1 := a1.cell 0 _ rfl
  have d2 := a1.cell 1 _ rfl
  have d3 := a1.cell 2 _ rfl
  have d4 := a1.cell 3 _ rfl
  have d5 := a1.cell 4 _ rfl
  have d6 := a1.cell 5 _ rfl
  have d7 := a1.cell 6 _ rfl
  have d8 := a1.cell 7 _ rfl
  have df := a2.cell 0 _ rfl
  have dc := k5.cell 0 _ rfl
  have G := Lib.hid (visit_calls f c0 c1 c4 c5 c2 c3 c6 ka kc (w.heap.size + 1) (.pointer (some ⟨w.heap.size + 1 + 1, 0, none⟩)) (.pointer (some ⟨w.heap.size + 1 + 1 + 1, 0, none⟩)) _ hent df (fun w' hb => HW w' (below_trans b5 hb)) (fun w' hb => HC w' (below_trans b5 hb)))
  have B5 := Lib.hid b5
  clear b1 b2 b3 b5 k1 k2 k4 a1 a2 k5 HW HC df
  have hcl : ∀ (vs : Array Value) (w : World), (callFunc 146 vs).run Tryz.prog w = .ok (.enter 146 vs) w := fun _ _ => by go_simp
  go_enter Tryz.func99, Tryz.ntmps99
  go_wp2_with fail
  refine (G.out).mono ?_
  rintro e w1 ⟨rfl, b6⟩
  have b7 := below_trans B5.out b6
  clear G B5 d1 d2 d3 d4 d5 d6 d7 d8 dc g4 e4 hst
  go_wp2_with fail
  go_ret2
  exact ⟨rfl, b7⟩
theorem check_calls (c0 c1 c4 c5 : Value) (c2 c3 c6 : Value) (ka : Option Addr) (kc : Nat) (w : World)
    (HW : ∀ w', Below w.heap.size w w' → Calls Tryz.prog 100 #[.agg #[c0, c1, c2, c3, c4, c5, c6, .slice ka 0 kc], .int .i64 0] w' (fun e w2 => e = .returned (.bool false) ∧ Below w'.heap.size w' w2))
    (HW2 : ∀ w', Below w.heap.size w w' → Calls Tryz.prog 102 #[.agg #[c0, c1, c2, c3, c4, c5, c6, .slice ka 0 kc], .int .i64 0] w' (fun e w2 => e = .returned (.bool false) ∧ Below w'.heap.size w' w2))
    (HC : ∀ w', Below w.heap.size w w' → Calls Tryz.prog 103 #[.agg #[c0, c1, c2, c3, c4, c5, c6, .slice ka 0 kc]] w' (fun e w2 => e = .returned (.bool false) ∧ Below w'.heap.size w' w2)) :
    Calls Tryz.prog 39 #[.agg #[c0, c1, c2, c3, c4, c5, c6, .slice ka 0 kc]] w (fun e w' => e = .returned .nilIface ∧ Below w.heap.size w w') := by
  have b1 : Below w.heap.size w (w.alloc (.cells #[c0, c1, c2, c3, c4, c5, c6, .slice ka 0 kc] 37)) := (Below.refl _ _).alloc (Nat.le_refl _) _
  have k1 : Cel (w.alloc (.cells #[c0, c1, c2, c3, c4, c5, c6, .slice ka 0 kc] 37)) w.heap.size 37 [c0, c1, c2, c3, c4, c5, c6, .slice ka 0 kc] := Cel.made _ _ _ _ rfl
  have G1 := Lib.hid (walk_calls 100 c0 c1 c4 c5 c2 c3 c6 ka kc _ (fun _ _ => by go_simp) (fun w' hb => HW w' (below_trans b1 hb)) (fun w' hb => HC w' (below_trans b1 hb)))
  have G2 := Lib.hid (fun w1 (h1 : Below w.heap.size w w1) => walk_calls 102 c0 c1 c4 c5 c2 c3 c6 ka kc w1 (fun _ _ => by go_simp) (fun w' hb => HW2 w' (below_trans h1 hb)) (fun w' hb => HC w' (below_trans h1 hb)))
  have K1 := Lib.hid k1
  clear k1 HW HW2 HC
  go_enter Tryz.func39, Tryz.ntmps39
  go_wp2_with fail
  refine (G1.out).mono ?_
  rintro e w1 ⟨rfl, b2⟩
  have b3 := below_trans b1 b2
  have k2 := K1.out.next b2
  have d1 := k2.cell 0 _ rfl
  have d2 := k2.cell 1 _ rfl
  have d3 := k2.cell 2 _ rfl
  have d4 := k2.cell 3 _ rfl
  have d5 := k2.cell 4 _ rfl
  have d6 := k2.cell 5 _ rfl
  have d7 := k2.cell 6 _ rfl
  have d8 := k2.cell 7 _ rfl
  have G3 := Lib.hid (G2.out w1 b3)
  clear G1 G2 K1 k2 b1 b2
  go_wp2_with fail
  refine (G3.out).mono ?_
  rintro e w2 ⟨rfl, b4⟩
  have b5 := below_trans b3 b4
  clear G3 d1 d2 d3 d4 d5 d6 d7 d8 b3 b4
  go_wp2_with fail
  go_ret
  exact ⟨rfl, b5⟩
/-- A number that may be is none that may not. -/
theorem con_vcheck (z : NV) (hz : okNV z) : ConE Tryz.prog 39 [IsNum z] (IsErr true) := by
  refine ⟨fun _ _ => by go_simp, fun vs w B hB hE hV => ?_⟩
  match vs, hV with
  | [v], ⟨h1, _⟩ =>
    have hst : ∀ w', Below w.heap.size w w' → EnvP w' (fun _ => False) ∧ (IsNum z).p v w' (fun _ => False) := fun w' hb => by
      have hE2 := hE.mv (Bl.of_below B hb).mv
      exact ⟨⟨hE2.sh, hE2.tab, fun h => h⟩, (IsNum z).st _ _ _ _ _ ⟨hb.size, fun k hk => .inl (hb.block k hk), fun _ _ h => h.elim⟩ h1⟩
    obtain ⟨p, q, kd, rfl, hI, ⟨ka, kc, rfl⟩⟩ := h1
    refine (check_calls _ _ _ _ _ _ _ ka kc w (fun w' hb => ?_) (fun w' hb => ?_) (fun w' hb => ?_)).mono fun e w' h => ⟨_, h.1, rfl, h.2⟩
    · refine ((con_check1 z hz 0).calls [_, _] w' (fun _ => False) (fun _ h => h.elim) (hst w' hb).1 ⟨(hst w' hb).2, rfl, trivial⟩).mono ?_
      rintro e w2 ⟨v, rfl, h, hb2⟩
      obtain rfl := h
      exact ⟨rfl, hb2⟩
    · refine ((con_check2 z 0).calls [_, _] w' (fun _ => False) (fun _ h => h.elim) ⟨(hst w' hb).2, rfl, trivial⟩).mono ?_
      rintro e w2 ⟨v, rfl, h, hb2⟩
      obtain rfl := h
      exact ⟨rfl, hb2⟩
    · refine ((con_container z).calls [_] w' (fun _ => False) (fun _ h => h.elim) ⟨(hst w' hb).2, trivial⟩).mono ?_
      rintro e w2 ⟨v, rfl, h, hb2⟩
      obtain rfl := h
      exact ⟨rfl, hb2⟩
end Go.Proofs.YtoimhjcpeifegaaGreatDoor

