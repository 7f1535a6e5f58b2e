/- Contracts of functions, and plain facts, part 34. -/
import Derived.LoopN
import Derived.Test.YtoimhjcpeifegaaGreatDoorPk31
import Derived.Test.YtoimhjcpeifegaaGreatDoorPk32
set_option linter.unusedVariables false
set_option linter.unusedSimpArgs false
/- package value: is a number that may be one. -/
set_option maxRecDepth 50000
set_option maxHeartbeats 4000000
namespace Go.Proofs.YtoimhjcpeifegaaGreatDoor
open Go Go.RowKit

theorem alone_int (X : Int) (ad : Option Addr) (n c : Nat) (ka : Option Addr) (kc : Nat) (w : World) (h : Can w ad n c (X.natAbs : Int)) (hn : n ≤ 9223372036854775807) :
    Calls Tryz.prog 101 #[.agg #[.int .i8 3, .int .u64 0, .bool (decide (X < 0)), .slice ad n c, .int .u64 0, .int .i8 0, .string ⟨#[]⟩, .slice ka 0 kc]] w (fun e w' => e = .returned (.bool true) ∧ Below w.heap.size w w') := by
  have hl := h.rds.len
  have b1 : Below w.heap.size w (w.alloc (.cells #[.int .i8 3, .int .u64 0, .bool (decide (X < 0)), .slice ad n c, .int .u64 0, .int .i8 0, .string ⟨#[]⟩, .slice ka 0 kc] 37)) := (Below.refl _ _).alloc (Nat.le_refl _) _
  by_cases h0 : n = 0
  · have hV0 := (h.zero_iff (by omega)).1 h0
    have e : decide (X < 0) = false := decide_eq_false (by omega)
    rw [e]
    subst h0
    clear b1 hl h hV0 e
    go_enter Tryz.func101, Tryz.ntmps101
    go_wp2
    go_ret
    exact ⟨rfl, ((Below.refl _ _).alloc (Nat.le_refl _) _).alloc (by simp) _⟩
  · obtain ⟨k, rfl⟩ : ∃ k, n = k + 1 := ⟨n - 1, by omega⟩
    have hx := norm_last (b := 4294967296) (norm_dg 4294967296 (by omega) (X.natAbs : Int)) k hl
    obtain ⟨a, rfl, hc⟩ := h.rds.cell k (by omega)
    obtain ⟨x, hxx⟩ : ∃ x, (dg 4294967296 (X.natAbs : Int))[k]?.getD 0 = x := ⟨_, rfl⟩
    rw [hxx] at hx hc
    have hx1 : (x != 0) = true := by simpa using hx
    have hk1 : ((k : Int) + 1 == 0) = false := by simp; omega
    have hk2 : ((k : Int) + 1 - 1) = (k : Int) := by omega
    generalize decide (X < 0) = ng at *
    have hc2 : ((w.alloc (.cells #[.int .i8 3, .int .u64 0, .bool ng, .slice (some a) (k + 1) c, .int .u64 0, .int .i8 0, .string ⟨#[]⟩, .slice ka 0 kc] 37)).alloc (.cells #[.bool ng, .slice (some a) (k + 1) c] 34)).cell? (a.add k) = some (.int .u32 x) := by
      have hl1 := World.block_lt_of_cell? w _ hc
      refine (World.cell?_alloc_lt _ _ _ ?_).trans ((World.cell?_alloc_lt _ _ _ hl1).trans hc)
      simp
      omega
    clear hxx hx hl h0 h hc b1
    go_enter Tryz.func101, Tryz.ntmps101
    go_wp2
    go_ret
    exact ⟨rfl, ((Below.refl _ _).alloc (Nat.le_refl _) _).alloc (by simp) _⟩
theorem alone_flt (b : Int) (ad : Option Addr) (c : Nat) (ka : Option Addr) (kc : Nat) (w : World) (HF : ∀ w', Below w.heap.size w w' → Calls Tryz.prog 151 #[.int .u64 b] w' (fun e w2 => e = .returned (.bool true) ∧ Below w'.heap.size w' w2)) :
    Calls Tryz.prog 101 #[.agg #[.int .i8 4, .int .u64 0, .bool false, .slice ad 0 c, .int .u64 b, .int .i8 0, .string ⟨#[]⟩, .slice ka 0 kc]] w (fun e w' => e = .returned (.bool true) ∧ Below w.heap.size w w') := by
  have b0 : Below w.heap.size w (w.alloc (.cells #[.int .i8 4, .int .u64 0, .bool false, .slice ad 0 c, .int .u64 b, .int .i8 0, .string ⟨#[]⟩, .slice ka 0 kc] 37)) := (Below.refl _ _).alloc (Nat.le_refl _) _
  have k0 : Cel (w.alloc (.cells #[.int .i8 4, .int .u64 0, .bool false, .slice ad 0 c, .int .u64 b, .int .i8 0, .string ⟨#[]⟩, .slice ka 0 kc] 37)) w.heap.size 37 [.int .i8 4, .int .u64 0, .bool false, .slice ad 0 c, .int .u64 b, .int .i8 0, .string ⟨#[]⟩, .slice ka 0 kc] := Cel.made _ _ _ _ rfl
  have HP := Lib.hid (HF _ b0)
  clear HF
  go_enter Tryz.func101, Tryz.ntmps101
  go_wp2_with fail
  refine (HP.out).mono ?_
  rintro e w1 ⟨rfl, b1⟩
  have k1 := k0.next b1
  have b2 := below_trans b0 b1
  have c4 := k1.cell 4 _ rfl
  have g4 := k1.free 4
  have k2 := k1.set 4 (.int .u64 0)
  have d0 := k2.cell 0 _ rfl
  have d1 := k2.cell 1 _ rfl
  have d2 := k2.cell 2 _ rfl
  have d3 := k2.cell 3 _ rfl
  have d4 := k2.cell 4 _ rfl
  have d5 := k2.cell 5 _ rfl
  have d6 := k2.cell 6 _ rfl
  have d7 := k2.cell 7 _ rfl
  clear k0 k1 k2 HP b1
  go_wp2
  go_ret
  exact ⟨rfl, below_set b2 _ _ _ (Nat.le_refl _)⟩
/-- The number z, may it be, by itself. -/
theorem con_alone (z : NV) (hz : okNV z) : ConE Tryz.prog 101 [IsNum z] (IsB true) := by
  refine ⟨fun _ _ => by go_simp, fun vs w B hB hE hV => ?_⟩
  match vs, hV with
  | [v], ⟨h1, _⟩ =>
    cases z with
    | int X =>
      obtain ⟨p, q, kd, rfl, ⟨ad, n, c, e, hc, hl⟩, ⟨ka, kc, rfl⟩⟩ := h1
      injection e with e
      simp at e
      obtain ⟨rfl, rfl⟩ := e
      exact (alone_int X ad n c ka kc w hc (by have := lim_eq; omega)).mono fun e w' h => ⟨_, h.1, rfl, h.2⟩
    | flt b =>
      obtain ⟨p, q, kd, rfl, ⟨ad, n, c, e, hc, hl⟩, ⟨ka, kc, rfl⟩⟩ := h1
      injection e with e
      simp at e
      obtain ⟨rfl, rfl⟩ := e
      have hn : n = 0 := (hc.zero_iff (Int.natCast_nonneg _)).2 rfl
      subst hn
      refine (alone_flt b ad c ka kc w fun w' hb => ?_).mono fun e w' h => ⟨_, h.1, rfl, h.2⟩
      have hE2 := hE.mv (Bl.of_below B hb).mv
      refine ((con_vfloat b hz.1).calls [.int .u64 b] w' (fun _ => False) (fun _ h => h.elim) ⟨hE2.sh, hE2.tab, fun h => h⟩ ⟨rfl, trivial⟩).mono ?_
      rintro e w2 ⟨v, rfl, h, hb2⟩
      have h : v = .bool (fltB b) := h
      rw [hz.2] at h
      subst h
      exact ⟨rfl, hb2⟩
end Go.Proofs.YtoimhjcpeifegaaGreatDoor


/- VCheck2. (Printed by flow15.py.) -/
namespace Go.Proofs.YtoimhjcpeifegaaGreatDoor
open Go Go.RowKit

set_option maxRecDepth 20000 in
set_option maxHeartbeats 2000000 in
theorem con_check1 (z : NV) (hz : okNV z) (d : Int) : ConE Tryz.prog 100 [IsNum z, Lit (.int .i64 d)] (IsB false) := by
  refine f_enterE (N := 8) Tryz.ntmps100 (fun _ _ => by go_simp) Tryz.func100 rfl (by simp) ?_
  intro a0 w0 B0 H0
  replace H0 : St 8 w0 B0 a0 w0 B0 [(0, .val (IsNum z)), (1, .val (Lit (.int .i64 d))), (8, .val (EnvV))] [] := H0
  refine wp_seq ?_
  refine flow_region (dsts := [some 2, some 4]) (refs := [[.pre 0], []]) (outs := [.res 0, .res 1, .pre 2]) (als := [true, false]) (posts := [.box 37 8 (IsNum z), .val (IsB false)])
    (out := [(2, .box 37 8 (IsNum z)), (4, .val (IsB false)), (8, .val (EnvV))]) (nb := [2]) H0 2 [] rfl (by kernel_rfl) rfl rfl ?_ ?_
  · refine .cons (.plain rfl (ok_box (.tmp 0 rfl) shape_Num.two)) ?_
    refine .cons (.plain rfl (ok_assign (.lit))) ?_
    exact .nil
  clear H0
  intro a1 w1 B1 H1
  simp only [List.cons_append, List.nil_append] at H1
  refine ops_done ?_
  refine then_normal ?_
  refine wp_seq ?_
  refine flow_region (dsts := [some 5, some 6, some 7, some 4]) (refs := [[.pre 0], [.res 0, .pre 2], [.res 1], [.res 2]]) (outs := [.res 3, .pre 2]) (als := [false, false, false, false]) (posts := [.val (IsNum z), .val (IsB true), .val (IsB false), .val (IsB false)])
    (out := [(4, .val (IsB false)), (8, .val (EnvV))]) (nb := []) H1 4 [] rfl (by kernel_rfl) rfl rfl ?_ ?_
  · refine .cons (.plain rfl (ok_load tyV (.tmp 0 rfl))) ?_
    refine .cons (.plain rfl (ok_callE (con_alone (z) hz) 1 rfl (.cons (.tmp 0 rfl) (.nil)))) ?_
    refine .cons (.plain rfl (ok_not (b := true) (.tmp 0 rfl))) ?_
    refine .cons (.plain rfl (ok_assign (.tmp 0 rfl))) ?_
    exact .nil
  clear H1 a1 w1 B1
  intro a2 w2 B2 H2
  refine ops_done ?_
  refine then_normal ?_
  refine wp_ret ?_
  exact f_ret H2 rfl 0 rfl (fun _ _ _ h => h)

set_option maxRecDepth 20000 in
set_option maxHeartbeats 2000000 in
theorem con_check2 (z : NV) (d : Int) : Con Tryz.prog 102 [IsNum z, Lit (.int .i64 d)] (IsB false) := by
  refine f_enter (N := 11) Tryz.ntmps102 (fun _ _ => by go_simp) Tryz.func102 rfl (by simp) ?_
  intro a0 w0 B0 H0
  replace H0 : St 11 w0 B0 a0 w0 B0 [(0, .val (IsNum z)), (1, .val (Lit (.int .i64 d)))] [] := H0
  refine wp_seq ?_
  refine flow_region (dsts := [some 2, some 4]) (refs := [[.pre 0], []]) (outs := [.res 0, .res 1, .pre 1]) (als := [true, false]) (posts := [.box 37 8 (IsNum z), .val (IsB false)])
    (out := [(2, .box 37 8 (IsNum z)), (4, .val (IsB false)), (1, .val (Lit (.int .i64 d)))]) (nb := [2]) H0 2 [] rfl (by kernel_rfl) rfl rfl ?_ ?_
  · refine .cons (.plain rfl (ok_box (.tmp 0 rfl) shape_Num.two)) ?_
    refine .cons (.plain rfl (ok_assign (.lit))) ?_
    exact .nil
  clear H0
  intro a1 w1 B1 H1
  simp only [List.cons_append, List.nil_append] at H1
  refine ops_done ?_
  refine then_normal ?_
  refine wp_seq ?_
  refine flow_region (dsts := [some 5, some 6, some 7, some 8, some 9, some 10, some 4]) (refs := [[.pre 0], [.res 0], [.res 1], [.res 2], [.res 2], [.res 2], [.res 5]]) (outs := [.res 6]) (als := [false, false, false, false, false, false, false]) (posts := [.val (IsNum z), .val (IsB false), .val (IsB false), .val (IsUndef), .val (IsUndef), .val (IsB false), .val (IsB false)])
    (out := [(4, .val (IsB false))]) (nb := []) H1 7 [] rfl (by kernel_rfl) rfl rfl ?_ ?_
  · refine .cons (.plain rfl (ok_load tyV (.tmp 0 rfl))) ?_
    refine .cons (.plain rfl (ok_call (con_container z) (.cons (.tmp 0 rfl) (.nil)))) ?_
    refine .cons (.plain rfl (ok_move (.tmp 0 rfl))) ?_
    refine .cons (.unwanted 2 true rfl rfl rfl 0 rfl) ?_
    refine .cons (.unwanted 2 true rfl rfl rfl 0 rfl) ?_
    refine .cons (.plain rfl (ok_pickF (.tmp 0 rfl) (.lit))) ?_
    refine .cons (.plain rfl (ok_assign (.tmp 0 rfl))) ?_
    exact .nil
  clear H1 a1 w1 B1
  intro a2 w2 B2 H2
  refine ops_done ?_
  refine then_normal ?_
  refine wp_ret ?_
  exact f_ret H2 rfl 0 rfl (fun _ _ _ h => h)
end Go.Proofs.YtoimhjcpeifegaaGreatDoor


/- package value: a node of a whole number's or a float's kind, whatever else it holds: may it be by itself. -/
set_option maxRecDepth 50000
set_option maxHeartbeats 4000000
namespace Go.Proofs.YtoimhjcpeifegaaGreatDoor
open Go Go.RowKit

/-- In normal form. -/
def normB (ng : Bool) (xs : List Int) : Bool := (decide (xs.length = 0) && !ng) || (decide (0 < xs.length) && decide (xs[xs.length - 1]?.getD 0 ≠ 0))
/-- A text is empty, or it is not. -/
theorem text_ne {tt : ByteArray} (h : tt ≠ ⟨#[]⟩) : ¬ tt.toList = [] := fun h2 => by
  have e : (⟨#[]⟩ : ByteArray).toList = [] := by simp
  exact h ((Lib.bytes_beq_iff _ _).1 (by rw [h2, e]; rfl))
def restB (n b x : Int) (tt : ByteArray) (kn : Nat) : Bool := decide (n = 0) && decide (b = 0) && decide (x = 0) && decide (tt = ⟨#[]⟩) && decide (kn = 0)
theorem rest_cases (n b x : Int) (tt : ByteArray) (kn : Nat) : (n ≠ 0 ∧ restB n b x tt kn = false) ∨ (n = 0 ∧ b ≠ 0 ∧ restB n b x tt kn = false) ∨ (n = 0 ∧ b = 0 ∧ x ≠ 0 ∧ restB n b x tt kn = false) ∨ (n = 0 ∧ b = 0 ∧ x = 0 ∧ tt ≠ ⟨#[]⟩ ∧ restB n b x tt kn = false) ∨
    (n = 0 ∧ b = 0 ∧ x = 0 ∧ tt = ⟨#[]⟩ ∧ kn ≠ 0 ∧ restB n b x tt kn = false) ∨ (n = 0 ∧ b = 0 ∧ x = 0 ∧ tt = ⟨#[]⟩ ∧ kn = 0 ∧ restB n b x tt kn = true) := by
  unfold restB
  by_cases h1 : n = 0
  · by_cases h2 : b = 0
    · by_cases h3 : x = 0
      · by_cases h4 : tt = ⟨#[]⟩
        · by_cases h5 : kn = 0
          · simp [h1, h2, h3, h4, h5]
          · simp [h1, h2, h3, h4, h5]
        · simp [h1, h2, h3, h4]
      · simp [h1, h2, h3]
    · simp [h1, h2]
  · simp [h1]
theorem alone3_gen (n b x : Int) (ng : Bool) (tt : ByteArray) (ad : Option Addr) (nn c : Nat) (xs : List Int) (ka : Option Addr) (kn kc : Nat) (w : World) (h : Arg w ad nn c xs) (hn : nn ≤ 9223372036854775807) :
    Calls Tryz.prog 101 #[.agg #[.int .i8 3, .int .u64 n, .bool ng, .slice ad nn c, .int .u64 b, .int .i8 x, .string tt, .slice ka kn kc]] w (fun e w' => e = .returned (.bool (normB ng xs && restB n b x tt kn)) ∧ Below w.heap.size w w') := by
  have hl := h.rds.len
  unfold normB
  have hkk : kn ≠ 0 → ((kn : Int) == 0) = false := fun h => by simp; omega
  by_cases h0 : nn = 0
  · subst h0
    obtain rfl := List.eq_nil_of_length_eq_zero hl
    clear hl h
    cases ng with
    | true =>
      go_enter Tryz.func101, Tryz.ntmps101
      go_wp2
      go_ret
      exact ⟨rfl, ((Below.refl _ _).alloc (Nat.le_refl _) _).alloc (by simp) _⟩
    | false =>
      rcases rest_cases n b x tt kn with ⟨h1, hr⟩ | ⟨rfl, h1, hr⟩ | ⟨rfl, rfl, h1, hr⟩ | ⟨rfl, rfl, rfl, h1, hr⟩ | ⟨rfl, rfl, rfl, rfl, h1, hr⟩ | ⟨rfl, rfl, rfl, rfl, rfl, hr⟩
      · have h2 : (n == 0) = false := by simpa using h1
        rw [hr]
        clear hr h1 hkk
        go_enter Tryz.func101, Tryz.ntmps101
        go_wp2
        go_ret
        exact ⟨rfl, ((Below.refl _ _).alloc (Nat.le_refl _) _).alloc (by simp) _⟩
      · have h2 : (b == 0) = false := by simpa using h1
        rw [hr]
        clear hr h1 hkk
        go_enter Tryz.func101, Tryz.ntmps101
        go_wp2
        go_ret
        exact ⟨rfl, ((Below.refl _ _).alloc (Nat.le_refl _) _).alloc (by simp) _⟩
      · have h2 : (x == 0) = false := by simpa using h1
        rw [hr]
        clear hr h1 hkk
        go_enter Tryz.func101, Tryz.ntmps101
        go_wp2
        go_ret
        exact ⟨rfl, ((Below.refl _ _).alloc (Nat.le_refl _) _).alloc (by simp) _⟩
      · have h2 := text_ne h1
        rw [hr]
        clear hr h1 hkk
        go_enter Tryz.func101, Tryz.ntmps101
        go_wp2
        go_ret
        exact ⟨rfl, ((Below.refl _ _).alloc (Nat.le_refl _) _).alloc (by simp) _⟩
      · have h2 := hkk h1
        rw [hr]
        clear hr h1 hkk
        go_enter Tryz.func101, Tryz.ntmps101
        go_wp2
        go_ret
        exact ⟨rfl, ((Below.refl _ _).alloc (Nat.le_refl _) _).alloc (by simp) _⟩
      · rw [hr]
        clear hr hkk
        go_enter Tryz.func101, Tryz.ntmps101
        go_wp2
        go_ret
        exact ⟨rfl, ((Below.refl _ _).alloc (Nat.le_refl _) _).alloc (by simp) _⟩
  · obtain ⟨k, rfl⟩ : ∃ k, nn = k + 1 := ⟨nn - 1, by omega⟩
    obtain ⟨a, rfl, hc⟩ := h.rds.cell k (by omega)
    obtain ⟨z, hxx⟩ : ∃ z, xs[k]?.getD 0 = z := ⟨_, rfl⟩
    rw [hl, Nat.add_sub_cancel, hxx]
    rw [hxx] at hc
    have hk1 : ((k : Int) + 1 == 0) = false := by simp; omega
    have hk2 : ((k : Int) + 1 - 1) = (k : Int) := by omega
    rw [decide_eq_false (show ¬ k + 1 = 0 by omega), decide_eq_true (show 0 < k + 1 by omega)]
    have hc2 : ((w.alloc (.cells #[.int .i8 3, .int .u64 n, .bool ng, .slice (some a) (k + 1) c, .int .u64 b, .int .i8 x, .string tt, .slice ka kn kc] 37)).alloc (.cells #[.bool ng, .slice (some a) (k + 1) c] 34)).cell? (a.add k) = some (.int .u32 z) := by
      have hl1 := World.block_lt_of_cell? w _ hc
      refine (World.cell?_alloc_lt _ _ _ ?_).trans ((World.cell?_alloc_lt _ _ _ hl1).trans hc)
      simp
      omega
    clear hxx hl h0 h hc
    by_cases hz : z = 0
    · have hz1 : (z != 0) = false := by simpa using hz
      rw [decide_eq_false (show ¬ z ≠ 0 by omega)]
      clear hz hkk
      go_enter Tryz.func101, Tryz.ntmps101
      go_wp2
      go_ret
      exact ⟨rfl, ((Below.refl _ _).alloc (Nat.le_refl _) _).alloc (by simp) _⟩
    · have hz1 : (z != 0) = true := by simpa using hz
      rw [decide_eq_true hz]
      clear hz
      rcases rest_cases n b x tt kn with ⟨h1, hr⟩ | ⟨rfl, h1, hr⟩ | ⟨rfl, rfl, h1, hr⟩ | ⟨rfl, rfl, rfl, h1, hr⟩ | ⟨rfl, rfl, rfl, rfl, h1, hr⟩ | ⟨rfl, rfl, rfl, rfl, rfl, hr⟩
      · have h2 : (n == 0) = false := by simpa using h1
        rw [hr]
        clear hr h1 hkk
        go_enter Tryz.func101, Tryz.ntmps101
        go_wp2
        go_ret
        exact ⟨rfl, ((Below.refl _ _).alloc (Nat.le_refl _) _).alloc (by simp) _⟩
      · have h2 : (b == 0) = false := by simpa using h1
        rw [hr]
        clear hr h1 hkk
        go_enter Tryz.func101, Tryz.ntmps101
        go_wp2
        go_ret
        exact ⟨rfl, ((Below.refl _ _).alloc (Nat.le_refl _) _).alloc (by simp) _⟩
      · have h2 : (x == 0) = false := by simpa using h1
        rw [hr]
        clear hr h1 hkk
        go_enter Tryz.func101, Tryz.ntmps101
        go_wp2
        go_ret
        exact ⟨rfl, ((Below.refl _ _).alloc (Nat.le_refl _) _).alloc (by simp) _⟩
      · have h2 := text_ne h1
        rw [hr]
        clear hr h1 hkk
        go_enter Tryz.func101, Tryz.ntmps101
        go_wp2
        go_ret
        exact ⟨rfl, ((Below.refl _ _).alloc (Nat.le_refl _) _).alloc (by simp) _⟩
      · have h2 := hkk h1
        rw [hr]
        clear hr h1 hkk
        go_enter Tryz.func101, Tryz.ntmps101
        go_wp2
        go_ret
        exact ⟨rfl, ((Below.refl _ _).alloc (Nat.le_refl _) _).alloc (by simp) _⟩
      · rw [hr]
        clear hr hkk
        go_enter Tryz.func101, Tryz.ntmps101
        go_wp2
        go_ret
        exact ⟨rfl, ((Below.refl _ _).alloc (Nat.le_refl _) _).alloc (by simp) _⟩
theorem alone4_gen (n b x : Int) (ng : Bool) (tt : ByteArray) (ad : Option Addr) (nn c : Nat) (ka : Option Addr) (kn kc : Nat) (r : Bool) (w : World) (HF : ∀ w', Below w.heap.size w w' → Calls Tryz.prog 151 #[.int .u64 b] w' (fun e w2 => e = .returned (.bool r) ∧ Below w'.heap.size w' w2)) :
    Calls Tryz.prog 101 #[.agg #[.int .i8 4, .int .u64 n, .bool ng, .slice ad nn c, .int .u64 b, .int .i8 x, .string tt, .slice ka kn kc]] w (fun e w' => e = .returned (.bool (r && !ng && decide (nn = 0) && restB n 0 x tt kn)) ∧ Below w.heap.size w w') := by
  have b0 : Below w.heap.size w (w.alloc (.cells #[.int .i8 4, .int .u64 n, .bool ng, .slice ad nn c, .int .u64 b, .int .i8 x, .string tt, .slice ka kn kc] 37)) := (Below.refl _ _).alloc (Nat.le_refl _) _
  have k0 : Cel (w.alloc (.cells #[.int .i8 4, .int .u64 n, .bool ng, .slice ad nn c, .int .u64 b, .int .i8 x, .string tt, .slice ka kn kc] 37)) w.heap.size 37 [.int .i8 4, .int .u64 n, .bool ng, .slice ad nn c, .int .u64 b, .int .i8 x, .string tt, .slice ka kn kc] := Cel.made _ _ _ _ rfl
  have HP := Lib.hid (HF _ b0)
  clear HF
  have hkk : kn ≠ 0 → ((kn : Int) == 0) = false := fun h => by simp; omega
  go_enter Tryz.func101, Tryz.ntmps101
  go_wp2_with fail
  refine (HP.out).mono ?_
  rintro e w1 ⟨rfl, b1⟩
  have k1 := k0.next b1
  have b2 := below_trans b0 b1
  have c4 := k1.cell 4 _ rfl
  have g4 := k1.free 4
  have k2 := k1.set 4 (.int .u64 0)
  have d0 := k2.cell 0 _ rfl
  have d1 := k2.cell 1 _ rfl
  have d2 := k2.cell 2 _ rfl
  have d3 := k2.cell 3 _ rfl
  have d4 := k2.cell 4 _ rfl
  have d5 := k2.cell 5 _ rfl
  have d6 := k2.cell 6 _ rfl
  have d7 := k2.cell 7 _ rfl
  have b3 := below_set b2 w.heap.size 4 (.int .u64 0) (Nat.le_refl _)
  clear k0 k1 k2 HP b1 b0 b2
  cases r with
  | false =>
    clear hkk
    go_wp2
    go_ret
    exact ⟨rfl, b3⟩
  | true =>
    rcases rest_cases n 0 x tt kn with ⟨h1, hr⟩ | ⟨rfl, h1, hr⟩ | ⟨rfl, -, h1, hr⟩ | ⟨rfl, -, rfl, h1, hr⟩ | ⟨rfl, -, rfl, rfl, h1, hr⟩ | ⟨rfl, -, rfl, rfl, rfl, hr⟩
    · have h2 : (n == 0) = false := by simpa using h1
      have HR := Lib.hid hr
      clear hr h1 hkk
      go_wp2
      go_ret
      exact ⟨by rw [HR.out, Bool.and_false]; rfl, b3⟩
    · exact absurd rfl h1
    · cases ng
      · by_cases h0 : nn = 0
        · subst h0
          have h2 := (show (x == 0) = false by simpa using h1)
          have HR := Lib.hid hr
          clear hr h1 hkk
          go_wp2
          go_ret
          exact ⟨by rw [HR.out]; rfl, b3⟩
        · have h2 : ((nn : Int) == 0) = false := by simp; omega
          have HR := Lib.hid (decide_eq_false h0)
          clear hr hkk h0
          go_wp2
          go_ret
          exact ⟨by rw [HR.out]; rfl, b3⟩
      · clear hr hkk
        go_wp2
        go_ret
        exact ⟨rfl, b3⟩
    · cases ng
      · by_cases h0 : nn = 0
        · subst h0
          have h2 := text_ne h1
          have HR := Lib.hid hr
          clear hr h1 hkk
          go_wp2
          go_ret
          exact ⟨by rw [HR.out]; rfl, b3⟩
        · have h2 : ((nn : Int) == 0) = false := by simp; omega
          have HR := Lib.hid (decide_eq_false h0)
          clear hr hkk h0
          go_wp2
          go_ret
          exact ⟨by rw [HR.out]; rfl, b3⟩
      · clear hr hkk
        go_wp2
        go_ret
        exact ⟨rfl, b3⟩
    · cases ng
      · by_cases h0 : nn = 0
        · subst h0
          have h2 := hkk h1
          have HR := Lib.hid hr
          clear hr h1 hkk
          go_wp2
          go_ret
          exact ⟨by rw [HR.out]; rfl, b3⟩
        · have h2 : ((nn : Int) == 0) = false := by simp; omega
          have HR := Lib.hid (decide_eq_false h0)
          clear hr hkk h0
          go_wp2
          go_ret
          exact ⟨by rw [HR.out]; rfl, b3⟩
      · clear hr hkk
        go_wp2
        go_ret
        exact ⟨rfl, b3⟩
    · cases ng
      · by_cases h0 : nn = 0
        · subst h0
          have HR := Lib.hid hr
          clear hr hkk
          go_wp2
          go_ret
          exact ⟨by rw [HR.out]; rfl, b3⟩
        · have h2 : ((nn : Int) == 0) = false := by simp; omega
          have HR := Lib.hid (decide_eq_false h0)
          clear hr hkk h0
          go_wp2
          go_ret
          exact ⟨by rw [HR.out]; rfl, b3⟩
      · clear hr hkk
        go_wp2
        go_ret
        exact ⟨rfl, b3⟩
end Go.Proofs.YtoimhjcpeifegaaGreatDoor

