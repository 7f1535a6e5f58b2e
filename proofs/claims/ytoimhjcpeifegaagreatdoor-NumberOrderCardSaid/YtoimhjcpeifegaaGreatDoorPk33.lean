/- Contracts of functions, and plain facts, part 33. -/
import Derived.Test.YtoimhjcpeifegaaGreatDoorPk32
set_option linter.unusedVariables false
set_option linter.unusedSimpArgs false
/- Whole numbers and patterns in order: plain. -/
set_option maxRecDepth 50000
namespace Go.Proofs.YtoimhjcpeifegaaGreatDoor
open Go Go.RowKit

theorem cmpI_pos (a b P : Int) (hP : 0 < P) : cmpI (a * P) (b * P) = cmpI a b := by
  rcases Int.lt_trichotomy a b with h | h | h
  · rw [cmpI_lt h, cmpI_lt (Int.mul_lt_mul_of_pos_right h hP)]
  · rw [h]; unfold cmpI; simp
  · rw [cmpI_gt h, cmpI_gt (Int.mul_lt_mul_of_pos_right h hP)]
/-- Two finite numbers by least steps. -/
theorem cmpFin_key (m e n f : Int) (he : -1074 ≤ e) (hf : -1074 ≤ f) : cmpFin m e n f = cmpI (m * 2 ^ (e + 1074).toNat) (n * 2 ^ (f + 1074).toNat) := by
  unfold cmpFin
  rcases Int.lt_or_le f e with h | h
  · rw [if_pos (show 0 < e - f by omega), if_neg (show ¬ 0 < f - e by omega)]
    have hP : (0 : Int) < 2 ^ (f + 1074).toNat := Int.pow_pos (by omega)
    rw [show (e + 1074).toNat = (e - f).toNat + (f + 1074).toNat by omega, Int.pow_add, ← Int.mul_assoc, cmpI_pos _ _ _ hP]
    simp
  · have hP : (0 : Int) < 2 ^ (e + 1074).toNat := Int.pow_pos (by omega)
    rw [if_neg (show ¬ 0 < e - f by omega)]
    by_cases h2 : 0 < f - e
    · rw [if_pos h2, show (f + 1074).toNat = (f - e).toNat + (e + 1074).toNat by omega, Int.pow_add, ← Int.mul_assoc, cmpI_pos _ _ _ hP]
      simp
    · obtain rfl : f = e := by omega
      rw [if_neg h2, cmpI_pos _ _ _ hP]
      simp
theorem tri1 (a b c : Int) : ((decide (cmpI a c ≤ 0) && decide (0 ≤ cmpI b c)) && decide (0 < cmpI a b)) = false := by
  rcases Int.lt_trichotomy a b with h | h | h
  · rw [cmpI_lt h]; simp
  · subst h; unfold cmpI; simp
  · rw [cmpI_gt h]
    rcases Int.lt_or_le c a with h2 | h2
    · rw [cmpI_gt h2]; rfl
    · rw [cmpI_lt (show b < c by omega)]; simp
theorem tri2 (a b c : Int) : ((decide (cmpI a c < 0) && decide (0 ≤ cmpI b c)) && decide (0 ≤ cmpI a b)) = false := by
  rcases Int.lt_or_le a c with h | h
  · rcases Int.lt_or_le b c with h2 | h2
    · rw [cmpI_lt h2]; simp
    · rw [cmpI_lt (show a < b by omega)]; simp
  · have : ¬ cmpI a c < 0 := by
      rcases Int.lt_or_eq_of_le h with h3 | h3
      · rw [cmpI_gt h3]; omega
      · rw [h3]; unfold cmpI; simp
    rw [decide_eq_false this]; rfl
theorem fin_int (X Y : Int) : cmpO (whatV (.int X)) (whatV (.int Y)) = (cmpI X Y, true) := by
  show cmpO (.exact X) (.exact Y) = _
  rw [cmpO_fin _ _ rfl rfl rfl rfl]
  show (cmpFin X 0 Y 0, true) = _
  rw [cmpFin_00]
def keyF (b : Int) : Int := sI (pNeg 64 b) (pM 64 b) * 2 ^ (pE 64 b + 1074).toNat
theorem fin_flt (X b : Int) : cmpO (.exact X) (.broken b) = (cmpI (X * 2 ^ 1074) (keyF b), true) := by
  have hb := pE_bd w64 b
  rw [cmpO_fin _ _ rfl rfl rfl rfl]
  show (cmpFin X 0 _ (pE 64 b), true) = _
  rw [cmpFin_key _ _ _ _ (by omega) (by omega)]
  rfl
theorem end_int (X y : Int) : cmpO (.exact X) (.endless y) = (clampI (0 - sideI y), true) := cmpO_end _ _ rfl rfl (.inr (sideI_ne y))
theorem end_tri (y : Int) (c : Bool) : ((decide (clampI (0 - sideI y) ≤ 0) && decide (0 ≤ clampI (0 - sideI y))) && c) = false := by
  unfold sideI
  split <;> (unfold clampI; simp)
theorem end_tri2 (y : Int) (c : Bool) : ((decide (clampI (0 - sideI y) < 0) && decide (0 ≤ clampI (0 - sideI y))) && c) = false := by
  unfold sideI
  split <;> (unfold clampI; simp)
/-- What the number of a pattern of 64 bits may be. -/
theorem of_cases (b : Int) (hb : 0 ≤ b ∧ b < 18446744073709551616) :
    (isNaN 64 b = true ∧ ofV 64 b = .flt 9221120237041090560 ∧ whatV (.flt 9221120237041090560) = .nothing 9221120237041090560) ∨
    (isNaN 64 b = false ∧ clsW 64 b = 4 ∧ ofV 64 b = .flt b ∧ whatV (.flt b) = .endless b) ∨
    (isNaN 64 b = false ∧ ∃ N, ofV 64 b = .int N) ∨
    (isNaN 64 b = false ∧ clsW 64 b ≠ 4 ∧ ofV 64 b = .flt b ∧ whatV (.flt b) = .broken b ∧ pOk 64 b = true ∧ pE 64 b < 0) := by
  by_cases hn : isNaN 64 b = true
  · refine .inl ⟨hn, ?_, ?_⟩
    · rcases p_cases b hb with ⟨h1, h2, h3⟩ | ⟨h1, h3⟩ | ⟨h1, h2, h3, h4⟩
      · exact h2
      · rw [hn] at h1; cases h1
      · rw [hn] at h1; cases h1
    · show oneF _ = _
      unfold oneF
      rw [if_neg (by decide), if_pos (by decide)]
  · have hn' : isNaN 64 b = false := by simpa using hn
    by_cases hi : intOk 64 b = true
    · exact .inr (.inr (.inl ⟨hn', _, of_yes hi⟩))
    · have hi' : intOk 64 b = false := by simpa using hi
      have ho : ofV 64 b = .flt b := by rw [of_no hi', to_self b hb hn']
      by_cases h2 : sizeW 64 b = infW 64
      · have hc := (cls_of (W := 64) b).2.1 h2
        refine .inr (.inl ⟨hn', hc, ho, ?_⟩)
        show oneF b = _
        unfold oneF
        rw [if_pos hc]
      · have h3 : pOk 64 b = true := by
          unfold isNaN at hn'
          have := of_decide_eq_false hn'
          exact decide_eq_true (by omega)
        obtain ⟨c1, c2⟩ := (cls_of (W := 64) b).2.2 h3
        refine .inr (.inr (.inr ⟨hn', c1, ho, ?_, h3, ?_⟩))
        · show oneF b = _
          unfold oneF
          rw [if_neg c1, if_neg c2]
        · unfold intOk at hi'
          rw [h3, Bool.true_and] at hi'
          have := of_decide_eq_false hi'
          omega
theorem ninf_of : ofV 64 18442240474082181120 = .flt 18442240474082181120 := by
  rw [of_no (by decide), to_self _ (by omega) (by decide)]
theorem ninf_what : whatV (.flt 18442240474082181120) = .endless 18442240474082181120 := by
  show oneF _ = _
  unfold oneF
  rw [if_pos (by decide)]
theorem ninf_cmp (X : Int) : cmpO (whatV (.int X)) (whatV (.flt 18442240474082181120)) = (1, true) := by
  rw [ninf_what]
  show cmpO (.exact X) _ = _
  rw [end_int]
  decide
theorem inf_of : ofV 32 2139095040 = .flt 9218868437227405312 := by
  have e : (toW 64 32 2139095040).1 = 9218868437227405312 := by
    unfold toW
    rw [if_neg (by decide), if_pos (by decide)]
    decide
  rw [of_no (by decide), e]
theorem inf_what : whatV (.flt 9218868437227405312) = .endless 9218868437227405312 := by
  show oneF _ = _
  unfold oneF
  rw [if_pos (by decide)]
theorem inf_cmp (X : Int) : cmpO (whatV (.int X)) (whatV (.flt 9218868437227405312)) = (-1, true) := by
  rw [inf_what]
  show cmpO (.exact X) _ = _
  rw [end_int]
  decide
theorem ninf_ok : okNV (.flt 18442240474082181120) := ⟨by omega, by unfold fltB; decide⟩
theorem inf_ok : okNV (.flt 9218868437227405312) := ⟨by omega, by unfold fltB; decide⟩
def floorI (b : Int) : Int := if pNeg 64 b = true then -(pM 64 b / 2 ^ (-(pE 64 b)).toNat) - 1 else pM 64 b / 2 ^ (-(pE 64 b)).toNat
theorem odd_part {b : Int} (hb : 0 ≤ b ∧ b < 18446744073709551616) (h : pOk 64 b = true) (he : pE 64 b < 0) : pM 64 b % 2 = 1 := by
  have hsz := size_bounds w64 b (by rw [show (2 : Int) ^ 64 = 18446744073709551616 from by decide]; exact hb)
  unfold pM
  unfold pE at he
  rw [h] at he ⊢
  by_cases hz : sizeW 64 b = 0
  · rw [decide_eq_true hz] at he; simp at he
  · rw [decide_eq_false hz]
    simp only [Bool.not_false, Bool.and_true, if_true]
    have hraw := raw_lt w64 b
    have h1 := raw_pos (W := 64) b (by omega)
    exact (odd_spec (rawM 64 b) h1 (by omega)).2.1
theorem floor_lt {b : Int} (hb : 0 ≤ b ∧ b < 18446744073709551616) (h : pOk 64 b = true) (he : pE 64 b < 0) : cmpO (.exact (floorI b)) (.broken b) = (-1, true) ∧ cmpO (.broken b) (.exact (floorI b + 1)) = (-1, true) ∧ -9007199254740993 ≤ floorI b ∧ floorI b < 9007199254740992 := by
  have hodd := odd_part hb h he
  have hM := pM_bd w64 b
  have hE := pE_bd w64 b
  obtain ⟨t, ht⟩ : ∃ t : Nat, pE 64 b = -(t : Int) - 1 := ⟨(-(pE 64 b) - 1).toNat, by omega⟩
  have hf1 : cmpO (.exact (floorI b)) (.broken b) = (cmpFin (floorI b) 0 (sI (pNeg 64 b) (pM 64 b)) (pE 64 b), true) := cmpO_fin _ _ rfl rfl rfl rfl
  have hf2 : cmpO (.broken b) (.exact (floorI b + 1)) = (cmpFin (sI (pNeg 64 b) (pM 64 b)) (pE 64 b) (floorI b + 1) 0, true) := cmpO_fin _ _ rfl rfl rfl rfl
  rw [hf1, hf2]
  unfold floorI cmpFin
  rw [ht]
  rw [show (-(-(t : Int) - 1)).toNat = t + 1 by omega]
  rw [if_pos (show 0 < 0 - (-(t : Int) - 1) by omega), if_neg (show ¬ 0 < -(t : Int) - 1 - 0 by omega)]
  rw [show (0 - (-(t : Int) - 1)).toNat = t + 1 by omega, Int.toNat_zero, Int.pow_zero, Int.mul_one]
  have hP : (2 : Int) ^ (t + 1) = 2 ^ t * 2 := Int.pow_succ _ _
  have hP0 : (0 : Int) < 2 ^ t := Int.pow_pos (by omega)
  have hdm := Int.mul_ediv_add_emod (pM 64 b) (2 ^ (t + 1))
  have hr0 := Int.emod_nonneg (pM 64 b) (show (2 : Int) ^ (t + 1) ≠ 0 by omega)
  have hr1 := Int.emod_lt_of_pos (pM 64 b) (show (0 : Int) < 2 ^ (t + 1) by omega)
  have hq1 := Int.ediv_le_self (2 ^ (t + 1)) hM.1
  have hq0 : 0 ≤ pM 64 b / 2 ^ (t + 1) := Int.ediv_nonneg hM.1 (by omega)
  have hrp : 0 < pM 64 b % 2 ^ (t + 1) := by
    rcases Int.lt_or_eq_of_le hr0 with g | g
    · exact g
    · exfalso
      rw [← g, Int.add_zero, hP] at hdm
      have h2 : (2 ^ t * 2 * (pM 64 b / (2 ^ t * 2))) % 2 = 0 := by
        rw [Int.mul_comm (2 ^ t) 2, Int.mul_assoc]
        exact Int.mul_emod_right _ _
      rw [hdm] at h2
      omega
  generalize pM 64 b / 2 ^ (t + 1) = q at *
  generalize pM 64 b % 2 ^ (t + 1) = r at *
  generalize pM 64 b = M at *
  generalize (2 : Int) ^ (t + 1) = P at *
  have e1 : q * P = P * q := Int.mul_comm _ _
  cases pNeg 64 b
  · refine ⟨?_, ?_, ?_, ?_⟩
    · show (cmpI (q * P) M, true) = _
      rw [cmpI_lt (by omega)]
    · show (cmpI M ((q + 1) * P), true) = _
      rw [cmpI_lt (by rw [Int.add_mul, Int.one_mul]; omega)]
    · show _ ≤ q
      omega
    · show q < _
      omega
  · refine ⟨?_, ?_, ?_, ?_⟩
    · show (cmpI ((-q - 1) * P) (-M), true) = _
      rw [cmpI_lt (by rw [Int.sub_mul, Int.neg_mul, Int.one_mul]; omega)]
    · show (cmpI (-M) ((-q - 1 + 1) * P), true) = _
      rw [cmpI_lt (by rw [show -q - 1 + 1 = -q by omega, Int.neg_mul]; omega)]
    · show _ ≤ -q - 1
      omega
    · show -q - 1 < _
      omega
theorem shr_var (x j : Int) (hx : 0 ≤ x) (hj : 0 ≤ j ∧ j < 64) : x.fdiv (2 ^ (min j.toNat IntKind.u64.bits)) = x / 2 ^ j.toNat := by
  rw [show min j.toNat IntKind.u64.bits = j.toNat from Nat.min_eq_left (by show j.toNat ≤ 64; omega)]
  exact Int.fdiv_eq_ediv_of_nonneg _ (Int.pow_nonneg (by omega))
theorem floor_far {b : Int} (he : pE 64 b ≤ -64) : pM 64 b / 2 ^ (-(pE 64 b)).toNat = 0 := by
  have hM := pM_bd w64 b
  refine Int.ediv_eq_zero_of_lt hM.1 ?_
  have : (2 : Int) ^ 64 ≤ 2 ^ (-(pE 64 b)).toNat := pow_le (by omega) (by omega)
  rw [show (2 : Int) ^ 64 = 18446744073709551616 from by decide] at this
  omega
end Go.Proofs.YtoimhjcpeifegaaGreatDoor


/- VFloor. (Printed by flow15.py.) -/
namespace Go.Proofs.YtoimhjcpeifegaaGreatDoor
open Go Go.RowKit

theorem isI_e {A N : Int} (e : A = N) {v : Value} {w : World} {B : Bx} (h : (IsI A).p v w B) : (IsI N).p v w B := e ▸ h

set_option maxRecDepth 20000 in
set_option maxHeartbeats 2000000 in
theorem con_floor (b : Int) (hb : 0 ≤ b ∧ b < 18446744073709551616) (hp : pOk 64 b = true) (he : pE 64 b < 0) : ConE Tryz.prog 52 [Lit (.int .u64 b)] (Tup [IsI (floorI b), IsB true]) := by
  refine f_enterE (N := 39) Tryz.ntmps52 (fun _ _ => by go_simp) Tryz.func52 rfl (by simp) ?_
  intro a0 w0 B0 H0
  replace H0 : St 39 w0 B0 a0 w0 B0 [(0, .val (Lit (.int .u64 b))), (39, .val (EnvV))] [] := H0
  refine wp_seq ?_
  have hpm := pM_bd w64 b
  have hpe := pE_bd w64 b
  obtain ⟨q, hqe⟩ : ∃ q, q = pM 64 b / 2 ^ (-pE 64 b).toNat := ⟨_, rfl⟩
  have hq0 : 0 ≤ q := by rw [hqe]; exact Int.ediv_nonneg hpm.1 (Int.pow_nonneg (by omega))
  have hq1 : q ≤ pM 64 b := by rw [hqe]; exact Int.ediv_le_self _ hpm.1
  have hq : -9223372036854775808 ≤ q ∧ q < 9223372036854775808 := by omega
  have hfl : floorI b = if pNeg 64 b = true then -q - 1 else q := by rw [hqe]; rfl
  refine flow_region (dsts := [some 2, some 3]) (refs := [[], []]) (outs := [.res 0, .res 1, .pre 0, .pre 1]) (als := [true, false]) (posts := [.box 34 2 (Zero2), .val (IsB false)])
    (out := [(2, .box 34 2 (Zero2)), (3, .val (IsB false)), (0, .val (Lit (.int .u64 b))), (39, .val (EnvV))]) (nb := [2]) H0 2 [] rfl (by kernel_rfl) rfl rfl ?_ ?_
  · refine .cons (.plain rfl (ok_alloc (D := Zero2) zeroI rfl (fun _ _ => rfl))) ?_
    refine .cons (.plain rfl (ok_assign (.lit))) ?_
    exact .nil
  clear H0
  intro a1 w1 B1 H1
  simp only [List.cons_append, List.nil_append] at H1
  refine ops_done ?_
  refine then_normal ?_
  refine wp_seq ?_
  refine flow_region (dsts := [some 11, some 12, some 10, some 13, some 14, some 15, some 16, some 4, some 5, some 6, some 7]) (refs := [[.pre 2], [.res 0, .pre 3], [.res 1], [.res 2], [.res 2], [.res 2], [.res 2], [.res 3], [.res 4], [.res 5], [.res 6]]) (outs := [.res 7, .res 8, .res 9, .res 10, .pre 0, .pre 1, .pre 3]) (als := [false, false, false, false, false, false, false, false, false, false, false]) (posts := [.val (Lit (.int .u64 b)), .val (Tup [IsB (pNeg 64 b), Lit (.int .u64 (pM 64 b)), Lit (.int .i64 (pE 64 b)), IsB true]), .val (Tup [IsB (pNeg 64 b), Lit (.int .u64 (pM 64 b)), Lit (.int .i64 (pE 64 b)), IsB true]), .val (IsB (pNeg 64 b)), .val (Lit (.int .u64 (pM 64 b))), .val (Lit (.int .i64 (pE 64 b))), .val (IsB true), .val (IsB (pNeg 64 b)), .val (Lit (.int .u64 (pM 64 b))), .val (Lit (.int .i64 (pE 64 b))), .val (IsB true)])
    (out := [(4, .val (IsB (pNeg 64 b))), (5, .val (Lit (.int .u64 (pM 64 b)))), (6, .val (Lit (.int .i64 (pE 64 b)))), (7, .val (IsB true)), (2, .box 34 2 (Zero2)), (3, .val (IsB false)), (39, .val (EnvV))]) (nb := []) H1 11 [] rfl (by kernel_rfl) rfl rfl ?_ ?_
  · refine .cons (.plain rfl (ok_move (.tmp 0 rfl))) ?_
    refine .cons (.plain rfl (ok_callE ((con_iparts64 b hb).weak (fun v w B h => by rw [hp] at h; exact h)) 1 rfl (.cons (.tmp 0 rfl) (.nil)))) ?_
    refine .cons (.plain rfl (ok_move (.tmp 0 rfl))) ?_
    refine .cons (.plain rfl (ok_extract 0 (.tmp 0 rfl) rfl)) ?_
    refine .cons (.plain rfl (ok_extract 1 (.tmp 0 rfl) rfl)) ?_
    refine .cons (.plain rfl (ok_extract 2 (.tmp 0 rfl) rfl)) ?_
    refine .cons (.plain rfl (ok_extract 3 (.tmp 0 rfl) rfl)) ?_
    refine .cons (.plain rfl (ok_assign (.tmp 0 rfl))) ?_
    refine .cons (.plain rfl (ok_assign (.tmp 0 rfl))) ?_
    refine .cons (.plain rfl (ok_assign (.tmp 0 rfl))) ?_
    refine .cons (.plain rfl (ok_assign (.tmp 0 rfl))) ?_
    exact .nil
  clear H1 a1 w1 B1
  intro a2 w2 B2 H2
  refine ops_done ?_
  refine then_normal ?_
  refine wp_seq ?_
  refine wp_seq ?_
  refine flow_region (dsts := [some 17, some 18, some 19, some 20, some 21, some 22]) (refs := [[.pre 3], [.res 0], [.res 1], [.res 2, .pre 2], [.res 2, .res 3], [.res 2, .res 4]]) (outs := [.res 5, .pre 0, .pre 1, .pre 2, .pre 4, .pre 5, .pre 6]) (als := [false, false, false, false, false, false]) (posts := [.val (IsB true), .val (IsB false), .val (IsB false), .val (Lit (.int .i64 (pE 64 b))), .val (IsB false), .val (IsB false)])
    (out := [(22, .val (IsB false)), (4, .val (IsB (pNeg 64 b))), (5, .val (Lit (.int .u64 (pM 64 b)))), (6, .val (Lit (.int .i64 (pE 64 b)))), (2, .box 34 2 (Zero2)), (3, .val (IsB false)), (39, .val (EnvV))]) (nb := []) H2 6 [] rfl (by kernel_rfl) rfl rfl ?_ ?_
  · refine .cons (.plain rfl (ok_move (.tmp 0 rfl))) ?_
    refine .cons (.plain rfl (ok_not (b := true) (.tmp 0 rfl))) ?_
    refine .cons (.plain rfl (ok_move (.tmp 0 rfl))) ?_
    refine .cons (.wanted 2 false rfl rfl rfl 0 rfl (ok_move (.tmp 1 rfl))) ?_
    refine .cons (.wanted 2 false rfl rfl rfl 0 rfl (ok_cmp (b := false) (.tmp 1 rfl) (.lit) ((decide_eq_false (by omega)).symm))) ?_
    refine .cons (.plain rfl (ok_pickF (.tmp 0 rfl) (.tmp 1 rfl))) ?_
    exact .nil
  clear H2 a2 w2 B2
  intro a3 w3 B3 H3
  refine ops_done ?_
  refine then_normal ?_
  refine f_condF H3 (.tmp 0 rfl) ?_
  refine wp_skip ?_
  refine then_normal ?_
  refine wp_seq ?_
  refine flow_region (dsts := [some 8]) (refs := [[]]) (outs := [.res 0, .pre 1, .pre 2, .pre 3, .pre 4, .pre 5, .pre 6]) (als := [false]) (posts := [.val (Lit (.int .u64 0))])
    (out := [(8, .val (Lit (.int .u64 0))), (4, .val (IsB (pNeg 64 b))), (5, .val (Lit (.int .u64 (pM 64 b)))), (6, .val (Lit (.int .i64 (pE 64 b)))), (2, .box 34 2 (Zero2)), (3, .val (IsB false)), (39, .val (EnvV))]) (nb := []) H3 1 [] rfl (by kernel_rfl) rfl rfl ?_ ?_
  · refine .cons (.plain rfl (ok_assign (.lit))) ?_
    exact .nil
  clear H3 a3 w3 B3
  intro a4 w4 B4 H4
  refine ops_done ?_
  refine then_normal ?_
  refine wp_seq ?_
  refine wp_seq ?_
  refine flow_region (dsts := [some 24, some 25]) (refs := [[.pre 3], [.res 0]]) (outs := [.res 1, .pre 0, .pre 1, .pre 2, .pre 3, .pre 4, .pre 5, .pre 6]) (als := [false, false]) (posts := [.val (Lit (.int .i64 (pE 64 b))), .val (IsB (decide (-64 < pE 64 b)))])
    (out := [(25, .val (IsB (decide (-64 < pE 64 b)))), (8, .val (Lit (.int .u64 0))), (4, .val (IsB (pNeg 64 b))), (5, .val (Lit (.int .u64 (pM 64 b)))), (6, .val (Lit (.int .i64 (pE 64 b)))), (2, .box 34 2 (Zero2)), (3, .val (IsB false)), (39, .val (EnvV))]) (nb := []) H4 2 [] rfl (by kernel_rfl) rfl rfl ?_ ?_
  · refine .cons (.plain rfl (ok_move (.tmp 0 rfl))) ?_
    refine .cons (.plain rfl (ok_cmp (.tmp 0 rfl) (.lit) rfl)) ?_
    exact .nil
  clear H4 a4 w4 B4
  intro a5 w5 B5 H5
  refine ops_done ?_
  refine then_normal ?_
  refine f_cond H5 (.tmp 0 rfl) ?_ ?_
  · intro hc6
    replace hc6 := of_decide_eq_true hc6
    refine flow_region (dsts := [some 26, some 27, some 28, some 29, some 8]) (refs := [[.pre 3], [.pre 4], [.res 1], [.res 0, .res 2], [.res 3]]) (outs := [.res 4, .pre 2, .pre 5, .pre 6, .pre 7]) (als := [false, false, false, false, false]) (posts := [.val (Lit (.int .u64 (pM 64 b))), .val (Lit (.int .i64 (pE 64 b))), .val (Lit (.int .i64 (-(pE 64 b)))), .val (Lit (.int .u64 ((pM 64 b) / 2 ^ (-(pE 64 b)).toNat))), .val (Lit (.int .u64 ((pM 64 b) / 2 ^ (-(pE 64 b)).toNat)))])
      (out := [(8, .val (Lit (.int .u64 ((pM 64 b) / 2 ^ (-(pE 64 b)).toNat)))), (4, .val (IsB (pNeg 64 b))), (2, .box 34 2 (Zero2)), (3, .val (IsB false)), (39, .val (EnvV))]) (nb := []) H5 5 [] rfl (by kernel_rfl) rfl rfl ?_ ?_
    · refine .cons (.plain rfl (ok_move (.tmp 0 rfl))) ?_
      refine .cons (.plain rfl (ok_move (.tmp 0 rfl))) ?_
      refine .cons (.plain rfl (ok_neg (r := (-(pE 64 b))) (.tmp 0 rfl) (w_i64 (by omega)))) ?_
      refine .cons (.plain rfl (ok_shr (r := ((pM 64 b) / 2 ^ (-(pE 64 b)).toNat)) (.tmp 0 rfl) (.tmp 1 rfl) (by omega) (shr_var _ _ hpm.1 (by omega)))) ?_
      refine .cons (.plain rfl (ok_assign (.tmp 0 rfl))) ?_
      exact .nil
    clear H5 a5 w5 B5
    intro a7 w7 B7 H7
    refine ops_done ?_
    refine then_normal ?_
    refine wp_seq ?_
    have H8 := St.set1 H7 0 (D' := Lit (.int .u64 q)) rfl (fun v w B h => int_e (by rw [hqe]) h) (l' := [(8, .val (Lit (.int .u64 q))), (4, .val (IsB (pNeg 64 b))), (2, .box 34 2 (Zero2)), (3, .val (IsB false)), (39, .val (EnvV))]) rfl
    clear H7
    refine flow_region (dsts := [some 30, some 31, some 32, some 9]) (refs := [[.pre 0], [.res 0], [.res 1], []]) (outs := [.res 2, .res 3, .pre 1, .pre 2, .pre 3, .pre 4]) (als := [false, false, false, true]) (posts := [.val (Lit (.int .u64 q)), .val (Lit (.int .i64 q)), .val (IsI q), .box 34 2 (Zero2)])
      (out := [(32, .val (IsI q)), (9, .box 34 2 (Zero2)), (4, .val (IsB (pNeg 64 b))), (2, .box 34 2 (Zero2)), (3, .val (IsB false)), (39, .val (EnvV))]) (nb := [9]) H8 4 [4] rfl (by kernel_rfl) rfl rfl ?_ ?_
    · refine .cons (.plain rfl (ok_move (.tmp 0 rfl))) ?_
      refine .cons (.plain rfl (ok_conv Tryz.underlying24 Tryz.underlying2 (r := q) (.tmp 0 rfl) (w_i64 (by omega)))) ?_
      refine .cons (.plain rfl (ok_call (con_from q hq) (.cons (.tmp 0 rfl) (.nil)))) ?_
      refine .cons (.plain rfl (ok_alloc (D := Zero2) zeroI rfl (fun _ _ => rfl))) ?_
      exact .nil
    clear H8 a7 w7 B7
    intro a9 w9 B9 H9
    simp only [List.cons_append, List.nil_append] at H9
    refine ops_one ?_
    refine store_op (l' := [(32, .val (IsI q)), (9, .box 34 2 (IsI q)), (4, .val (IsB (pNeg 64 b))), (2, .box 34 2 (Zero2)), (3, .val (IsB false)), (39, .val (EnvV))]) 1 H9 rfl tyI rfl (.tmp 0 rfl) shape_Z shape_I rfl rfl ?_
    clear H9 w9
    intro w10 H10
    refine ops_done ?_
    refine then_normal ?_
    refine wp_seq ?_
    refine wp_seq ?_
    refine flow_region (dsts := [some 33]) (refs := [[.pre 2]]) (outs := [.res 0, .pre 1, .pre 3, .pre 4, .pre 5]) (als := [false]) (posts := [.val (IsB (pNeg 64 b))])
      (out := [(33, .val (IsB (pNeg 64 b))), (9, .box 34 2 (IsI q)), (2, .box 34 2 (Zero2)), (3, .val (IsB false)), (39, .val (EnvV))]) (nb := []) H10 1 [] rfl (by kernel_rfl) rfl rfl ?_ ?_
    · refine .cons (.plain rfl (ok_move (.tmp 0 rfl))) ?_
      exact .nil
    clear H10 a9 w10 B9
    intro a11 w11 B11 H11
    refine ops_done ?_
    refine then_normal ?_
    refine f_cond H11 (.tmp 0 rfl) ?_ ?_
    · intro hc12
      refine flow_region (dsts := [some 34, some 35, some 36, some 37]) (refs := [[.pre 1], [.res 0], [], [.res 1, .res 2]]) (outs := [.res 3, .pre 1, .pre 2, .pre 3, .pre 4]) (als := [false, false, false, false]) (posts := [.val (IsI q), .val (IsI (-q)), .val (IsI 1), .val (IsI ((-q) - 1))])
        (out := [(37, .val (IsI ((-q) - 1))), (9, .box 34 2 (IsI q)), (2, .box 34 2 (Zero2)), (3, .val (IsB false)), (39, .val (EnvV))]) (nb := []) H11 4 [4] rfl (by kernel_rfl) rfl rfl ?_ ?_
      · refine .cons (.plain rfl (ok_load tyI (.tmp 0 rfl))) ?_
        refine .cons (.plain rfl (ok_call (con_neg q) (.cons (.weak (.tmp 0 rfl) weakIN) (.nil)))) ?_
        refine .cons (.plain rfl (ok_call (con_from 1 (by omega)) (.cons (.lit) (.nil)))) ?_
        refine .cons (.plain rfl (ok_call (con_sub (-q) 1 ((((FitK.i64 hq).neg.sub (FitK.small (N := 1) (by decide)))).fits (by omega))) (.cons (.weak (.tmp 0 rfl) weakIN) (.cons (.weak (.tmp 1 rfl) weakIN) (.nil))))) ?_
        exact .nil
      clear H11 a11 w11 B11
      intro a13 w13 B13 H13
      refine ops_one ?_
      refine store_op (l' := [(37, .val (IsI ((-q) - 1))), (9, .box 34 2 (IsI ((-q) - 1))), (2, .box 34 2 (Zero2)), (3, .val (IsB false)), (39, .val (EnvV))]) 1 H13 rfl tyI rfl (.tmp 0 rfl) shape_I shape_I rfl rfl ?_
      clear H13 w13
      intro w14 H14
      refine ops_done ?_
      refine then_normal ?_
      refine wp_seq ?_
      refine flow_region (dsts := [some 38]) (refs := [[.pre 1]]) (outs := [.res 0, .pre 2, .pre 3, .pre 4]) (als := [false]) (posts := [.val (IsI ((-q) - 1))])
        (out := [(38, .val (IsI ((-q) - 1))), (2, .box 34 2 (Zero2)), (3, .val (IsB false)), (39, .val (EnvV))]) (nb := []) H14 1 [1, 2] rfl (by kernel_rfl) rfl rfl ?_ ?_
      · refine .cons (.plain rfl (ok_load tyI (.tmp 0 rfl))) ?_
        exact .nil
      clear H14 a13 w14 B13
      intro a15 w15 B15 H15
      refine ops_one ?_
      refine store_op (l' := [(38, .val (IsI ((-q) - 1))), (2, .box 34 2 (IsI ((-q) - 1))), (3, .val (IsB false)), (39, .val (EnvV))]) 1 H15 rfl tyI rfl (.tmp 0 rfl) shape_Z shape_I rfl rfl ?_
      clear H15 w15
      intro w16 H16
      refine ops_one ?_
      refine tail_op (D := .val (IsB true)) (l' := [(3, .val (IsB true)), (38, .val (IsI ((-q) - 1))), (2, .box 34 2 (IsI ((-q) - 1))), (39, .val (EnvV))]) H16 rfl rfl rfl (.plain rfl (ok_assign (.lit))) rfl rfl ?_
      clear H16 a15 w16 B15
      intro a17 w17 B17 H17
      refine ops_done ?_
      refine then_normal ?_
      refine wp_ret ?_
      exact f_retN H17 rfl rfl (.cell 2 tyI rfl (fun v w B h => isI_e (by rw [hfl]; first | rw [if_pos (by assumption)] | rw [if_neg (by simp [*])]) h) (.tmp 0 rfl (fun _ _ _ h => h) (.nil)))
    · intro hc12
      refine wp_skip ?_
      refine then_normal ?_
      refine wp_seq ?_
      refine flow_region (dsts := [some 38]) (refs := [[.pre 1]]) (outs := [.res 0, .pre 2, .pre 3, .pre 4]) (als := [false]) (posts := [.val (IsI q)])
        (out := [(38, .val (IsI q)), (2, .box 34 2 (Zero2)), (3, .val (IsB false)), (39, .val (EnvV))]) (nb := []) H11 1 [1, 2] rfl (by kernel_rfl) rfl rfl ?_ ?_
      · refine .cons (.plain rfl (ok_load tyI (.tmp 0 rfl))) ?_
        exact .nil
      clear H11 a11 w11 B11
      intro a18 w18 B18 H18
      refine ops_one ?_
      refine store_op (l' := [(38, .val (IsI q)), (2, .box 34 2 (IsI q)), (3, .val (IsB false)), (39, .val (EnvV))]) 1 H18 rfl tyI rfl (.tmp 0 rfl) shape_Z shape_I rfl rfl ?_
      clear H18 w18
      intro w19 H19
      refine ops_one ?_
      refine tail_op (D := .val (IsB true)) (l' := [(3, .val (IsB true)), (38, .val (IsI q)), (2, .box 34 2 (IsI q)), (39, .val (EnvV))]) H19 rfl rfl rfl (.plain rfl (ok_assign (.lit))) rfl rfl ?_
      clear H19 a18 w19 B18
      intro a20 w20 B20 H20
      refine ops_done ?_
      refine then_normal ?_
      refine wp_ret ?_
      exact f_retN H20 rfl rfl (.cell 2 tyI rfl (fun v w B h => isI_e (by rw [hfl]; first | rw [if_pos (by assumption)] | rw [if_neg (by simp [*])]) h) (.tmp 0 rfl (fun _ _ _ h => h) (.nil)))
  · intro hc6
    replace hc6 := of_decide_eq_false hc6
    refine wp_skip ?_
    refine then_normal ?_
    refine wp_seq ?_
    have H21 := St.set1 H5 1 (D' := Lit (.int .u64 q)) rfl (fun v w B h => int_e (by rw [hqe]; exact (floor_far (by omega)).symm) h) (l' := [(25, .val (IsB (decide (-64 < pE 64 b)))), (8, .val (Lit (.int .u64 q))), (4, .val (IsB (pNeg 64 b))), (5, .val (Lit (.int .u64 (pM 64 b)))), (6, .val (Lit (.int .i64 (pE 64 b)))), (2, .box 34 2 (Zero2)), (3, .val (IsB false)), (39, .val (EnvV))]) rfl
    clear H5
    refine flow_region (dsts := [some 30, some 31, some 32, some 9]) (refs := [[.pre 1], [.res 0], [.res 1], []]) (outs := [.res 2, .res 3, .pre 2, .pre 5, .pre 6, .pre 7]) (als := [false, false, false, true]) (posts := [.val (Lit (.int .u64 q)), .val (Lit (.int .i64 q)), .val (IsI q), .box 34 2 (Zero2)])
      (out := [(32, .val (IsI q)), (9, .box 34 2 (Zero2)), (4, .val (IsB (pNeg 64 b))), (2, .box 34 2 (Zero2)), (3, .val (IsB false)), (39, .val (EnvV))]) (nb := [9]) H21 4 [4] rfl (by kernel_rfl) rfl rfl ?_ ?_
    · refine .cons (.plain rfl (ok_move (.tmp 0 rfl))) ?_
      refine .cons (.plain rfl (ok_conv Tryz.underlying24 Tryz.underlying2 (r := q) (.tmp 0 rfl) (w_i64 (by omega)))) ?_
      refine .cons (.plain rfl (ok_call (con_from q hq) (.cons (.tmp 0 rfl) (.nil)))) ?_
      refine .cons (.plain rfl (ok_alloc (D := Zero2) zeroI rfl (fun _ _ => rfl))) ?_
      exact .nil
    clear H21 a5 w5 B5
    intro a22 w22 B22 H22
    simp only [List.cons_append, List.nil_append] at H22
    refine ops_one ?_
    refine store_op (l' := [(32, .val (IsI q)), (9, .box 34 2 (IsI q)), (4, .val (IsB (pNeg 64 b))), (2, .box 34 2 (Zero2)), (3, .val (IsB false)), (39, .val (EnvV))]) 1 H22 rfl tyI rfl (.tmp 0 rfl) shape_Z shape_I rfl rfl ?_
    clear H22 w22
    intro w23 H23
    refine ops_done ?_
    refine then_normal ?_
    refine wp_seq ?_
    refine wp_seq ?_
    refine flow_region (dsts := [some 33]) (refs := [[.pre 2]]) (outs := [.res 0, .pre 1, .pre 3, .pre 4, .pre 5]) (als := [false]) (posts := [.val (IsB (pNeg 64 b))])
      (out := [(33, .val (IsB (pNeg 64 b))), (9, .box 34 2 (IsI q)), (2, .box 34 2 (Zero2)), (3, .val (IsB false)), (39, .val (EnvV))]) (nb := []) H23 1 [] rfl (by kernel_rfl) rfl rfl ?_ ?_
    · refine .cons (.plain rfl (ok_move (.tmp 0 rfl))) ?_
      exact .nil
    clear H23 a22 w23 B22
    intro a24 w24 B24 H24
    refine ops_done ?_
    refine then_normal ?_
    refine f_cond H24 (.tmp 0 rfl) ?_ ?_
    · intro hc25
      refine flow_region (dsts := [some 34, some 35, some 36, some 37]) (refs := [[.pre 1], [.res 0], [], [.res 1, .res 2]]) (outs := [.res 3, .pre 1, .pre 2, .pre 3, .pre 4]) (als := [false, false, false, false]) (posts := [.val (IsI q), .val (IsI (-q)), .val (IsI 1), .val (IsI ((-q) - 1))])
        (out := [(37, .val (IsI ((-q) - 1))), (9, .box 34 2 (IsI q)), (2, .box 34 2 (Zero2)), (3, .val (IsB false)), (39, .val (EnvV))]) (nb := []) H24 4 [4] rfl (by kernel_rfl) rfl rfl ?_ ?_
      · refine .cons (.plain rfl (ok_load tyI (.tmp 0 rfl))) ?_
        refine .cons (.plain rfl (ok_call (con_neg q) (.cons (.weak (.tmp 0 rfl) weakIN) (.nil)))) ?_
        refine .cons (.plain rfl (ok_call (con_from 1 (by omega)) (.cons (.lit) (.nil)))) ?_
        refine .cons (.plain rfl (ok_call (con_sub (-q) 1 ((((FitK.i64 hq).neg.sub (FitK.small (N := 1) (by decide)))).fits (by omega))) (.cons (.weak (.tmp 0 rfl) weakIN) (.cons (.weak (.tmp 1 rfl) weakIN) (.nil))))) ?_
        exact .nil
      clear H24 a24 w24 B24
      intro a26 w26 B26 H26
      refine ops_one ?_
      refine store_op (l' := [(37, .val (IsI ((-q) - 1))), (9, .box 34 2 (IsI ((-q) - 1))), (2, .box 34 2 (Zero2)), (3, .val (IsB false)), (39, .val (EnvV))]) 1 H26 rfl tyI rfl (.tmp 0 rfl) shape_I shape_I rfl rfl ?_
      clear H26 w26
      intro w27 H27
      refine ops_done ?_
      refine then_normal ?_
      refine wp_seq ?_
      refine flow_region (dsts := [some 38]) (refs := [[.pre 1]]) (outs := [.res 0, .pre 2, .pre 3, .pre 4]) (als := [false]) (posts := [.val (IsI ((-q) - 1))])
        (out := [(38, .val (IsI ((-q) - 1))), (2, .box 34 2 (Zero2)), (3, .val (IsB false)), (39, .val (EnvV))]) (nb := []) H27 1 [1, 2] rfl (by kernel_rfl) rfl rfl ?_ ?_
      · refine .cons (.plain rfl (ok_load tyI (.tmp 0 rfl))) ?_
        exact .nil
      clear H27 a26 w27 B26
      intro a28 w28 B28 H28
      refine ops_one ?_
      refine store_op (l' := [(38, .val (IsI ((-q) - 1))), (2, .box 34 2 (IsI ((-q) - 1))), (3, .val (IsB false)), (39, .val (EnvV))]) 1 H28 rfl tyI rfl (.tmp 0 rfl) shape_Z shape_I rfl rfl ?_
      clear H28 w28
      intro w29 H29
      refine ops_one ?_
      refine tail_op (D := .val (IsB true)) (l' := [(3, .val (IsB true)), (38, .val (IsI ((-q) - 1))), (2, .box 34 2 (IsI ((-q) - 1))), (39, .val (EnvV))]) H29 rfl rfl rfl (.plain rfl (ok_assign (.lit))) rfl rfl ?_
      clear H29 a28 w29 B28
      intro a30 w30 B30 H30
      refine ops_done ?_
      refine then_normal ?_
      refine wp_ret ?_
      exact f_retN H30 rfl rfl (.cell 2 tyI rfl (fun v w B h => isI_e (by rw [hfl]; first | rw [if_pos (by assumption)] | rw [if_neg (by simp [*])]) h) (.tmp 0 rfl (fun _ _ _ h => h) (.nil)))
    · intro hc25
      refine wp_skip ?_
      refine then_normal ?_
      refine wp_seq ?_
      refine flow_region (dsts := [some 38]) (refs := [[.pre 1]]) (outs := [.res 0, .pre 2, .pre 3, .pre 4]) (als := [false]) (posts := [.val (IsI q)])
        (out := [(38, .val (IsI q)), (2, .box 34 2 (Zero2)), (3, .val (IsB false)), (39, .val (EnvV))]) (nb := []) H24 1 [1, 2] rfl (by kernel_rfl) rfl rfl ?_ ?_
      · refine .cons (.plain rfl (ok_load tyI (.tmp 0 rfl))) ?_
        exact .nil
      clear H24 a24 w24 B24
      intro a31 w31 B31 H31
      refine ops_one ?_
      refine store_op (l' := [(38, .val (IsI q)), (2, .box 34 2 (IsI q)), (3, .val (IsB false)), (39, .val (EnvV))]) 1 H31 rfl tyI rfl (.tmp 0 rfl) shape_Z shape_I rfl rfl ?_
      clear H31 w31
      intro w32 H32
      refine ops_one ?_
      refine tail_op (D := .val (IsB true)) (l' := [(3, .val (IsB true)), (38, .val (IsI q)), (2, .box 34 2 (IsI q)), (39, .val (EnvV))]) H32 rfl rfl rfl (.plain rfl (ok_assign (.lit))) rfl rfl ?_
      clear H32 a31 w32 B31
      intro a33 w33 B33 H33
      refine ops_done ?_
      refine then_normal ?_
      refine wp_ret ?_
      exact f_retN H33 rfl rfl (.cell 2 tyI rfl (fun v w B h => isI_e (by rw [hfl]; first | rw [if_pos (by assumption)] | rw [if_neg (by simp [*])]) h) (.tmp 0 rfl (fun _ _ _ h => h) (.nil)))
end Go.Proofs.YtoimhjcpeifegaaGreatDoor

