/- Contracts of functions, and plain facts, part 43. -/
import Derived.Test.YtoimhjcpeifegaaGreatDoorPk41
import Derived.Test.YtoimhjcpeifegaaGreatDoorPk42
set_option linter.unusedVariables false
set_option linter.unusedSimpArgs false
/- Two patterns have one number just if they are one value: plain. -/
set_option maxRecDepth 50000
namespace Go.Proofs.YtoimhjcpeifegaaGreatDoor
open Go Go.RowKit

theorem hx64 {x : Int} (h : 0 ≤ x ∧ x < 18446744073709551616) : 0 ≤ x ∧ x < 2 ^ 64 := by rw [show (2 : Int) ^ 64 = 18446744073709551616 from by decide]; exact h
/-- A finite pattern's number in least steps. -/
theorem key_num {p : Int} (hp : 0 ≤ p ∧ p < 18446744073709551616) (h : pOk 64 p = true) : keyF p = (if negW 64 p then -((numN 52 (sizeW 64 p).toNat : Nat) : Int) else ((numN 52 (sizeW 64 p).toNat : Nat) : Int)) := by
  have hs := size_bounds w64 p (hx64 hp)
  have hlt : sizeW 64 p < infW 64 := of_decide_eq_true h
  obtain ⟨e1, e2, -⟩ := parts_size w64 p (hx64 hp)
  obtain ⟨k1, k2, -, -, -⟩ := parts_num w64 (sizeW 64 p) hs.1 hlt
  rw [e1, e2] at k2
  have k3 : pM 64 p * 2 ^ (pE 64 p + 1074).toNat = ((numN 52 (sizeW 64 p).toNat : Nat) : Int) := k2
  unfold keyF
  rw [pNeg_of p h]
  unfold sI
  split
  · rw [Int.neg_mul, k3]
  · rw [k3]
theorem key_cmp {p q : Int} (hp : 0 ≤ p ∧ p < 18446744073709551616) (hq : 0 ≤ q ∧ q < 18446744073709551616) (h1 : pOk 64 p = true) (h2 : pOk 64 q = true) : cmpI (keyF p) (keyF q) = cmpI (qk 64 p) (qk 64 q) := by
  rw [key_num hp h1, key_num hq h2]
  have s1 := size_bounds w64 p (hx64 hp)
  have s2 := size_bounds w64 q (hx64 hq)
  unfold qk
  obtain ⟨a, ha⟩ := Int.eq_ofNat_of_zero_le s1.1
  obtain ⟨b, hb⟩ := Int.eq_ofNat_of_zero_le s2.1
  rw [ha, hb, Int.toNat_natCast, Int.toNat_natCast]
  have z0 : numN 52 0 = 0 := numN_zero 52
  have ma : 0 < a → 0 < numN 52 a := fun h => by rw [← z0]; exact (numN_lt_iff 52 0 a).2 h
  have mb : 0 < b → 0 < numN 52 b := fun h => by rw [← z0]; exact (numN_lt_iff 52 0 b).2 h
  have za : a = 0 → numN 52 a = 0 := fun h => by rw [h, z0]
  have zb : b = 0 → numN 52 b = 0 := fun h => by rw [h, z0]
  have m1 := numN_lt_iff 52 a b
  have m2 := numN_lt_iff 52 b a
  have m3 : a = b → numN 52 a = numN 52 b := fun h => by rw [h]
  generalize numN 52 a = A at *
  generalize numN 52 b = B at *
  unfold cmpI
  cases negW 64 p <;> cases negW 64 q <;> simp only [Bool.false_eq_true, if_false, if_true]
  · rcases Nat.lt_trichotomy a b with h | h | h
    · have := m1.2 h; rw [if_pos (by omega), if_pos (by omega)]
    · have := m3 h; rw [if_neg (by omega), if_neg (by omega), if_neg (by omega), if_neg (by omega)]
    · have := m2.2 h; rw [if_neg (by omega), if_pos (by omega), if_neg (by omega), if_pos (by omega)]
  · by_cases h : a = 0 ∧ b = 0
    · have := za h.1; have := zb h.2; rw [if_neg (by omega), if_neg (by omega), if_neg (by omega), if_neg (by omega)]
    · have : 0 < A ∨ 0 < B := by
        rcases Nat.eq_zero_or_pos a with g | g
        · exact .inr (mb (by omega))
        · exact .inl (ma g)
      rw [if_neg (by omega), if_pos (by omega), if_neg (by omega), if_pos (by omega)]
  · by_cases h : a = 0 ∧ b = 0
    · have := za h.1; have := zb h.2; rw [if_neg (by omega), if_neg (by omega), if_neg (by omega), if_neg (by omega)]
    · have : 0 < A ∨ 0 < B := by
        rcases Nat.eq_zero_or_pos a with g | g
        · exact .inr (mb (by omega))
        · exact .inl (ma g)
      rw [if_pos (by omega), if_pos (by omega)]
  · rcases Nat.lt_trichotomy a b with h | h | h
    · have := m1.2 h; rw [if_neg (by omega), if_pos (by omega), if_neg (by omega), if_pos (by omega)]
    · have := m3 h; rw [if_neg (by omega), if_neg (by omega), if_neg (by omega), if_neg (by omega)]
    · have := m2.2 h; rw [if_pos (by omega), if_pos (by omega)]
/-- The number of a pattern that is a finite one. -/
theorem fin_of {p : Int} (hp : 0 ≤ p ∧ p < 18446744073709551616) (h : pOk 64 p = true) : ∃ o, whatV (ofV 64 p) = o ∧ isNo o = false ∧ endO o = 0 ∧ -1074 ≤ partE o ∧ partN o * 2 ^ (partE o + 1074).toNat = keyF p := by
  rcases of_cases p hp with ⟨h1, _, _⟩ | ⟨_, h2, _, _⟩ | ⟨_, N, h3⟩ | ⟨_, _, h3, h4, _, _⟩
  · rw [(not_nan p h).1] at h1; cases h1
  · exact absurd h2 ((cls_of (W := 64) p).2.2 h).1
  · rw [h3]
    refine ⟨.exact N, rfl, rfl, rfl, by show (-1074 : Int) ≤ 0; omega, ?_⟩
    have hi : intOk 64 p = true := by
      by_cases hi : intOk 64 p = true
      · exact hi
      · rw [of_no (by simpa using hi)] at h3; cases h3
    rw [of_yes hi] at h3
    injection h3 with h3
    show N * 2 ^ (0 + 1074 : Int).toNat = _
    rw [← h3]
    have h5 : 0 ≤ pE 64 p := by
      unfold intOk at hi
      simp only [Bool.and_eq_true, decide_eq_true_eq] at hi
      exact hi.2
    unfold intN intV keyF sI
    rw [hi, if_pos rfl, show (pE 64 p + 1074).toNat = (pE 64 p).toNat + (0 + 1074 : Int).toNat by omega, Int.pow_add]
    generalize (2 : Int) ^ (0 + 1074 : Int).toNat = P
    generalize (2 : Int) ^ (pE 64 p).toNat = Q
    split
    · rw [Int.neg_mul, Int.neg_mul, Int.mul_assoc]
    · rw [Int.mul_assoc]
  · rw [h3, h4]
    refine ⟨.broken p, rfl, rfl, rfl, ?_, rfl⟩
    exact (pE_bd w64 p).1
theorem side_neg {p : Int} (hp : 0 ≤ p ∧ p < 18446744073709551616) : sideI p = if negW 64 p then -1 else 1 := by
  unfold sideI negW
  rw [show sgnW 64 = 9223372036854775808 from by decide]
  by_cases h : 9223372036854775808 ≤ p
  · rw [if_pos (by omega), decide_eq_true h]; rfl
  · rw [if_neg (by omega), decide_eq_false h]; rfl
theorem inf_of_ {p : Int} (hp : 0 ≤ p ∧ p < 18446744073709551616) (h : sizeW 64 p = infW 64) : whatV (ofV 64 p) = .endless p ∧ isNaN 64 p = false := by
  rcases of_cases p hp with ⟨h1, _, _⟩ | ⟨h1, h2, h3, h4⟩ | ⟨h1, N, h3⟩ | ⟨h1, h2, h3, h4, h5, _⟩
  · unfold isNaN at h1; have := of_decide_eq_true h1; omega
  · rw [h3, h4]; exact ⟨rfl, h1⟩
  · exfalso
    have hi : intOk 64 p = true := by
      by_cases hi : intOk 64 p = true
      · exact hi
      · rw [of_no (by simpa using hi)] at h3; cases h3
    unfold intOk pOk at hi
    simp only [Bool.and_eq_true, decide_eq_true_eq] at hi
    omega
  · unfold pOk at h5; have := of_decide_eq_true h5; omega
theorem three_kinds (p : Int) : isNaN 64 p = true ∨ sizeW 64 p = infW 64 ∨ pOk 64 p = true := by
  unfold isNaN pOk
  rcases Int.lt_trichotomy (sizeW 64 p) (infW 64) with h | h | h
  · exact .inr (.inr (decide_eq_true h))
  · exact .inr (.inl h)
  · exact .inl (decide_eq_true h)
theorem cmp_of (p q : Int) (hp : 0 ≤ p ∧ p < 18446744073709551616) (hq : 0 ≤ q ∧ q < 18446744073709551616) : cmpO (whatV (ofV 64 p)) (whatV (ofV 64 q)) = cmpW 64 p q := by
  rw [cmp_qk w64 p q (hx64 hp) (hx64 hq)]
  have nanw : ∀ p : Int, (0 ≤ p ∧ p < 18446744073709551616) → isNaN 64 p = true → ∃ v, whatV (ofV 64 p) = .nothing v := fun p hp h => by
    rcases of_cases p hp with ⟨h1, h2, h3⟩ | ⟨h1, _⟩ | ⟨h1, _⟩ | ⟨h1, _⟩
    · exact ⟨_, by rw [h2]; exact h3⟩
    · rw [h] at h1; cases h1
    · rw [h] at h1; cases h1
    · rw [h] at h1; cases h1
  have s1 := size_bounds w64 p (hx64 hp)
  have s2 := size_bounds w64 q (hx64 hq)
  have hI : infW 64 = 9218868437227405312 := by decide
  rcases three_kinds p with h1 | h1 | h1
  · obtain ⟨v, hv⟩ := nanw p hp h1
    rw [hv, cmpO_no1, h1]; rfl
  · obtain ⟨e1, n1⟩ := inf_of_ hp h1
    rcases three_kinds q with h2 | h2 | h2
    · obtain ⟨v, hv⟩ := nanw q hq h2
      rw [hv, cmpO_no2, h2, Bool.or_true]; rfl
    · obtain ⟨e2, n2⟩ := inf_of_ hq h2
      rw [e1, e2, n1, n2, cmpO_end (.endless p) (.endless q) rfl rfl (.inl (sideI_ne p))]
      show (clampI (sideI p - sideI q), true) = (cmpI (qk 64 p) (qk 64 q), true)
      rw [side_neg hp, side_neg hq]
      unfold qk
      rw [h1, h2, hI]
      cases negW 64 p <;> cases negW 64 q <;> decide
    · obtain ⟨o, eo, i1, i2, i3, i4⟩ := fin_of hq h2
      have hlt : sizeW 64 q < infW 64 := of_decide_eq_true h2
      rw [e1, eo, n1, (not_nan q h2).1, cmpO_end (.endless p) o rfl i1 (.inl (sideI_ne p)), i2]
      show (clampI (sideI p - 0), true) = (cmpI (qk 64 p) (qk 64 q), true)
      rw [side_neg hp]
      unfold qk
      rw [h1]
      cases negW 64 p
      · rw [cmpI_gt (by simp; split <;> omega)]; rfl
      · rw [cmpI_lt (by simp; split <;> omega)]; rfl
  · obtain ⟨o, eo, i1, i2, i3, i4⟩ := fin_of hp h1
    have hlt : sizeW 64 p < infW 64 := of_decide_eq_true h1
    rcases three_kinds q with h2 | h2 | h2
    · obtain ⟨v, hv⟩ := nanw q hq h2
      rw [hv, cmpO_no2, h2, Bool.or_true]; rfl
    · obtain ⟨e2, n2⟩ := inf_of_ hq h2
      rw [e2, eo, n2, (not_nan p h1).1, cmpO_end o (.endless q) i1 rfl (.inr (sideI_ne q)), i2]
      show (clampI (0 - sideI q), true) = (cmpI (qk 64 p) (qk 64 q), true)
      rw [side_neg hq]
      unfold qk
      rw [h2]
      cases negW 64 q
      · rw [cmpI_lt (by simp; split <;> omega)]; rfl
      · rw [cmpI_gt (by simp; split <;> omega)]; rfl
    · obtain ⟨o2, eo2, j1, j2, j3, j4⟩ := fin_of hq h2
      rw [eo, eo2, (not_nan p h1).1, (not_nan q h2).1, cmpO_fin _ _ i1 j1 i2 j2, cmpFin_key _ _ _ _ i3 j3, i4, j4, key_cmp hp hq h1 h2]
      rfl
theorem cmpI_zero_iff (a b : Int) : cmpI a b = 0 ↔ a = b := by
  unfold cmpI
  constructor
  · intro h
    split at h
    · omega
    · split at h <;> omega
  · rintro rfl
    simp
theorem nan_of {p : Int} (hp : 0 ≤ p ∧ p < 18446744073709551616) (h : isNaN 64 p = true) : ofV 64 p = .flt 9221120237041090560 := by
  rcases of_cases p hp with ⟨h1, h2, h3⟩ | ⟨h1, _⟩ | ⟨h1, _⟩ | ⟨h1, _⟩
  · exact h2
  · rw [h] at h1; cases h1
  · rw [h] at h1; cases h1
  · rw [h] at h1; cases h1
theorem nan_ne {p q : Int} (hp : 0 ≤ p ∧ p < 18446744073709551616) (hq : 0 ≤ q ∧ q < 18446744073709551616) (h : isNaN 64 p = true) (h2 : isNaN 64 q = false) : ofV 64 p ≠ ofV 64 q := by
  rw [nan_of hp h]
  rcases of_cases q hq with ⟨h1, _, _⟩ | ⟨_, _, h3, _⟩ | ⟨_, N, h3⟩ | ⟨_, _, h3, _⟩
  · rw [h2] at h1; cases h1
  · rw [h3]; intro e; injection e with e; rw [← e] at h2; exact absurd h2 (by decide)
  · rw [h3]; intro e; cases e
  · rw [h3]; intro e; injection e with e; rw [← e] at h2; exact absurd h2 (by decide)
/-- Equal patterns' numbers are one value, and the other way round. -/
theorem qk_same {p q : Int} (hp : 0 ≤ p ∧ p < 18446744073709551616) (hq : 0 ≤ q ∧ q < 18446744073709551616) (h1 : isNaN 64 p = false) (h2 : isNaN 64 q = false) : qk 64 p = qk 64 q ↔ ofV 64 p = ofV 64 q := by
  have s1 := size_bounds w64 p (hx64 hp)
  have s2 := size_bounds w64 q (hx64 hq)
  constructor
  · intro h
    rcases neg_size (W := 64) p with ⟨a1, a2, a3⟩ | ⟨a1, a2, a3⟩ <;> rcases neg_size (W := 64) q with ⟨b1, b2, b3⟩ | ⟨b1, b2, b3⟩ <;> unfold qk at h <;> rw [a1, b1] at h <;> simp only [Bool.false_eq_true, if_false, if_true] at h
    · rw [show p = q by omega]
    · have z1 : p = 9223372036854775808 := by rw [show sgnW 64 = 9223372036854775808 from by decide] at a2; omega
      have z2 : q = 0 := by omega
      rw [z1, z2, of_yes (by decide), of_yes (by decide)]
      congr 1
    · have z1 : q = 9223372036854775808 := by rw [show sgnW 64 = 9223372036854775808 from by decide] at b2; omega
      have z2 : p = 0 := by omega
      rw [z1, z2, of_yes (by decide), of_yes (by decide)]
      congr 1
    · rw [show p = q by omega]
  · intro h
    have hc := cmp_of p q hp hq
    rw [h] at hc
    have hs : (cmpO (whatV (ofV 64 q)) (whatV (ofV 64 q))) = (0, true) := by
      rw [cmp_of q q hq hq, cmp_qk w64 q q (hx64 hq) (hx64 hq), h2]
      show (cmpI (qk 64 q) (qk 64 q), true) = _
      rw [(cmpI_zero_iff _ _).2 rfl]
    rw [hs, cmp_qk w64 p q (hx64 hp) (hx64 hq), h1, h2] at hc
    have h3 : (0 : Int) = cmpI (qk 64 p) (qk 64 q) := congrArg Prod.fst hc
    exact (cmpI_zero_iff _ _).1 h3.symm
/-- How two patterns may stand. -/
theorem one_cases (p q : Int) (hp : 0 ≤ p ∧ p < 18446744073709551616) (hq : 0 ≤ q ∧ q < 18446744073709551616) :
    (isNaN 64 p = true ∧ isNaN 64 q = true ∧ cmpW 64 p q = (0, false) ∧ ofV 64 p = ofV 64 q) ∨ (isNaN 64 p = true ∧ isNaN 64 q = false ∧ cmpW 64 p q = (0, false) ∧ ofV 64 p ≠ ofV 64 q) ∨
    (isNaN 64 p = false ∧ cmpW 64 p q = (0, false) ∧ ofV 64 p ≠ ofV 64 q) ∨ (cmpW 64 p q = (0, true) ∧ ofV 64 p = ofV 64 q) ∨ (isNaN 64 p = false ∧ ∃ n, cmpW 64 p q = (n, true) ∧ n ≠ 0 ∧ ofV 64 p ≠ ofV 64 q) := by
  have hc := cmp_qk w64 p q (hx64 hp) (hx64 hq)
  by_cases h1 : isNaN 64 p = true
  · have hc' : cmpW 64 p q = (0, false) := by rw [hc, h1]; rfl
    by_cases h2 : isNaN 64 q = true
    · exact .inl ⟨h1, h2, hc', by rw [nan_of hp h1, nan_of hq h2]⟩
    · have h2' : isNaN 64 q = false := by simpa using h2
      exact .inr (.inl ⟨h1, h2', hc', nan_ne hp hq h1 h2'⟩)
  · have h1' : isNaN 64 p = false := by simpa using h1
    by_cases h2 : isNaN 64 q = true
    · have hc' : cmpW 64 p q = (0, false) := by rw [hc, h2, Bool.or_true]; rfl
      exact .inr (.inr (.inl ⟨h1', hc', fun e => nan_ne hq hp h2 h1' e.symm⟩))
    · have h2' : isNaN 64 q = false := by simpa using h2
      have hc' : cmpW 64 p q = (cmpI (qk 64 p) (qk 64 q), true) := by rw [hc, h1', h2']; rfl
      by_cases h3 : qk 64 p = qk 64 q
      · exact .inr (.inr (.inr (.inl ⟨by rw [hc', (cmpI_zero_iff _ _).2 h3], (qk_same hp hq h1' h2').1 h3⟩)))
      · exact .inr (.inr (.inr (.inr ⟨h1', _, hc', fun e => h3 ((cmpI_zero_iff _ _).1 e), fun e => h3 ((qk_same hp hq h1' h2').2 e)⟩)))
/-- A pattern made wider is the same value. -/
theorem of_wide {W : Nat} (hW : Wide W) (x : Int) (hx : 0 ≤ x ∧ x < 2 ^ W) : ofV 64 (toW 64 W x).1 = ofV W x := by
  have hb := toW_bd2 w64 W x
  rw [show (2 : Int) ^ 64 = 18446744073709551616 from by decide] at hb
  rcases to_cases hW x hx with ⟨h1, h2⟩ | ⟨h1, h2, h3⟩ | ⟨h1, h2, h3, h4, h5⟩
  · have hi : intOk W x = false := by unfold intOk pOk; unfold isNaN at h1; have := of_decide_eq_true h1; rw [decide_eq_false (by omega)]; rfl
    rw [of_no hi, h2, nan_of (by decide) (by decide)]
    rfl
  · have hi : intOk W x = false := by unfold intOk pOk; rw [decide_eq_false (by omega)]; rfl
    obtain ⟨k1, k2, k3, k4⟩ := inf_facts w64 (negW W x)
    have hi2 : intOk 64 (toW 64 W x).1 = false := by rw [h3]; unfold intOk; rw [k3]; rfl
    rw [of_no hi, of_no hi2, to_self _ hb (by rw [h3]; exact k4)]
  · obtain ⟨e1, e2⟩ := int_same x (toW 64 W x).1 (h2.trans h1.symm) h3 h4 h5
    by_cases hi : intOk W x = true
    · rw [of_yes hi, of_yes (e1.trans hi), e2]
    · have hi' : intOk W x = false := by simpa using hi
      rw [of_no hi', of_no (e1.trans hi'), to_self _ hb (not_nan _ h2).1]
end Go.Proofs.YtoimhjcpeifegaaGreatDoor


/- A value back from its patterns: plain. -/
set_option maxRecDepth 50000
namespace Go.Proofs.YtoimhjcpeifegaaGreatDoor
open Go Go.RowKit

theorem two64 : (2 : Int) ^ 64 = 18446744073709551616 := by decide
theorem from_exact (N : Int) (h : (fromW 64 N).2 = true) : intOk 64 (fromW 64 N).1 = true ∧ intN 64 (fromW 64 N).1 = N := by
  have hy : (fromW 64 N).1 = (if decide (N < 0) = true then sgnW 64 else 0) + ((nearE 64 (rM (N.natAbs : Int) false) (rE 0 false) : Nat) : Int) := rfl
  have hE : ((nearE 64 (rM (N.natAbs : Int) false) (rE 0 false) : Nat) : Int) < sgnW 64 := Int.lt_of_le_of_lt (Int.ofNat_le.2 (nearE_le 64 _ _)) (infN_lt w64)
  have hs : (0 : Int) < sgnW 64 := by decide
  have h2 : (intOk 64 (fromW 64 N).1 && decide ((intN 64 (fromW 64 N).1).natAbs = N.natAbs)) = true := h
  rw [Bool.and_eq_true, decide_eq_true_eq] at h2
  obtain ⟨h3, h4⟩ := h2
  refine ⟨h3, ?_⟩
  have hp : pOk 64 (fromW 64 N).1 = true := by
    unfold intOk at h3
    rw [Bool.and_eq_true] at h3
    exact h3.1
  have hn : negW 64 (fromW 64 N).1 = decide (N < 0) := by
    unfold negW
    rw [hy]
    by_cases h : N < 0
    · rw [decide_eq_true h, if_pos rfl]
      exact decide_eq_true (by omega)
    · rw [decide_eq_false h, if_neg (by decide)]
      exact decide_eq_false (by omega)
  generalize (fromW 64 N).1 = y at *
  have hV : 0 ≤ intV 64 y := by
    unfold intV
    rw [if_pos h3]
    exact Int.mul_nonneg (pM_bd w64 y).1 (Int.pow_nonneg (by omega))
  unfold intN at h4 ⊢
  unfold pNeg at h4 ⊢
  rw [hp, hn, Bool.true_and] at h4 ⊢
  by_cases h : N < 0
  · rw [decide_eq_true h] at h4 ⊢
    simp only [if_true] at h4 ⊢
    omega
  · rw [decide_eq_false h] at h4 ⊢
    simp only [Bool.false_eq_true, if_false] at h4 ⊢
    omega
/-- Of a number that may be, its pattern is it. -/
theorem back1 (z : NV) (hz : okNV z) (b : Int) (h : bitsO (whatV z) = (b, true)) : ofV 64 b = z ∧ 0 ≤ b ∧ b < 18446744073709551616 := by
  cases z with
  | int X =>
    have h : (if (fromW 64 X).2 = true then ((fromW 64 X).1, true) else (0, false)) = (b, true) := h
    by_cases hf : (fromW 64 X).2 = true
    · rw [if_pos hf] at h
      obtain ⟨h1, h2⟩ := from_exact X hf
      injection h with h _
      subst h
      refine ⟨by rw [of_yes h1, h2], ?_⟩
      have := roundW_bd w64 (decide (X < 0)) (X.natAbs : Int) 0 false
      rw [two64] at this
      exact this
    · rw [if_neg hf] at h
      injection h with _ h
      cases h
  | flt c =>
    rw [show whatV (.flt c) = oneF c from rfl, bits_flt] at h
    injection h with h _
    subst h
    refine ⟨?_, hz.1⟩
    have hf := hz.2
    unfold fltB at hf
    rcases three_kinds c with h1 | h1 | h1
    · rw [(cls_of (W := 64) c).1 h1] at hf
      rw [nan_of hz.1 h1]
      rw [if_pos rfl, decide_eq_true_eq] at hf
      rw [hf]
    · have hn : isNaN 64 c = false := (inf_of_ hz.1 h1).2
      have hi : intOk 64 c = false := by
        unfold intOk pOk
        rw [decide_eq_false (by omega)]
        rfl
      rw [of_no hi, to_self c hz.1 hn]
    · obtain ⟨c1, c2⟩ := (cls_of (W := 64) c).2.2 h1
      rw [if_neg c2, if_neg c1] at hf
      have hi : intOk 64 c = false := by simpa using hf
      rw [of_no hi, to_self c hz.1 (not_nan c h1).1]
/-- ... and so is the narrower one. -/
theorem back_nar {V : Nat} (hV : Wide V) (b : Int) (hb : 0 ≤ b ∧ b < 18446744073709551616) (h : (toW V 64 b).2 = true) : ofV V (toW V 64 b).1 = ofV 64 b := by
  have hy := toW_bd2 hV 64 b
  rw [← of_wide hV _ hy]
  obtain ⟨k1, k2⟩ := back_facts hV w64 b (by rw [two64]; exact hb)
  by_cases hn : isNaN 64 b = true
  · rw [(k1 hn).2.2, nan_of (by decide) (by decide), nan_of hb hn]
  · have hn : isNaN 64 b = false := by simpa using hn
    have := (k2 hn).1
    rw [h] at this
    rw [of_decide_eq_true this.symm]
theorem back_v (z : NV) (hz : okNV z) : (bitsO (whatV z)).2 = false ∨ ∃ b y, bitsO (whatV z) = (b, true) ∧ ofV 64 b = z ∧ (0 ≤ b ∧ b < 18446744073709551616) ∧
    ((narrowP (b, true) = (16, y, true) ∧ ofV 16 y = z ∧ 0 ≤ y ∧ y < 65536) ∨ (narrowP (b, true) = (32, y, true) ∧ ofV 32 y = z ∧ 0 ≤ y ∧ y < 4294967296) ∨ (narrowP (b, true) = (64, y, true) ∧ ofV 64 y = z ∧ 0 ≤ y ∧ y < 18446744073709551616)) := by
  cases hq : (bitsO (whatV z)).2 with
  | false => exact .inl rfl
  | true =>
    have h : bitsO (whatV z) = ((bitsO (whatV z)).1, true) := by rw [← hq]
    obtain ⟨h1, h2⟩ := back1 z hz _ h
    generalize (bitsO (whatV z)).1 = b at *
    refine .inr ?_
    by_cases h16 : (toW 16 64 b).2 = true
    · have hy := toW_bd2 (V := 16) w16 64 b
      rw [show (2 : Int) ^ 16 = 65536 from by decide] at hy
      exact ⟨b, _, h, h1, h2, .inl ⟨nar_16 h16, (back_nar w16 b h2 h16).trans h1, hy⟩⟩
    · have h16 : (toW 16 64 b).2 = false := by simpa using h16
      by_cases h32 : (toW 32 64 b).2 = true
      · have hy := toW_bd2 (V := 32) w32 64 b
        rw [show (2 : Int) ^ 32 = 4294967296 from by decide] at hy
        exact ⟨b, _, h, h1, h2, .inr (.inl ⟨nar_32 h16 h32, (back_nar w32 b h2 h32).trans h1, hy⟩)⟩
      · have h32 : (toW 32 64 b).2 = false := by simpa using h32
        exact ⟨b, b, h, h1, h2, .inr (.inr ⟨nar_64 h16 h32, h1, h2⟩)⟩
/-- Of any pattern. -/
theorem back_x (x : Int) (hx : 0 ≤ x ∧ x < 18446744073709551616) : (isNaN 64 x = true ∧ ofV 64 x = .flt 9221120237041090560 ∧ bitsO (whatV (.flt 9221120237041090560)) = (9221120237041090560, true)) ∨
    (isNaN 64 x = false ∧ ∃ z b, ofV 64 x = z ∧ bitsO (whatV z) = (b, true) ∧ (0 ≤ b ∧ b < 18446744073709551616) ∧ cmpW 64 x b = (0, true) ∧ (decide (z.k = 3) == intOk 64 x) = true) := by
  rcases p_cases x hx with ⟨h1, h2, h3⟩ | ⟨h1, h2⟩ | ⟨h1, h2, h3, h4⟩
  · exact .inl ⟨h1, h2, by rw [h2] at h3; exact h3⟩
  all_goals
    refine .inr ⟨h1, _, _, rfl, by assumption, ?_, ?_, ?_⟩
    · first | exact hx | decide
    · have hok := ok_of w64 x (by rw [two64]; exact hx)
      obtain ⟨hb1, hb2⟩ := back1 _ hok _ (by assumption)
      rcases one_cases x _ hx hb2 with ⟨n1, _⟩ | ⟨n1, _⟩ | ⟨_, _, hc⟩ | ⟨hc, _⟩ | ⟨_, _, _, _, hc⟩
      · rw [h1] at n1; cases n1
      · rw [h1] at n1; cases n1
      · exact absurd hb1.symm hc
      · exact hc
      · exact absurd hb1.symm hc
    · unfold ofV
      by_cases hi : intOk 64 x = true
      · rw [if_pos hi, hi]; rfl
      · have hi' : intOk 64 x = false := by simpa using hi
        rw [if_neg hi, hi']; rfl
end Go.Proofs.YtoimhjcpeifegaaGreatDoor

