/- Contracts of functions, and plain facts, part 30. -/
import Derived.Test.YtoimhjcpeifegaaGreatDoorPk21
import Derived.Test.YtoimhjcpeifegaaGreatDoorPk29
set_option linter.unusedVariables false
set_option linter.unusedSimpArgs false
/- Two patterns have one number just if they are one value: plain. -/
set_option maxRecDepth 50000
namespace Go.Proofs.YtoimhjcpeifegaaGreatDoor
open Go Go.RowKit

theorem hx64 {x : Int} (h : 0 ≤ x ∧ x < 18446744073709551616) : 0 ≤ x ∧ x < 2 ^ 64 := by rw [show (2 : Int) ^ 64 = 18446744073709551616 from by decide]; exact h
/-- A finite pattern's number in least steps. -/
theorem key_num {p : Int} (hp : 0 ≤ p ∧ p < 18446744073709551616) (h : pOk 64 p = true) : keyF p = (if negW 64 p then -((numN 52 (sizeW 64 p).toNat : Nat) : Int) else ((numN 52 (sizeW 64 p).toNat : Nat) : Int)) := by
  have hs := size_bounds w64 p (hx64 hp)
  have hlt : sizeW 64 p < infW 64 := of_decide_eq_true h
  obtain ⟨e1, e2, -⟩ := parts_size w64 p (hx64 hp)
  obtain ⟨k1, k2, -, -, -⟩ := parts_num w64 (sizeW 64 p) hs.1 hlt
  rw [e1, e2] at k2
  have k3 : pM 64 p * 2 ^ (pE 64 p + 1074).toNat = ((numN 52 (sizeW 64 p).toNat : Nat) : Int) := k2
  unfold keyF
  rw [pNeg_of p h]
  unfold sI
  split
  · rw [Int.neg_mul, k3]
  · rw [k3]
theorem key_cmp {p q : Int} (hp : 0 ≤ p ∧ p < 18446744073709551616) (hq : 0 ≤ q ∧ q < 18446744073709551616) (h1 : pOk 64 p = true) (h2 : pOk 64 q = true) : cmpI (keyF p) (keyF q) = cmpI (qk 64 p) (qk 64 q) := by
  rw [key_num hp h1, key_num hq h2]
  have s1 := size_bounds w64 p (hx64 hp)
  have s2 := size_bounds w64 q (hx64 hq)
  unfold qk
  obtain ⟨a, ha⟩ := Int.eq_ofNat_of_zero_le s1.1
  obtain ⟨b, hb⟩ := Int.eq_ofNat_of_zero_le s2.1
  rw [ha, hb, Int.toNat_natCast, Int.toNat_natCast]
  have z0 : numN 52 0 = 0 := numN_zero 52
  have ma : 0 < a → 0 < numN 52 a := fun h => by rw [← z0]; exact (numN_lt_iff 52 0 a).2 h
  have mb : 0 < b → 0 < numN 52 b := fun h => by rw [← z0]; exact (numN_lt_iff 52 0 b).2 h
  have za : a = 0 → numN 52 a = 0 := fun h => by rw [h, z0]
  have zb : b = 0 → numN 52 b = 0 := fun h => by rw [h, z0]
  have m1 := numN_lt_iff 52 a b
  have m2 := numN_lt_iff 52 b a
  have m3 : a = b → numN 52 a = numN 52 b := fun h => by rw [h]
  generalize numN 52 a = A at *
  generalize numN 52 b = B at *
  unfold cmpI
  cases negW 64 p <;> cases negW 64 q <;> simp only [Bool.false_eq_true, if_false, if_true]
  · rcases Nat.lt_trichotomy a b with h | h | h
    · have := m1.2 h; rw [if_pos (by omega), if_pos (by omega)]
    · have := m3 h; rw [if_neg (by omega), if_neg (by omega), if_neg (by omega), if_neg (by omega)]
    · have := m2.2 h; rw [if_neg (by omega), if_pos (by omega), if_neg (by omega), if_pos (by omega)]
  · by_cases h : a = 0 ∧ b = 0
    · have := za h.1; have := zb h.2; rw [if_neg (by omega), if_neg (by omega), if_neg (by omega), if_neg (by omega)]
    · have : 0 < A ∨ 0 < B := by
        rcases Nat.eq_zero_or_pos a with g | g
        · exact .inr (mb (by omega))
        · exact .inl (ma g)
      rw [if_neg (by omega), if_pos (by omega), if_neg (by omega), if_pos (by omega)]
  · by_cases h : a = 0 ∧ b = 0
    · have := za h.1; have := zb h.2; rw [if_neg (by omega), if_neg (by omega), if_neg (by omega), if_neg (by omega)]
    · have : 0 < A ∨ 0 < B := by
        rcases Nat.eq_zero_or_pos a with g | g
        · exact .inr (mb (by omega))
        · exact .inl (ma g)
      rw [if_pos (by omega), if_pos (by omega)]
  · rcases Nat.lt_trichotomy a b with h | h | h
    · have := m1.2 h; rw [if_neg (by omega), if_pos (by omega), if_neg (by omega), if_pos (by omega)]
    · have := m3 h; rw [if_neg (by omega), if_neg (by omega), if_neg (by omega), if_neg (by omega)]
    · have := m2.2 h; rw [if_pos (by omega), if_pos (by omega)]
/-- The number of a pattern that is a finite one. -/
theorem fin_of {p : Int} (hp : 0 ≤ p ∧ p < 18446744073709551616) (h : pOk 64 p = true) : ∃ o, whatV (ofV 64 p) = o ∧ isNo o = false ∧ endO o = 0 ∧ -1074 ≤ partE o ∧ partN o * 2 ^ (partE o + 1074).toNat = keyF p := by
  rcases of_cases p hp with ⟨h1, _, _⟩ | ⟨_, h2, _, _⟩ | ⟨_, N, h3⟩ | ⟨_, _, h3, h4, _, _⟩
  · rw [(not_nan p h).1] at h1; cases h1
  · exact absurd h2 ((cls_of (W := 64) p).2.2 h).1
  · rw [h3]
    refine ⟨.exact N, rfl, rfl, rfl, by show (-1074 : Int) ≤ 0; omega, ?_⟩
    have hi : intOk 64 p = true := by
      by_cases hi : intOk 64 p = true
      · exact hi
      · rw [of_no (by simpa using hi)] at h3; cases h3
    rw [of_yes hi] at h3
    injection h3 with h3
    show N * 2 ^ (0 + 1074 : Int).toNat = _
    rw [← h3]
    have h5 : 0 ≤ pE 64 p := by
      unfold intOk at hi
      simp only [Bool.and_eq_true, decide_eq_true_eq] at hi
      exact hi.2
    unfold intN intV keyF sI
    rw [hi, if_pos rfl, show (pE 64 p + 1074).toNat = (pE 64 p).toNat + (0 + 1074 : Int).toNat by omega, Int.pow_add]
    generalize (2 : Int) ^ (0 + 1074 : Int).toNat = P
    generalize (2 : Int) ^ (pE 64 p).toNat = Q
    split
    · rw [Int.neg_mul, Int.neg_mul, Int.mul_assoc]
    · rw [Int.mul_assoc]
  · rw [h3, h4]
    refine ⟨.broken p, rfl, rfl, rfl, ?_, rfl⟩
    exact (pE_bd w64 p).1
theorem side_neg {p : Int} (hp : 0 ≤ p ∧ p < 18446744073709551616) : sideI p = if negW 64 p then -1 else 1 := by
  unfold sideI negW
  rw [show sgnW 64 = 9223372036854775808 from by decide]
  by_cases h : 9223372036854775808 ≤ p
  · rw [if_pos (by omega), decide_eq_true h]; rfl
  · rw [if_neg (by omega), decide_eq_false h]; rfl
theorem inf_of_ {p : Int} (hp : 0 ≤ p ∧ p < 18446744073709551616) (h : sizeW 64 p = infW 64) : whatV (ofV 64 p) = .endless p ∧ isNaN 64 p = false := by
  rcases of_cases p hp with ⟨h1, _, _⟩ | ⟨h1, h2, h3, h4⟩ | ⟨h1, N, h3⟩ | ⟨h1, h2, h3, h4, h5, _⟩
  · unfold isNaN at h1; have := of_decide_eq_true h1; omega
  · rw [h3, h4]; exact ⟨rfl, h1⟩
  · exfalso
    have hi : intOk 64 p = true := by
      by_cases hi : intOk 64 p = true
      · exact hi
      · rw [of_no (by simpa using hi)] at h3; cases h3
    unfold intOk pOk at hi
    simp only [Bool.and_eq_true, decide_eq_true_eq] at hi
    omega
  · unfold pOk at h5; have := of_decide_eq_true h5; omega
theorem three_kinds (p : Int) : isNaN 64 p = true ∨ sizeW 64 p = infW 64 ∨ pOk 64 p = true := by
  unfold isNaN pOk
  rcases Int.lt_trichotomy (sizeW 64 p) (infW 64) with h | h | h
  · exact .inr (.inr (decide_eq_true h))
  · exact .inr (.inl h)
  · exact .inl (decide_eq_true h)
theorem cmp_of (p q : Int) (hp : 0 ≤ p ∧ p < 18446744073709551616) (hq : 0 ≤ q ∧ q < 18446744073709551616) : cmpO (whatV (ofV 64 p)) (whatV (ofV 64 q)) = cmpW 64 p q := by
  rw [cmp_qk w64 p q (hx64 hp) (hx64 hq)]
  have nanw : ∀ p : Int, (0 ≤ p ∧ p < 18446744073709551616) → isNaN 64 p = true → ∃ v, whatV (ofV 64 p) = .nothing v := fun p hp h => by
    rcases of_cases p hp with ⟨h1, h2, h3⟩ | ⟨h1, _⟩ | ⟨h1, _⟩ | ⟨h1, _⟩
    · exact ⟨_, by rw [h2]; exact h3⟩
    · rw [h] at h1; cases h1
    · rw [h] at h1; cases h1
    · rw [h] at h1; cases h1
  have s1 := size_bounds w64 p (hx64 hp)
  have s2 := size_bounds w64 q (hx64 hq)
  have hI : infW 64 = 9218868437227405312 := by decide
  rcases three_kinds p with h1 | h1 | h1
  · obtain ⟨v, hv⟩ := nanw p hp h1
    rw [hv, cmpO_no1, h1]; rfl
  · obtain ⟨e1, n1⟩ := inf_of_ hp h1
    rcases three_kinds q with h2 | h2 | h2
    · obtain ⟨v, hv⟩ := nanw q hq h2
      rw [hv, cmpO_no2, h2, Bool.or_true]; rfl
    · obtain ⟨e2, n2⟩ := inf_of_ hq h2
      rw [e1, e2, n1, n2, cmpO_end (.endless p) (.endless q) rfl rfl (.inl (sideI_ne p))]
      show (clampI (sideI p - sideI q), true) = (cmpI (qk 64 p) (qk 64 q), true)
      rw [side_neg hp, side_neg hq]
      unfold qk
      rw [h1, h2, hI]
      cases negW 64 p <;> cases negW 64 q <;> decide
    · obtain ⟨o, eo, i1, i2, i3, i4⟩ := fin_of hq h2
      have hlt : sizeW 64 q < infW 64 := of_decide_eq_true h2
      rw [e1, eo, n1, (not_nan q h2).1, cmpO_end (.endless p) o rfl i1 (.inl (sideI_ne p)), i2]
      show (clampI (sideI p - 0), true) = (cmpI (qk 64 p) (qk 64 q), true)
      rw [side_neg hp]
      unfold qk
      rw [h1]
      cases negW 64 p
      · rw [cmpI_gt (by simp; split <;> omega)]; rfl
      · rw [cmpI_lt (by simp; split <;> omega)]; rfl
  · obtain ⟨o, eo, i1, i2, i3, i4⟩ := fin_of hp h1
    have hlt : sizeW 64 p < infW 64 := of_decide_eq_true h1
    rcases three_kinds q with h2 | h2 | h2
    · obtain ⟨v, hv⟩ := nanw q hq h2
      rw [hv, cmpO_no2, h2, Bool.or_true]; rfl
    · obtain ⟨e2, n2⟩ := inf_of_ hq h2
      rw [e2, eo, n2, (not_nan p h1).1, cmpO_end o (.endless q) i1 rfl (.inr (sideI_ne q)), i2]
      show (clampI (0 - sideI q), true) = (cmpI (qk 64 p) (qk 64 q), true)
      rw [side_neg hq]
      unfold qk
      rw [h2]
      cases negW 64 q
      · rw [cmpI_lt (by simp; split <;> omega)]; rfl
      · rw [cmpI_gt (by simp; split <;> omega)]; rfl
    · obtain ⟨o2, eo2, j1, j2, j3, j4⟩ := fin_of hq h2
      rw [eo, eo2, (not_nan p h1).1, (not_nan q h2).1, cmpO_fin _ _ i1 j1 i2 j2, cmpFin_key _ _ _ _ i3 j3, i4, j4, key_cmp hp hq h1 h2]
      rfl
theorem cmpI_zero_iff (a b : Int) : cmpI a b = 0 ↔ a = b := by
  unfold cmpI
  constructor
  · intro h
    split at h
    · omega
    · split at h <;> omega
  · rintro rfl
    simp
theorem nan_of {p : Int} (hp : 0 ≤ p ∧ p < 18446744073709551616) (h : isNaN 64 p = true) : ofV 64 p = .flt 9221120237041090560 := by
  rcases of_cases p hp with ⟨h1, h2, h3⟩ | ⟨h1, _⟩ | ⟨h1, _⟩ | ⟨h1, _⟩
  · exact h2
  · rw [h] at h1; cases h1
  · rw [h] at h1; cases h1
  · rw [h] at h1; cases h1
theorem nan_ne {p q : Int} (hp : 0 ≤ p ∧ p < 18446744073709551616) (hq : 0 ≤ q ∧ q < 18446744073709551616) (h : isNaN 64 p = true) (h2 : isNaN 64 q = false) : ofV 64 p ≠ ofV 64 q := by
  rw [nan_of hp h]
  rcases of_cases q hq with ⟨h1, _, _⟩ | ⟨_, _, h3, _⟩ | ⟨_, N, h3⟩ | ⟨_, _, h3, _⟩
  · rw [h2] at h1; cases h1
  · rw [h3]; intro e; injection e with e; rw [← e] at h2; exact absurd h2 (by decide)
  · rw [h3]; intro e; cases e
  · rw [h3]; intro e; injection e with e; rw [← e] at h2; exact absurd h2 (by decide)
/-- Equal patterns' numbers are one value, and the other way round. -/
theorem qk_same {p q : Int} (hp : 0 ≤ p ∧ p < 18446744073709551616) (hq : 0 ≤ q ∧ q < 18446744073709551616) (h1 : isNaN 64 p = false) (h2 : isNaN 64 q = false) : qk 64 p = qk 64 q ↔ ofV 64 p = ofV 64 q := by
  have s1 := size_bounds w64 p (hx64 hp)
  have s2 := size_bounds w64 q (hx64 hq)
  constructor
  · intro h
    rcases neg_size (W := 64) p with ⟨a1, a2, a3⟩ | ⟨a1, a2, a3⟩ <;> rcases neg_size (W := 64) q with ⟨b1, b2, b3⟩ | ⟨b1, b2, b3⟩ <;> unfold qk at h <;> rw [a1, b1] at h <;> simp only [Bool.false_eq_true, if_false, if_true] at h
    · rw [show p = q by omega]
    · have z1 : p = 9223372036854775808 := by rw [show sgnW 64 = 9223372036854775808 from by decide] at a2; omega
      have z2 : q = 0 := by omega
      rw [z1, z2, of_yes (by decide), of_yes (by decide)]
      congr 1
    · have z1 : q = 9223372036854775808 := by rw [show sgnW 64 = 9223372036854775808 from by decide] at b2; omega
      have z2 : p = 0 := by omega
      rw [z1, z2, of_yes (by decide), of_yes (by decide)]
      congr 1
    · rw [show p = q by omega]
  · intro h
    have hc := cmp_of p q hp hq
    rw [h] at hc
    have hs : (cmpO (whatV (ofV 64 q)) (whatV (ofV 64 q))) = (0, true) := by
      rw [cmp_of q q hq hq, cmp_qk w64 q q (hx64 hq) (hx64 hq), h2]
      show (cmpI (qk 64 q) (qk 64 q), true) = _
      rw [(cmpI_zero_iff _ _).2 rfl]
    rw [hs, cmp_qk w64 p q (hx64 hp) (hx64 hq), h1, h2] at hc
    have h3 : (0 : Int) = cmpI (qk 64 p) (qk 64 q) := congrArg Prod.fst hc
    exact (cmpI_zero_iff _ _).1 h3.symm
/-- How two patterns may stand. -/
theorem one_cases (p q : Int) (hp : 0 ≤ p ∧ p < 18446744073709551616) (hq : 0 ≤ q ∧ q < 18446744073709551616) :
    (isNaN 64 p = true ∧ isNaN 64 q = true ∧ cmpW 64 p q = (0, false) ∧ ofV 64 p = ofV 64 q) ∨ (isNaN 64 p = true ∧ isNaN 64 q = false ∧ cmpW 64 p q = (0, false) ∧ ofV 64 p ≠ ofV 64 q) ∨
    (isNaN 64 p = false ∧ cmpW 64 p q = (0, false) ∧ ofV 64 p ≠ ofV 64 q) ∨ (cmpW 64 p q = (0, true) ∧ ofV 64 p = ofV 64 q) ∨ (isNaN 64 p = false ∧ ∃ n, cmpW 64 p q = (n, true) ∧ n ≠ 0 ∧ ofV 64 p ≠ ofV 64 q) := by
  have hc := cmp_qk w64 p q (hx64 hp) (hx64 hq)
  by_cases h1 : isNaN 64 p = true
  · have hc' : cmpW 64 p q = (0, false) := by rw [hc, h1]; rfl
    by_cases h2 : isNaN 64 q = true
    · exact .inl ⟨h1, h2, hc', by rw [nan_of hp h1, nan_of hq h2]⟩
    · have h2' : isNaN 64 q = false := by simpa using h2
      exact .inr (.inl ⟨h1, h2', hc', nan_ne hp hq h1 h2'⟩)
  · have h1' : isNaN 64 p = false := by simpa using h1
    by_cases h2 : isNaN 64 q = true
    · have hc' : cmpW 64 p q = (0, false) := by rw [hc, h2, Bool.or_true]; rfl
      exact .inr (.inr (.inl ⟨h1', hc', fun e => nan_ne hq hp h2 h1' e.symm⟩))
    · have h2' : isNaN 64 q = false := by simpa using h2
      have hc' : cmpW 64 p q = (cmpI (qk 64 p) (qk 64 q), true) := by rw [hc, h1', h2']; rfl
      by_cases h3 : qk 64 p = qk 64 q
      · exact .inr (.inr (.inr (.inl ⟨by rw [hc', (cmpI_zero_iff _ _).2 h3], (qk_same hp hq h1' h2').1 h3⟩)))
      · exact .inr (.inr (.inr (.inr ⟨h1', _, hc', fun e => h3 ((cmpI_zero_iff _ _).1 e), fun e => h3 ((qk_same hp hq h1' h2').2 e)⟩)))
/-- A pattern made wider is the same value. -/
theorem of_wide {W : Nat} (hW : Wide W) (x : Int) (hx : 0 ≤ x ∧ x < 2 ^ W) : ofV 64 (toW 64 W x).1 = ofV W x := by
  have hb := toW_bd2 w64 W x
  rw [show (2 : Int) ^ 64 = 18446744073709551616 from by decide] at hb
  rcases to_cases hW x hx with ⟨h1, h2⟩ | ⟨h1, h2, h3⟩ | ⟨h1, h2, h3, h4, h5⟩
  · have hi : intOk W x = false := by unfold intOk pOk; unfold isNaN at h1; have := of_decide_eq_true h1; rw [decide_eq_false (by omega)]; rfl
    rw [of_no hi, h2, nan_of (by decide) (by decide)]
    rfl
  · have hi : intOk W x = false := by unfold intOk pOk; rw [decide_eq_false (by omega)]; rfl
    obtain ⟨k1, k2, k3, k4⟩ := inf_facts w64 (negW W x)
    have hi2 : intOk 64 (toW 64 W x).1 = false := by rw [h3]; unfold intOk; rw [k3]; rfl
    rw [of_no hi, of_no hi2, to_self _ hb (by rw [h3]; exact k4)]
  · obtain ⟨e1, e2⟩ := int_same x (toW 64 W x).1 (h2.trans h1.symm) h3 h4 h5
    by_cases hi : intOk W x = true
    · rw [of_yes hi, of_yes (e1.trans hi), e2]
    · have hi' : intOk W x = false := by simpa using hi
      rw [of_no hi', of_no (e1.trans hi'), to_self _ hb (not_nan _ h2).1]
def sel3 {α : Type} (p q r : α) (j : Nat) : α := if j = 0 then p else if j = 1 then q else r
theorem sel3_map {α β : Type} (f : α → β) (p q r : α) (j : Nat) : sel3 (f p) (f q) (f r) j = f (sel3 p q r j) := by unfold sel3; split; rfl; split <;> rfl
theorem sel3_all {α : Type} (P : α → Prop) {p q r : α} (h1 : P p) (h2 : P q) (h3 : P r) (j : Nat) : P (sel3 p q r j) := by unfold sel3; split; exact h1; split; exact h2; exact h3
end Go.Proofs.YtoimhjcpeifegaaGreatDoor


/- Arrays of three patterns, and of three values. -/
set_option maxRecDepth 50000
namespace Go.Proofs.YtoimhjcpeifegaaGreatDoor
open Go Go.RowKit

abbrev A3 (p q r : Int) : VP := Lit (.agg #[.int .u64 p, .int .u64 q, .int .u64 r])
theorem shape_A3 {p q r : Int} : Shape 3 (A3 p q r) := fun v w B h => ⟨_, h, rfl, by simp [Value.oneCell'], fun j ik x hk => by rcases j with _ | _ | _ | j <;> simp <;> (rintro rfl; rcases hk with hk | hk <;> cases hk)⟩
def PA3V (z0 z1 z2 : NV) (v : Value) (w : World) (B : Bx) : Prop := ∃ l0 l1 l2 : Array Value, v = .agg (l0 ++ l1 ++ l2) ∧ (IsNum z0).p (.agg l0) w B ∧ (IsNum z1).p (.agg l1) w B ∧ (IsNum z2).p (.agg l2) w B
def A3V (z0 z1 z2 : NV) : VP := ⟨PA3V z0 z1 z2, fun v w B w' B' h ⟨l0, l1, l2, e, h0, h1, h2⟩ => ⟨l0, l1, l2, e, (IsNum z0).st _ _ _ _ _ h h0, (IsNum z1).st _ _ _ _ _ h h1, (IsNum z2).st _ _ _ _ _ h h2⟩⟩
theorem shape_A3V {z0 z1 z2 : NV} : Shape 24 (A3V z0 z1 z2) := fun v w B ⟨l0, l1, l2, e, h0, h1, h2⟩ => by
  obtain ⟨c0, e0, n0, o0, p0⟩ := shape_Num _ _ _ h0
  obtain ⟨c1, e1, n1, o1, p1⟩ := shape_Num _ _ _ h1
  obtain ⟨c2, e2, n2, o2, p2⟩ := shape_Num _ _ _ h2
  injection e0 with e0; subst e0
  injection e1 with e1; subst e1
  injection e2 with e2; subst e2
  refine ⟨_, e, by simp; omega, ?_, fun j ik x hk => ?_⟩
  · rw [Array.all_append, Array.all_append, o0, o1, o2]; rfl
  · intro hj
    have hm := Array.mem_of_getElem? hj
    simp only [Array.mem_append] at hm
    rcases hm with (hm | hm) | hm
    · obtain ⟨i, hi⟩ := Array.getElem?_of_mem hm; exact p0 i ik x hk hi
    · obtain ⟨i, hi⟩ := Array.getElem?_of_mem hm; exact p1 i ik x hk hi
    · obtain ⟨i, hi⟩ := Array.getElem?_of_mem hm; exact p2 i ik x hk hi
section
variable {need : List (Tmp × FD)} {d : Option Tmp} {ty : TypeId} {pos : String} {af : Array Edge} {g : Option (Nat × Bool)} {x y z : Operand} {D : VP}
theorem tyA3 : TyOk Tryz.prog 82 3 := ⟨⟨_, Tryz.underlying82, rfl⟩, by kernel_rfl⟩
theorem tyA3V : TyOk Tryz.prog 83 24 := ⟨⟨_, Tryz.underlying83, rfl⟩, by kernel_rfl⟩
theorem zeroA3 : (Tryz.prog.info? 82).map (·.zero) = some (some (.agg #[.int .u64 0, .int .u64 0, .int .u64 0])) := by kernel_rfl
theorem ok_allocA3 : OpOk Tryz.prog ⟨d, .alloc 82, ty, pos, af, g⟩ need (.box 82 3 (A3 0 0 0)) true := ok_alloc zeroA3 rfl fun w B => rfl
theorem zeroA3V : (Tryz.prog.info? 83).map (·.zero) = some (some (.agg (#[.int .i8 0, .int .u64 0, .bool false, .slice none 0 0, .int .u64 0, .int .i8 0, .string ⟨#[]⟩, .slice none 0 0] ++ #[.int .i8 0, .int .u64 0, .bool false, .slice none 0 0, .int .u64 0, .int .i8 0, .string ⟨#[]⟩, .slice none 0 0] ++ #[.int .i8 0, .int .u64 0, .bool false, .slice none 0 0, .int .u64 0, .int .i8 0, .string ⟨#[]⟩, .slice none 0 0]))) := by kernel_rfl
def Any24 : VP := ⟨fun v _ _ => ∃ l : Array Value, v = .agg l ∧ l.size = 24 ∧ l.all (·.oneCell') = true ∧ ∀ (j : Nat) (ik : IntKind) (x : Int), (ik = .u32 ∨ ik = .u8) → l[j]? ≠ some (.int ik x), fun _ _ _ _ _ _ h => h⟩
theorem shape_Any24 : Shape 24 Any24 := fun v w B h => h
theorem ok_allocA3V : OpOk Tryz.prog ⟨d, .alloc 83, ty, pos, af, g⟩ need (.box 83 24 Any24) true :=
  ok_alloc zeroA3V rfl fun w B => ⟨_, rfl, rfl, by simp [Value.oneCell'], fun j ik x hk hj => by
    have hm := Array.mem_of_getElem? hj
    rcases hk with rfl | rfl <;> simp at hm⟩
theorem run_buildA3 (p q r : Int) (w : World) : (Instr.build 82 #[(0, .int .u64 p), (1, .int .u64 q), (2, .int .u64 r)]).run Tryz.prog w = .ok (.agg #[.int .u64 p, .int .u64 q, .int .u64 r]) w := by go_simp
theorem ok_buildA3 {p q r : Int} (h : Opd need x (.val (Lit (.int .u64 p)))) (h' : Opd need y (.val (Lit (.int .u64 q)))) (h'' : Opd need z (.val (Lit (.int .u64 r)))) : OpOk Tryz.prog ⟨d, .build 82 #[(0, x), (1, y), (2, z)], ty, pos, af, g⟩ need (.val (A3 p q r)) false :=
  OpOk.value fun a w B hF => by
    have e1 : a.eval x = .int .u64 p := h a w B hF
    have e2 : a.eval y = .int .u64 q := h' a w B hF
    have e3 : a.eval z = .int .u64 r := h'' a w B hF
    refine ⟨_, ?_, rfl⟩
    have := run_buildA3 p q r w
    simp [execOp, e1, e2, e3, this]
theorem run_buildA3V (a0 a1 a2 a3 a4 a5 a6 a7 b0 b1 b2 b3 b4 b5 b6 b7 c0 c1 c2 c3 c4 c5 c6 c7 : Value) (w : World) : (Instr.build 83 #[(0, .agg #[a0, a1, a2, a3, a4, a5, a6, a7]), (1, .agg #[b0, b1, b2, b3, b4, b5, b6, b7]), (2, .agg #[c0, c1, c2, c3, c4, c5, c6, c7])]).run Tryz.prog w = .ok (.agg #[a0, a1, a2, a3, a4, a5, a6, a7, b0, b1, b2, b3, b4, b5, b6, b7, c0, c1, c2, c3, c4, c5, c6, c7]) w := by go_simp
theorem num_open {z : NV} {v : Value} {w : World} {B : Bx} (h : (IsNum z).p v w B) : ∃ a0 a1 a2 a3 a4 a5 a6 a7, v = .agg #[a0, a1, a2, a3, a4, a5, a6, a7] := by
  obtain ⟨p, q, kd, e, _⟩ := h
  exact ⟨_, _, _, _, _, _, _, _, e⟩
theorem ok_buildA3V {z0 z1 z2 : NV} (h : Opd need x (.val (IsNum z0))) (h' : Opd need y (.val (IsNum z1))) (h'' : Opd need z (.val (IsNum z2))) : OpOk Tryz.prog ⟨d, .build 83 #[(0, x), (1, y), (2, z)], ty, pos, af, g⟩ need (.val (A3V z0 z1 z2)) false :=
  OpOk.value fun a w B hF => by
    have h0 := h a w B hF
    have h1 := h' a w B hF
    have h2 := h'' a w B hF
    obtain ⟨a0, a1, a2, a3, a4, a5, a6, a7, e0⟩ := num_open h0
    obtain ⟨b0, b1, b2, b3, b4, b5, b6, b7, e1⟩ := num_open h1
    obtain ⟨c0, c1, c2, c3, c4, c5, c6, c7, e2⟩ := num_open h2
    have g0 : (IsNum z0).p (.agg #[a0, a1, a2, a3, a4, a5, a6, a7]) w B := e0 ▸ h0
    have g1 : (IsNum z1).p (.agg #[b0, b1, b2, b3, b4, b5, b6, b7]) w B := e1 ▸ h1
    have g2 : (IsNum z2).p (.agg #[c0, c1, c2, c3, c4, c5, c6, c7]) w B := e2 ▸ h2
    refine ⟨.agg #[a0, a1, a2, a3, a4, a5, a6, a7, b0, b1, b2, b3, b4, b5, b6, b7, c0, c1, c2, c3, c4, c5, c6, c7], ?_, #[a0, a1, a2, a3, a4, a5, a6, a7], #[b0, b1, b2, b3, b4, b5, b6, b7], #[c0, c1, c2, c3, c4, c5, c6, c7], by simp, g0, g1, g2⟩
    have := run_buildA3V a0 a1 a2 a3 a4 a5 a6 a7 b0 b1 b2 b3 b4 b5 b6 b7 c0 c1 c2 c3 c4 c5 c6 c7 w
    simp [execOp, e0, e1, e2, this]
theorem run_idxA3 (b j : Nat) (hj : j < 3) (w : World) : (Instr.indexAt 82 (.pointer (some ⟨b, 0, none⟩)) (.int .i64 j)).run Tryz.prog w = .ok (.pointer (some ⟨b, j, none⟩)) w := by
  rcases j with _ | _ | _ | j
  · go_simp
  · go_simp
  · go_simp
  · omega
theorem run_idxA3V (b j : Nat) (hj : j < 3) (w : World) : (Instr.indexAt 83 (.pointer (some ⟨b, 0, none⟩)) (.int .i64 j)).run Tryz.prog w = .ok (.pointer (some ⟨b, 8 * j, none⟩)) w := by
  rcases j with _ | _ | _ | j
  · go_simp
  · go_simp
  · go_simp
  · omega
theorem ok_idxA3 {i : Int} (j : Nat) (hj : j < 3) (hi : i = j) (h : Opd need x (.box 82 3 D)) (h' : Opd need y (.val (Lit (.int .i64 i)))) : OpOk Tryz.prog ⟨d, .indexAddr 82 x y, ty, pos, af, g⟩ need (.ptr 82 3 D j) false :=
  OpOk.value fun a w B hF => by
    obtain ⟨b, cs, h1, h2, h3, h4, h5, h6⟩ := h a w B hF
    have e2 : a.eval y = .int .i64 j := hi ▸ h' a w B hF
    refine ⟨.pointer (some ⟨b, j, none⟩), ?_, b, cs, rfl, h2, h3, h4, h5, h6⟩
    simp only [execOp, h1, e2, Sem.run_bind, run_idxA3 b j hj, Result.andThen_ok, Sem.run_pure]
theorem ok_idxA3V {i : Int} (j : Nat) (hj : j < 3) (hi : i = j) (h : Opd need x (.box 83 24 D)) (h' : Opd need y (.val (Lit (.int .i64 i)))) : OpOk Tryz.prog ⟨d, .indexAddr 83 x y, ty, pos, af, g⟩ need (.ptr 83 24 D (8 * j)) false :=
  OpOk.value fun a w B hF => by
    obtain ⟨b, cs, h1, h2, h3, h4, h5, h6⟩ := h a w B hF
    have e2 : a.eval y = .int .i64 j := hi ▸ h' a w B hF
    refine ⟨.pointer (some ⟨b, 8 * j, none⟩), ?_, b, cs, rfl, h2, h3, h4, h5, h6⟩
    simp only [execOp, h1, e2, Sem.run_bind, run_idxA3V b j hj, Result.andThen_ok, Sem.run_pure]
theorem ok_loadA3 {p q r : Int} {j : Nat} (hj : j < 3) (h : Opd need x (.ptr 82 3 (A3 p q r) j)) : OpOk Tryz.prog ⟨d, .load 24 x, ty, pos, af, g⟩ need (.val (Lit (.int .u64 (sel3 p q r j)))) false :=
  ok_loadPtr1 aggU64 h hj fun cs v w B e hv => by
    injection e with e
    subst e
    rcases j with _ | _ | _ | j
    · simp at hv; exact hv.symm
    · simp at hv; exact hv.symm
    · simp at hv; exact hv.symm
    · omega
theorem ok_loadA3V {z0 z1 z2 : NV} {j : Nat} (hj : j < 3) (h : Opd need x (.ptr 83 24 (A3V z0 z1 z2) (8 * j))) : OpOk Tryz.prog ⟨d, .load 37 x, ty, pos, af, g⟩ need (.val (IsNum (sel3 z0 z1 z2 j))) false :=
  ok_loadPtrA tyV h (by omega) fun cs w B ⟨l0, l1, l2, e, h0, h1, h2⟩ => by
    injection e with e
    subst e
    obtain ⟨a0, a1, a2, a3, a4, a5, a6, a7, e0⟩ := num_open h0
    obtain ⟨b0, b1, b2, b3, b4, b5, b6, b7, e1⟩ := num_open h1
    obtain ⟨c0, c1, c2, c3, c4, c5, c6, c7, e2⟩ := num_open h2
    injection e0 with e0
    injection e1 with e1
    injection e2 with e2
    subst e0 e1 e2
    rcases j with _ | _ | _ | j
    · have e : (#[a0, a1, a2, a3, a4, a5, a6, a7] ++ #[b0, b1, b2, b3, b4, b5, b6, b7] ++ #[c0, c1, c2, c3, c4, c5, c6, c7]).extract (8 * 0) (8 * 0 + 8) = #[a0, a1, a2, a3, a4, a5, a6, a7] := by simp
      rw [e]; exact h0
    · have e : (#[a0, a1, a2, a3, a4, a5, a6, a7] ++ #[b0, b1, b2, b3, b4, b5, b6, b7] ++ #[c0, c1, c2, c3, c4, c5, c6, c7]).extract (8 * (0 + 1)) (8 * (0 + 1) + 8) = #[b0, b1, b2, b3, b4, b5, b6, b7] := by simp
      rw [e]; exact h1
    · have e : (#[a0, a1, a2, a3, a4, a5, a6, a7] ++ #[b0, b1, b2, b3, b4, b5, b6, b7] ++ #[c0, c1, c2, c3, c4, c5, c6, c7]).extract (8 * (0 + 1 + 1)) (8 * (0 + 1 + 1) + 8) = #[c0, c1, c2, c3, c4, c5, c6, c7] := by simp
      rw [e]; exact h2
    · omega
end
end Go.Proofs.YtoimhjcpeifegaaGreatDoor

