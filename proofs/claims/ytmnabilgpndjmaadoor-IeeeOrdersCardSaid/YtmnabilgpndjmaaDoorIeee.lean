/- Patterns of bits as numbers: plain facts, no program. -/
import Derived.Test.YtmnabilgpndjmaaDoorDigLen
import Derived.Test.YtmnabilgpndjmaaDoorCmpI
set_option linter.unusedVariables false
set_option linter.unusedSimpArgs false
namespace Go.Proofs.YtmnabilgpndjmaaDoor

/-- The size z of a pattern as a number of least steps (F digits of fraction). -/
def numN (F z : Nat) : Nat := if z < 2 ^ F then z else (2 ^ F + z % 2 ^ F) * 2 ^ (z / 2 ^ F - 1)

theorem numN_at (F d k : Nat) (h1 : d = 0 ∨ 2 ^ F ≤ k) (h2 : k ≤ 2 ^ (F + 1)) : numN F (d * 2 ^ F + k) = k * 2 ^ d := by
  have hP := Nat.two_pow_pos F
  rw [Nat.pow_succ] at h2
  unfold numN
  rcases Nat.lt_or_ge k (2 ^ F) with hk | hk
  · have hd : d = 0 := by omega
    subst hd
    rw [Nat.zero_mul, Nat.zero_add, if_pos hk]
    simp
  · rw [if_neg (by have := Nat.le_add_left k (d * 2 ^ F); omega)]
    rcases Nat.lt_or_ge k (2 ^ F * 2) with hk2 | hk2
    · have e : d * 2 ^ F + k = (k - 2 ^ F) + 2 ^ F * (d + 1) := by rw [Nat.mul_add, Nat.mul_comm d]; omega
      rw [e, Nat.add_mul_mod_self_left, Nat.add_mul_div_left _ _ hP, Nat.mod_eq_of_lt (by omega), Nat.div_eq_of_lt (by omega), Nat.zero_add, Nat.add_sub_cancel, Nat.add_sub_cancel' hk]
    · have hk3 : k = 2 ^ F * 2 := by omega
      have e : d * 2 ^ F + k = 0 + 2 ^ F * (d + 2) := by rw [Nat.mul_add, Nat.mul_comm d]; omega
      rw [e, Nat.add_mul_mod_self_left, Nat.add_mul_div_left _ _ hP, Nat.zero_mod, Nat.zero_div, Nat.zero_add, hk3, show d + 2 - 1 = d + 1 by omega, Nat.pow_succ, Nat.add_zero]
      rw [Nat.mul_assoc, Nat.mul_comm 2]

/-- Every size in that form. -/
theorem size_form (F z : Nat) : ∃ d k, z = d * 2 ^ F + k ∧ (d = 0 ∨ 2 ^ F ≤ k) ∧ k < 2 ^ (F + 1) := by
  have hP := Nat.two_pow_pos F
  rcases Nat.lt_or_ge z (2 ^ F) with h | h
  · exact ⟨0, z, by omega, .inl rfl, by rw [Nat.pow_succ]; omega⟩
  · refine ⟨z / 2 ^ F - 1, 2 ^ F + z % 2 ^ F, ?_, .inr (Nat.le_add_right _ _), ?_⟩
    · have h1 := Nat.div_add_mod z (2 ^ F)
      have h2 : 1 ≤ z / 2 ^ F := (Nat.le_div_iff_mul_le hP).2 (by omega)
      obtain ⟨q, hq⟩ : ∃ q, z / 2 ^ F = q + 1 := ⟨z / 2 ^ F - 1, by omega⟩
      rw [hq] at h1 ⊢
      rw [Nat.mul_add] at h1
      rw [Nat.add_sub_cancel, Nat.mul_comm q]
      omega
    · have := Nat.mod_lt z hP
      rw [Nat.pow_succ]
      omega

theorem numN_succ (F z : Nat) : ∃ d k, z = d * 2 ^ F + k ∧ (d = 0 ∨ 2 ^ F ≤ k) ∧ k < 2 ^ (F + 1) ∧ numN F z = k * 2 ^ d ∧ numN F (z + 1) = (k + 1) * 2 ^ d := by
  obtain ⟨d, k, rfl, h1, h2⟩ := size_form F z
  exact ⟨d, k, rfl, h1, h2, numN_at F d k h1 (by omega), by rw [Nat.add_assoc]; exact numN_at F d (k + 1) (by omega) (by omega)⟩

theorem numN_lt_succ (F z : Nat) : numN F z < numN F (z + 1) := by
  obtain ⟨d, k, -, -, -, e1, e2⟩ := numN_succ F z
  rw [e1, e2]
  exact Nat.mul_lt_mul_of_pos_right (by omega) (Nat.two_pow_pos d)

theorem numN_mono (F : Nat) {a b : Nat} (h : a ≤ b) : numN F a ≤ numN F b := by
  induction h with
  | refl => exact Nat.le_refl _
  | step _ ih => exact Nat.le_of_lt (Nat.lt_of_le_of_lt ih (numN_lt_succ F _))

/-- r is the size of the nearest pattern to X; U: the least step; I: the first size that is no finite one's. -/
def Nearest (F I U X r : Nat) : Prop :=
  ∃ low, low ≤ I ∧ numN F low * U ≤ X ∧ (low < I → X < numN F (low + 1) * U) ∧
    r = if low = I then I else if (numN F low + numN F (low + 1)) * U < 2 * X ∨ (2 * X = (numN F low + numN F (low + 1)) * U ∧ low % 2 = 1) then low + 1 else low

theorem low_unique (F I U X a b : Nat) (ha : a ≤ I) (hb : b ≤ I) (a1 : numN F a * U ≤ X) (a2 : a < I → X < numN F (a + 1) * U) (b1 : numN F b * U ≤ X) (b2 : b < I → X < numN F (b + 1) * U) : a = b := by
  rcases Nat.lt_trichotomy a b with h | h | h
  · exfalso
    have := a2 (by omega)
    have m := Nat.mul_le_mul_right U (numN_mono F (show a + 1 ≤ b from h))
    omega
  · exact h
  · exfalso
    have := b2 (by omega)
    have m := Nat.mul_le_mul_right U (numN_mono F (show b + 1 ≤ a from h))
    omega

theorem Nearest.unique {F I U X r s : Nat} (h : Nearest F I U X r) (k : Nearest F I U X s) : r = s := by
  obtain ⟨a, a0, a1, a2, rfl⟩ := h
  obtain ⟨b, b0, b1, b2, rfl⟩ := k
  obtain rfl := low_unique F I U X a b a0 b0 a1 a2 b1 b2
  rfl

/-- The same number in finer steps. -/
theorem Nearest.scale {F I U X r : Nat} (h : Nearest F I U X r) (c : Nat) (hc : 0 < c) : Nearest F I (U * c) (X * c) r := by
  obtain ⟨a, a0, a1, a2, e⟩ := h
  refine ⟨a, a0, by rw [← Nat.mul_assoc]; exact Nat.mul_le_mul_right c a1, fun h => by rw [← Nat.mul_assoc]; exact Nat.mul_lt_mul_of_pos_right (a2 h) hc, ?_⟩
  rw [e, ← Nat.mul_assoc, ← Nat.mul_assoc]
  have i1 : (numN F a + numN F (a + 1)) * U * c < 2 * X * c ↔ (numN F a + numN F (a + 1)) * U < 2 * X := Nat.mul_lt_mul_right hc
  have i2 : 2 * X * c = (numN F a + numN F (a + 1)) * U * c ↔ 2 * X = (numN F a + numN F (a + 1)) * U := Nat.mul_left_inj (by omega)
  simp only [i1, i2]

/-- Numbers that lie alike to all numbers of few digits round alike. -/
theorem Nearest.like {F I U X Y r : Nat} (h : Nearest F I U X r) (hl : ∀ k d, k ≤ 2 ^ (F + 2) → (k * 2 ^ d * U ≤ 2 * X ↔ k * 2 ^ d * U ≤ 2 * Y) ∧ (2 * X ≤ k * 2 ^ d * U ↔ 2 * Y ≤ k * 2 ^ d * U)) : Nearest F I U Y r := by
  obtain ⟨a, a0, a1, a2, e⟩ := h
  obtain ⟨d, k, -, -, hk, n1, n2⟩ := numN_succ F a
  have hp : 2 ^ (F + 2) = 2 * 2 ^ (F + 1) := by rw [Nat.pow_succ 2 (F + 1), Nat.mul_comm]
  have c1 := hl (2 * k) d (by omega)
  have c2 := hl (2 * (k + 1)) d (by omega)
  have c3 := hl (k + (k + 1)) d (by omega)
  rw [Nat.mul_assoc 2, Nat.mul_assoc 2, ← n1] at c1
  rw [Nat.mul_assoc 2, Nat.mul_assoc 2, ← n2] at c2
  rw [Nat.add_mul, ← n1, ← n2] at c3
  refine ⟨a, a0, by omega, fun h => by have := a2 h; omega, ?_⟩
  rw [e]
  have i1 : (numN F a + numN F (a + 1)) * U < 2 * X ↔ (numN F a + numN F (a + 1)) * U < 2 * Y := by omega
  have i2 : 2 * X = (numN F a + numN F (a + 1)) * U ↔ 2 * Y = (numN F a + numN F (a + 1)) * U := by omega
  simp only [i1, i2]

/-- The direct way: so many digits, cut, and rounded. W: 2^d steps. -/
theorem nearest_direct (F I U X d k : Nat) (hk : k = X / (2 ^ d * U)) (hU : 0 < U) (h1 : d = 0 ∨ 2 ^ F ≤ k) (h2 : k < 2 ^ (F + 1)) (hI : d * 2 ^ F + k < I) (hF : d = 0 ∨ 0 < F) :
    Nearest F I U X (d * 2 ^ F + (if 2 ^ d * U < 2 * (X % (2 ^ d * U)) ∨ (2 * (X % (2 ^ d * U)) = 2 ^ d * U ∧ k % 2 = 1) then k + 1 else k)) := by
  have hW : 0 < 2 ^ d * U := Nat.mul_pos (Nat.two_pow_pos d) hU
  have hX := Nat.div_add_mod X (2 ^ d * U)
  have hr := Nat.mod_lt X hW
  rw [← hk] at hX
  have n1 := numN_at F d k h1 (by omega)
  have n2 := numN_at F d (k + 1) (by omega) (by omega)
  have e1 : k * 2 ^ d * U = 2 ^ d * U * k := by rw [Nat.mul_assoc, Nat.mul_comm]
  have e2 : (k + 1) * 2 ^ d * U = 2 ^ d * U * k + 2 ^ d * U := by rw [Nat.mul_assoc, Nat.mul_comm, Nat.mul_add, Nat.mul_one]
  refine ⟨d * 2 ^ F + k, Nat.le_of_lt hI, by rw [n1, e1]; omega, fun _ => by rw [Nat.add_assoc, n2, e2]; omega, ?_⟩
  rw [if_neg (Nat.ne_of_lt hI), Nat.add_assoc (d * 2 ^ F), n1, n2, Nat.add_mul, e1, e2]
  have par : (d * 2 ^ F + k) % 2 = k % 2 := by
    rcases hF with h | h
    · subst h; simp
    · obtain ⟨f, rfl⟩ : ∃ f, F = f + 1 := ⟨F - 1, by omega⟩
      rw [Nat.pow_succ, ← Nat.mul_assoc]
      omega
  rw [par]
  have i1 : (2 ^ d * U * k + (2 ^ d * U * k + 2 ^ d * U) < 2 * X) ↔ 2 ^ d * U < 2 * (X % (2 ^ d * U)) := by omega
  have i2 : (2 * X = 2 ^ d * U * k + (2 ^ d * U * k + 2 ^ d * U)) ↔ 2 * (X % (2 ^ d * U)) = 2 ^ d * U := by omega
  simp only [i1, i2]
  split <;> rfl

/-- Too great. -/
theorem nearest_inf (F I U X : Nat) (h : numN F I * U ≤ X) : Nearest F I U X I := ⟨I, Nat.le_refl _, h, fun h => absurd h (Nat.lt_irrefl _), by rw [if_pos rfl]⟩

/-- Less than a half of the least step. -/
theorem nearest_zero (F I U X : Nat) (hI : 0 < I) (h : 2 * X < U) : Nearest F I U X 0 := by
  have n0 : numN F 0 = 0 := by
    unfold numN
    rw [if_pos (Nat.two_pow_pos F)]
  have n1 : numN F 1 = 1 := by
    have := numN_at F 0 1 (.inl rfl) (Nat.one_le_two_pow)
    simpa using this
  refine ⟨0, Nat.zero_le _, by rw [n0]; omega, fun _ => by rw [Nat.zero_add, n1]; omega, ?_⟩
  rw [if_neg (by omega), Nat.zero_add, n0, n1, if_neg (by omega)]
end Go.Proofs.YtmnabilgpndjmaaDoor
