/- Bytes and limbs of one number; long multiplication with a carry that runs on: plain facts on lists. -/
import Derived.Test.YtmnabilgpndjmaaDoorMulMath
set_option linter.unusedVariables false
set_option linter.unusedSimpArgs false
namespace Go.Proofs.YtmnabilgpndjmaaDoor

theorem pow4 (i : Nat) : (256 : Int) ^ (4 * i) = 4294967296 ^ i := by
  rw [Int.pow_mul]
  rfl

theorem val_snoc (b : Int) (xs : List Int) (y : Int) : val b (xs ++ [y]) = val b xs + b ^ xs.length * y := by
  rw [val_append]
  simp [val]

/-- A limb's bytes: k of them told, x is what is left. -/
theorem bytes_step (ds : List Int) (N : Nat) (hN : ds.length = N) (x V : Int) (hx : 0 ≤ x) (h : val 256 ds + 256 ^ N * x = V) :
    val 256 (ds ++ [x % 256]) + 256 ^ (N + 1) * (x / 256) = V := by
  rw [val_snoc, hN, Int.pow_succ]
  have := Int.emod_add_mul_ediv x 256
  generalize x / 256 = q at *
  generalize x % 256 = r at *
  generalize (256 : Int) ^ N = P at *
  generalize val 256 ds = v at *
  subst this
  grind

/-- limbs: the state behind the places from j on. -/
def LimbSt (ls out : List Int) (j : Nat) : Prop :=
  Dig 4294967296 out ∧ out.length = (ls.length + 3) / 4 ∧ (∀ q, q < j / 4 → out[q]?.getD 0 = 0) ∧ out[j / 4]?.getD 0 < 256 ^ (4 - j % 4) ∧
    val 256 (ls.drop j) = out[j / 4]?.getD 0 + 256 ^ (4 - j % 4) * val 4294967296 (out.drop (j / 4 + 1))

theorem getD_replicate (n j : Nat) : ((List.replicate n (0 : Int))[j]?).getD 0 = 0 := by
  rw [List.getElem?_replicate]
  split <;> rfl

theorem pow256_pos (n : Nat) : (0 : Int) < 256 ^ n := Int.pow_pos (by omega)

theorem limb_start (ls : List Int) : LimbSt ls (List.replicate ((ls.length + 3) / 4) 0) ls.length := by
  refine ⟨Dig.replicate _ (by omega) _, by simp, fun q _ => getD_replicate _ _, ?_, ?_⟩
  · rw [getD_replicate]
    exact pow256_pos _
  · rw [getD_replicate, List.drop_length, List.drop_replicate, val_replicate]
    simp [val]

theorem drop_ge (b : Int) (xs : List Int) (q : Nat) : val b (xs.drop q) = xs[q]?.getD 0 + b * val b (xs.drop (q + 1)) := by
  rcases Nat.lt_or_ge q xs.length with h | h
  · exact val_drop b xs q h
  · rw [List.drop_of_length_le h, List.drop_of_length_le (by omega), List.getElem?_eq_none h]
    simp [val]

theorem limb_step (ls out : List Int) (j : Nat) (hj : j < ls.length) (hl : Dig 256 ls) (h : LimbSt ls out (j + 1)) :
    0 ≤ out[j / 4]?.getD 0 * 256 ∧ out[j / 4]?.getD 0 * 256 + ls[j]?.getD 0 ≤ 4294967295 ∧ j / 4 < out.length ∧ LimbSt ls (out.set (j / 4) (out[j / 4]?.getD 0 * 256 + ls[j]?.getD 0)) j := by
  obtain ⟨h1, h2, h3, h4, h5⟩ := h
  have hd := hl.get (by omega) j
  have ho := h1.get (by omega) (j / 4)
  have hq : j / 4 < out.length := by omega
  have hv := val_drop 256 ls j hj
  rw [h5] at hv
  generalize hD : ls[j]?.getD 0 = d at *
  have key : out[j / 4]?.getD 0 * 256 + d < 256 ^ (4 - j % 4) ∧ val 256 (ls.drop j) = (out[j / 4]?.getD 0 * 256 + d) + 256 ^ (4 - j % 4) * val 4294967296 (out.drop (j / 4 + 1)) := by
    by_cases hr : j % 4 = 3
    · have e1 : (j + 1) / 4 = j / 4 + 1 := by omega
      have e2 : (j + 1) % 4 = 0 := by omega
      have hz := h3 (j / 4) (by omega)
      rw [e1, e2] at hv
      have e3 := drop_ge 4294967296 out (j / 4 + 1)
      rw [hz, hr]
      refine ⟨by simp; omega, ?_⟩
      rw [hv, e3]
      simp
    · have e1 : (j + 1) / 4 = j / 4 := by omega
      have e2 : 4 - j % 4 = (4 - (j + 1) % 4) + 1 := by omega
      rw [e1] at hv h4
      rw [e2, Int.pow_succ]
      generalize 4 - (j + 1) % 4 = s at *
      generalize out[j / 4]?.getD 0 = o at *
      generalize val 4294967296 (out.drop (j / 4 + 1)) = R at *
      generalize (256 : Int) ^ s = P at *
      refine ⟨by omega, ?_⟩
      rw [hv]
      grind
  have hP : (256 : Int) ^ (4 - j % 4) ≤ 4294967296 := by
    have : ∀ s : Nat, s < 4 → (256 : Int) ^ (4 - s) ≤ 4294967296 := by decide
    exact this _ (by omega)
  refine ⟨by omega, by omega, hq, h1.set (by omega) (by omega) _, by simp [h2], fun q hq' => ?_, ?_, ?_⟩
  · rw [List.getElem?_set_ne (by omega)]
    exact h3 q (by omega)
  · rw [List.getElem?_set_self hq]
    exact key.1
  · rw [List.getElem?_set_self hq, List.drop_set_of_lt (by omega)]
    exact key.2

theorem val_ge {b : Int} (hb : 0 < b) : ∀ {xs : List Int}, Dig b xs → norm xs = xs → xs ≠ [] → b ^ (xs.length - 1) ≤ val b xs
  | [x], h, hn, _ => by
    have h0 := h.head
    have : x ≠ 0 := by
      rintro rfl
      simp [norm] at hn
    simp [val]
    omega
  | x :: y :: ys, h, hn, _ => by
    have h0 := h.head
    have hn' : norm (y :: ys) = y :: ys := by
      have hn1 := hn
      rw [norm] at hn1
      split at hn1
      · cases hn1
      · simpa using hn1
    have ih := val_ge hb h.tail hn' (by simp)
    have : b * b ^ ((y :: ys).length - 1) ≤ b * val b (y :: ys) := Int.mul_le_mul_of_nonneg_left ih (Int.le_of_lt hb)
    rw [val]
    have e : b ^ ((x :: y :: ys).length - 1) = b * b ^ ((y :: ys).length - 1) := by
      simp only [List.length_cons, Nat.add_sub_cancel]
      rw [Int.pow_succ, Int.mul_comm]
    rw [e]
    omega

theorem val_lt_norm {b : Int} (hb : 0 < b) {xs : List Int} (h : Dig b xs) (hn : norm xs ≠ xs) : val b xs < b ^ (xs.length - 1) := by
  have hl := norm_length_le xs
  have hne : (norm xs).length ≠ xs.length := fun e => hn (by rw [norm_take, e, List.take_length])
  have := val_lt hb (norm_dig h)
  rw [val_norm] at this
  exact Int.lt_of_lt_of_le this (pow_le (by omega) (by omega))

theorem limb_end (ls out : List Int) (hl : Dig 256 ls) (hn : norm ls = ls) (h : LimbSt ls out 0) : out = dg 4294967296 (val 256 ls) := by
  obtain ⟨h1, h2, _, _, h5⟩ := h
  have e : val 4294967296 out = val 256 ls := by
    have := drop_ge 4294967296 out 0
    simp only [List.drop_zero, Nat.zero_div, Nat.zero_mod, Nat.zero_add] at this h5
    rw [this, h5]
    rfl
  have hno : norm out = out := by
    by_cases hno : norm out = out
    · exact hno
    · exfalso
      have hlt := val_lt_norm (by omega) h1 hno
      by_cases h0 : ls = []
      · subst h0
        simp at h2
        subst h2
        exact hno rfl
      · have hge := val_ge (by omega) hl hn h0
        rw [e, h2, ← pow4] at hlt
        have hlen : 0 < ls.length := List.length_pos_iff.2 h0
        have : (256 : Int) ^ (4 * ((ls.length + 3) / 4 - 1)) ≤ 256 ^ (ls.length - 1) := pow_le (by omega) (by omega)
        omega
  have := norm_eq 4294967296 (by omega) h1
  rw [hno] at this
  rw [this]
  exact congrArg (dg 4294967296) e

/-- A carry that runs on has its place. -/
theorem carry_place (b : Int) (hb : 1 < b) (xs zs ys : List Int) (i k : Nat) (c : Int) (hx : Dig b xs) (hz : Dig b zs) (hy : Dig b ys) (hc : 0 < c) (hi : i < xs.length)
    (E : val b ys + c * b ^ k = val b (xs.take (i + 1)) * val b zs) : k < i + 1 + zs.length := by
  rcases Nat.lt_or_ge k (i + 1 + zs.length) with h | h
  · exact h
  · exfalso
    have h1 := val_lt (by omega) (hx.take (i + 1))
    have h2 := val_lt (by omega) hz
    have h3 := val_nonneg (by omega) (hx.take (i + 1))
    have h4 := val_nonneg (by omega) hz
    have h5 := val_nonneg (by omega) hy
    rw [List.length_take, Nat.min_eq_left (by omega)] at h1
    have h6 : b ^ (i + 1 + zs.length) ≤ b ^ k := pow_le (by omega) h
    have h7 : b ^ k ≤ c * b ^ k := by
      have : 1 * b ^ k ≤ c * b ^ k := Int.mul_le_mul_of_nonneg_right (by omega) (Int.le_of_lt (Int.pow_pos (by omega)))
      omega
    have h8 : val b (xs.take (i + 1)) * val b zs < b ^ (i + 1) * b ^ zs.length := by
      have a1 : val b (xs.take (i + 1)) * val b zs ≤ val b (xs.take (i + 1)) * b ^ zs.length := Int.mul_le_mul_of_nonneg_left (by omega) h3
      have a2 : val b (xs.take (i + 1)) * b ^ zs.length < b ^ (i + 1) * b ^ zs.length := Int.mul_lt_mul_of_pos_right h1 (Int.pow_pos (by omega))
      omega
    rw [← Int.pow_add] at h8
    omega

theorem mul_outer_carry (B : Int) (xs zs ys : List Int) (i n : Nat) (hi : i < xs.length) (hn : n = zs.length) (c : Int)
    (E : val B ys + c * B ^ (i + n) = val B (xs.take i) * val B zs + xs[i]?.getD 0 * B ^ i * val B (zs.take n)) :
    val B ys + c * B ^ (i + n) = val B (xs.take (i + 1)) * val B zs := by
  rw [E, val_take_succ B xs i hi, hn, List.take_length]
  generalize xs[i]?.getD 0 = x at *
  generalize val B (xs.take i) = X at *
  generalize val B zs = Z at *
  generalize B ^ i = P at *
  grind
end Go.Proofs.YtmnabilgpndjmaaDoor
