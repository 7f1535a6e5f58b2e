/- How many digits, how many bits a number has; which of two lists is the greater number: plain facts. -/
import Derived.Test.YtmnabilgpndjmaaDoorRefMath
import Derived.Lib.BitFns
set_option linter.unusedVariables false
set_option linter.unusedSimpArgs false
namespace Go.Proofs.YtmnabilgpndjmaaDoor

theorem dg_lt_of_len (b : Nat) (hb : 2 ≤ b) (n : Nat) (V : Int) (hV : 0 ≤ V) (h : (dg b V).length ≤ n) : V < (b : Int) ^ n := by
  have h1 := val_lt (b := b) (by omega) (dg_dig b hb V.toNat)
  have e : val b (digs b V.toNat) = V := val_dg b hb V hV
  rw [e] at h1
  exact Int.lt_of_lt_of_le h1 (pow_le (by omega) h)

theorem dg_len_iff (b : Nat) (hb : 2 ≤ b) (n : Nat) (V : Int) (hV : 0 ≤ V) : (dg b V).length ≤ n ↔ V < (b : Int) ^ n :=
  ⟨dg_lt_of_len b hb n V hV, dg_length_le b hb n V⟩

/-- A number below 2 to the 64, else 0. -/
def low64 (V : Int) : Int := if V < 18446744073709551616 then V else 0
def fits64 (V : Int) : Bool := decide (V < 18446744073709551616)

/-- How many bits. -/
def blen (n : Nat) : Nat := if n = 0 then 0 else n.log2 + 1

theorem blen_eq (n k : Nat) (h0 : 2 ^ k ≤ n) (h1 : n < 2 ^ (k + 1)) : blen n = k + 1 := by
  have hn : n ≠ 0 := by
    have := Nat.two_pow_pos k
    omega
  unfold blen
  rw [if_neg hn]
  have a := (Nat.le_log2 hn).2 h0
  have b := (Nat.log2_lt hn).2 h1
  omega

theorem blen_lt (n : Nat) : n < 2 ^ blen n := by
  unfold blen
  split
  · omega
  · rename_i h
    exact (Nat.log2_lt h).1 (Nat.lt_succ_self _)
theorem blen_ge (n : Nat) (hn : n ≠ 0) : 2 ^ (blen n - 1) ≤ n := by
  unfold blen
  rw [if_neg hn]
  exact (Nat.le_log2 hn).1 (by omega)
theorem blen_zero : blen 0 = 0 := rfl
theorem blen_pos (n : Nat) (h : n ≠ 0) : 0 < blen n := by
  unfold blen
  rw [if_neg h]
  omega

theorem blen_half (n : Nat) (h : n ≠ 0) : blen n = blen (n / 2) + 1 := by
  by_cases h2 : n / 2 = 0
  · have : n = 1 := by omega
    subst this
    decide
  · have a := blen_ge (n / 2) h2
    have b := blen_lt (n / 2)
    have c := blen_pos (n / 2) h2
    refine blen_eq n (blen (n / 2)) ?_ ?_
    · have e : 2 ^ blen (n / 2) = 2 * 2 ^ (blen (n / 2) - 1) := by
        rw [show blen (n / 2) = (blen (n / 2) - 1) + 1 by omega, Nat.pow_succ, Nat.mul_comm]
        simp
      omega
    · rw [Nat.pow_succ]
      omega

theorem bitLen_blen (n : Nat) (h : n < 2 ^ 64) : Lib.bitLen n = blen n := by
  induction n using Nat.strongRecOn with
  | ind n ih =>
    by_cases h0 : n = 0
    · subst h0; rfl
    · rw [Lib.bitLen_half n h0 h, ih (n / 2) (by omega) (by omega), blen_half n h0]
      omega

/-- A number by its lowest places and the highest. -/
theorem blen_split (lo top e : Nat) (hl : lo < 2 ^ e) (ht : top ≠ 0) : blen (lo + 2 ^ e * top) = e + blen top := by
  have a := blen_ge top ht
  have b := blen_lt top
  have c := blen_pos top ht
  obtain ⟨t, hT⟩ : ∃ t, blen top = t + 1 := ⟨blen top - 1, by omega⟩
  rw [hT] at a b ⊢
  simp only [Nat.add_sub_cancel] at a
  refine (blen_eq _ (e + t) ?_ ?_).trans (by omega)
  · rw [Nat.pow_add]
    have := Nat.mul_le_mul_left (2 ^ e) a
    omega
  · rw [show e + t + 1 = e + (t + 1) by omega, Nat.pow_add]
    have := Nat.mul_le_mul_left (2 ^ e) (show top + 1 ≤ 2 ^ (t + 1) by omega)
    rw [Nat.mul_add] at this
    omega

theorem norm_last {b : Int} {xs : List Int} (hn : norm xs = xs) (m : Nat) (hm : xs.length = m + 1) : xs[m]?.getD 0 ≠ 0 := by
  intro h
  have hm' : m < xs.length := by omega
  have h1 : (norm xs).length ≤ m := by
    rcases Nat.lt_or_ge m (norm xs).length with h2 | h2
    · exfalso
      -- a list with 0 at its end is longer than its norm
      have e : xs = xs.take m ++ List.replicate 1 0 := by
        conv => lhs; rw [← List.take_append_drop m xs]
        rw [List.drop_eq_getElem_cons hm', List.drop_of_length_le (by omega)]
        rw [List.getElem?_eq_getElem hm'] at h
        simp at h
        simp [h]
      have h3 := norm_append_zeros (xs.take m) 1
      rw [← e] at h3
      have h4 := norm_length_le (xs.take m)
      have h5 : (xs.take m).length = m := by rw [List.length_take]; omega
      rw [h3] at h2
      omega
    · exact h2
  rw [hn] at h1
  omega

/-- The bits of a list of limbs (w bits to a limb) that has no nought at its end. -/
theorem blen_list (w : Nat) (b : Int) (hb : b = 2 ^ w) (xs : List Int) (hd : Dig b xs) (hn : norm xs = xs) (m : Nat) (hm : xs.length = m + 1) :
    blen (val b xs).toNat = w * m + blen (xs[m]?.getD 0).toNat := by
  have hbp : 0 < b := by rw [hb]; exact Int.pow_pos (by omega)
  have hsplit := val_split b xs m (by omega)
  have hdrop := val_drop b xs m (by omega)
  rw [List.drop_of_length_le (show xs.length ≤ m + 1 by omega)] at hdrop
  simp only [val, Int.mul_zero, Int.add_zero] at hdrop
  rw [hdrop] at hsplit
  have hlo := val_lt hbp (hd.take m)
  have hlo0 := val_nonneg hbp (hd.take m)
  rw [List.length_take, Nat.min_eq_left (by omega)] at hlo
  have ht := hd.get hbp m
  have ht0 := norm_last (b := b) hn m hm
  generalize xs[m]?.getD 0 = t at *
  generalize val b (xs.take m) = lo at *
  obtain ⟨lo, rfl⟩ := Int.eq_ofNat_of_zero_le hlo0
  obtain ⟨t, rfl⟩ := Int.eq_ofNat_of_zero_le ht.1
  have e : b ^ m = ((2 ^ (w * m) : Nat) : Int) := by
    rw [hb, Int.natCast_pow, ← Int.pow_mul]
    rfl
  rw [e] at hsplit hlo
  rw [hsplit]
  have e2 : ((lo : Int) + ((2 ^ (w * m) : Nat) : Int) * (t : Int)).toNat = lo + 2 ^ (w * m) * t := by
    rw [← Int.natCast_mul, ← Int.natCast_add, Int.toNat_natCast]
  rw [e2, blen_split lo t (w * m) (by omega) (by omega)]
  simp

/-- More digits, a greater number. -/
theorem lt_of_len {b : Int} (hb : 0 < b) {xs zs : List Int} (hx : Dig b xs) (hz : Dig b zs) (hn : norm zs = zs) (h : xs.length < zs.length) : val b xs < val b zs := by
  have h1 := val_lt hb hx
  have h2 := val_ge hb hz hn (by intro e; rw [e] at h; simp at h)
  exact Int.lt_of_lt_of_le (Int.lt_of_lt_of_le h1 (pow_le (by omega) (by omega))) h2

/-- The highest place that differs decides. -/
theorem lt_at {b : Int} (hb : 0 < b) {xs zs : List Int} (hx : Dig b xs) (hz : Dig b zs) (k : Nat) (h1 : k < xs.length) (h2 : k < zs.length) (he : val b (xs.drop (k + 1)) = val b (zs.drop (k + 1))) (h : xs[k]?.getD 0 < zs[k]?.getD 0) :
    val b xs < val b zs := by
  have s1 := val_split b xs k (by omega)
  have s2 := val_split b zs k (by omega)
  rw [val_drop b xs k h1] at s1
  rw [val_drop b zs k h2, ← he] at s2
  have l1 := val_lt hb (hx.take k)
  have l2 := val_nonneg hb (hz.take k)
  rw [List.length_take, Nat.min_eq_left (by omega)] at l1
  rw [s1, s2]
  have hp : 0 < b ^ k := Int.pow_pos hb
  generalize b ^ k = P at *
  generalize xs[k]?.getD 0 = x at *
  generalize zs[k]?.getD 0 = z at *
  generalize val b (xs.take k) = A at *
  generalize val b (zs.take k) = C at *
  generalize b * val b (xs.drop (k + 1)) = R at *
  have : P * (x + R + 1) ≤ P * (z + R) := Int.mul_le_mul_of_nonneg_left (by omega) (Int.le_of_lt hp)
  rw [Int.mul_add P (x + R) 1] at this
  omega
end Go.Proofs.YtmnabilgpndjmaaDoor
