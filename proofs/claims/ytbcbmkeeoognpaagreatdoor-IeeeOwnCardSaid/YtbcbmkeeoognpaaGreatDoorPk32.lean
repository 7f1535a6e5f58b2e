/- Contracts of functions, and plain facts, part 32. -/
import Derived.Test.YtbcbmkeeoognpaaGreatDoorProg
import Derived.Laws.Bits64b
import Derived.WalkKit
import Derived.Deep.RegionHeld3
import Derived.Test.YtbcbmkeeoognpaaGreatDoorPk1
import Derived.Test.YtbcbmkeeoognpaaGreatDoorPk4
import Derived.Test.YtbcbmkeeoognpaaGreatDoorPk5
import Derived.Test.YtbcbmkeeoognpaaGreatDoorPk6
import Derived.Test.YtbcbmkeeoognpaaGreatDoorPk10
set_option linter.unusedVariables false
set_option linter.unusedSimpArgs false
/- Patterns of bits as numbers: plain facts, no program. -/
namespace Go.Proofs.YtbcbmkeeoognpaaGreatDoor

/-- The size z of a pattern as a number of least steps (F digits of fraction). -/
def numN (F z : Nat) : Nat := if z < 2 ^ F then z else (2 ^ F + z % 2 ^ F) * 2 ^ (z / 2 ^ F - 1)

theorem numN_at (F d k : Nat) (h1 : d = 0 ∨ 2 ^ F ≤ k) (h2 : k ≤ 2 ^ (F + 1)) : numN F (d * 2 ^ F + k) = k * 2 ^ d := by
  have hP := Nat.two_pow_pos F
  rw [Nat.pow_succ] at h2
  unfold numN
  rcases Nat.lt_or_ge k (2 ^ F) with hk | hk
  · have hd : d = 0 := by omega
    subst hd
    rw [Nat.zero_mul, Nat.zero_add, if_pos hk]
    simp
  · rw [if_neg (by have := Nat.le_add_left k (d * 2 ^ F); omega)]
    rcases Nat.lt_or_ge k (2 ^ F * 2) with hk2 | hk2
    · have e : d * 2 ^ F + k = (k - 2 ^ F) + 2 ^ F * (d + 1) := by rw [Nat.mul_add, Nat.mul_comm d]; omega
      rw [e, Nat.add_mul_mod_self_left, Nat.add_mul_div_left _ _ hP, Nat.mod_eq_of_lt (by omega), Nat.div_eq_of_lt (by omega), Nat.zero_add, Nat.add_sub_cancel, Nat.add_sub_cancel' hk]
    · have hk3 : k = 2 ^ F * 2 := by omega
      have e : d * 2 ^ F + k = 0 + 2 ^ F * (d + 2) := by rw [Nat.mul_add, Nat.mul_comm d]; omega
      rw [e, Nat.add_mul_mod_self_left, Nat.add_mul_div_left _ _ hP, Nat.zero_mod, Nat.zero_div, Nat.zero_add, hk3, show d + 2 - 1 = d + 1 by omega, Nat.pow_succ, Nat.add_zero]
      rw [Nat.mul_assoc, Nat.mul_comm 2]

/-- Every size in that form. -/
theorem size_form (F z : Nat) : ∃ d k, z = d * 2 ^ F + k ∧ (d = 0 ∨ 2 ^ F ≤ k) ∧ k < 2 ^ (F + 1) := by
  have hP := Nat.two_pow_pos F
  rcases Nat.lt_or_ge z (2 ^ F) with h | h
  · exact ⟨0, z, by omega, .inl rfl, by rw [Nat.pow_succ]; omega⟩
  · refine ⟨z / 2 ^ F - 1, 2 ^ F + z % 2 ^ F, ?_, .inr (Nat.le_add_right _ _), ?_⟩
    · have h1 := Nat.div_add_mod z (2 ^ F)
      have h2 : 1 ≤ z / 2 ^ F := (Nat.le_div_iff_mul_le hP).2 (by omega)
      obtain ⟨q, hq⟩ : ∃ q, z / 2 ^ F = q + 1 := ⟨z / 2 ^ F - 1, by omega⟩
      rw [hq] at h1 ⊢
      rw [Nat.mul_add] at h1
      rw [Nat.add_sub_cancel, Nat.mul_comm q]
      omega
    · have := Nat.mod_lt z hP
      rw [Nat.pow_succ]
      omega

theorem numN_succ (F z : Nat) : ∃ d k, z = d * 2 ^ F + k ∧ (d = 0 ∨ 2 ^ F ≤ k) ∧ k < 2 ^ (F + 1) ∧ numN F z = k * 2 ^ d ∧ numN F (z + 1) = (k + 1) * 2 ^ d := by
  obtain ⟨d, k, rfl, h1, h2⟩ := size_form F z
  exact ⟨d, k, rfl, h1, h2, numN_at F d k h1 (by omega), by rw [Nat.add_assoc]; exact numN_at F d (k + 1) (by omega) (by omega)⟩

theorem numN_lt_succ (F z : Nat) : numN F z < numN F (z + 1) := by
  obtain ⟨d, k, -, -, -, e1, e2⟩ := numN_succ F z
  rw [e1, e2]
  exact Nat.mul_lt_mul_of_pos_right (by omega) (Nat.two_pow_pos d)

theorem numN_mono (F : Nat) {a b : Nat} (h : a ≤ b) : numN F a ≤ numN F b := by
  induction h with
  | refl => exact Nat.le_refl _
  | step _ ih => exact Nat.le_of_lt (Nat.lt_of_le_of_lt ih (numN_lt_succ F _))

/-- r is the size of the nearest pattern to X; U: the least step; I: the first size that is no finite one's. -/
def Nearest (F I U X r : Nat) : Prop :=
  ∃ low, low ≤ I ∧ numN F low * U ≤ X ∧ (low < I → X < numN F (low + 1) * U) ∧
    r = if low = I then I else if (numN F low + numN F (low + 1)) * U < 2 * X ∨ (2 * X = (numN F low + numN F (low + 1)) * U ∧ low % 2 = 1) then low + 1 else low

theorem low_unique (F I U X a b : Nat) (ha : a ≤ I) (hb : b ≤ I) (a1 : numN F a * U ≤ X) (a2 : a < I → X < numN F (a + 1) * U) (b1 : numN F b * U ≤ X) (b2 : b < I → X < numN F (b + 1) * U) : a = b := by
  rcases Nat.lt_trichotomy a b with h | h | h
  · exfalso
    have := a2 (by omega)
    have m := Nat.mul_le_mul_right U (numN_mono F (show a + 1 ≤ b from h))
    omega
  · exact h
  · exfalso
    have := b2 (by omega)
    have m := Nat.mul_le_mul_right U (numN_mono F (show b + 1 ≤ a from h))
    omega

theorem Nearest.unique {F I U X r s : Nat} (h : Nearest F I U X r) (k : Nearest F I U X s) : r = s := by
  obtain ⟨a, a0, a1, a2, rfl⟩ := h
  obtain ⟨b, b0, b1, b2, rfl⟩ := k
  obtain rfl := low_unique F I U X a b a0 b0 a1 a2 b1 b2
  rfl

/-- The direct way: so many digits, cut, and rounded. W: 2^d steps. -/
theorem nearest_direct (F I U X d k : Nat) (hk : k = X / (2 ^ d * U)) (hU : 0 < U) (h1 : d = 0 ∨ 2 ^ F ≤ k) (h2 : k < 2 ^ (F + 1)) (hI : d * 2 ^ F + k < I) (hF : d = 0 ∨ 0 < F) :
    Nearest F I U X (d * 2 ^ F + (if 2 ^ d * U < 2 * (X % (2 ^ d * U)) ∨ (2 * (X % (2 ^ d * U)) = 2 ^ d * U ∧ k % 2 = 1) then k + 1 else k)) := by
  have hW : 0 < 2 ^ d * U := Nat.mul_pos (Nat.two_pow_pos d) hU
  have hX := Nat.div_add_mod X (2 ^ d * U)
  have hr := Nat.mod_lt X hW
  rw [← hk] at hX
  have n1 := numN_at F d k h1 (by omega)
  have n2 := numN_at F d (k + 1) (by omega) (by omega)
  have e1 : k * 2 ^ d * U = 2 ^ d * U * k := by rw [Nat.mul_assoc, Nat.mul_comm]
  have e2 : (k + 1) * 2 ^ d * U = 2 ^ d * U * k + 2 ^ d * U := by rw [Nat.mul_assoc, Nat.mul_comm, Nat.mul_add, Nat.mul_one]
  refine ⟨d * 2 ^ F + k, Nat.le_of_lt hI, by rw [n1, e1]; omega, fun _ => by rw [Nat.add_assoc, n2, e2]; omega, ?_⟩
  rw [if_neg (Nat.ne_of_lt hI), Nat.add_assoc (d * 2 ^ F), n1, n2, Nat.add_mul, e1, e2]
  have par : (d * 2 ^ F + k) % 2 = k % 2 := by
    rcases hF with h | h
    · subst h; simp
    · obtain ⟨f, rfl⟩ : ∃ f, F = f + 1 := ⟨F - 1, by omega⟩
      rw [Nat.pow_succ, ← Nat.mul_assoc]
      omega
  rw [par]
  have i1 : (2 ^ d * U * k + (2 ^ d * U * k + 2 ^ d * U) < 2 * X) ↔ 2 ^ d * U < 2 * (X % (2 ^ d * U)) := by omega
  have i2 : (2 * X = 2 ^ d * U * k + (2 ^ d * U * k + 2 ^ d * U)) ↔ 2 * (X % (2 ^ d * U)) = 2 ^ d * U := by omega
  simp only [i1, i2]
  split <;> rfl

/-- Too great. -/
theorem nearest_inf (F I U X : Nat) (h : numN F I * U ≤ X) : Nearest F I U X I := ⟨I, Nat.le_refl _, h, fun h => absurd h (Nat.lt_irrefl _), by rw [if_pos rfl]⟩

/-- Less than a half of the least step. -/
theorem nearest_zero (F I U X : Nat) (hI : 0 < I) (h : 2 * X < U) : Nearest F I U X 0 := by
  have n0 : numN F 0 = 0 := by
    unfold numN
    rw [if_pos (Nat.two_pow_pos F)]
  have n1 : numN F 1 = 1 := by
    have := numN_at F 0 1 (.inl rfl) (Nat.one_le_two_pow)
    simpa using this
  refine ⟨0, Nat.zero_le _, by rw [n0]; omega, fun _ => by rw [Nat.zero_add, n1]; omega, ?_⟩
  rw [if_neg (by omega), Nat.zero_add, n0, n1, if_neg (by omega)]
end Go.Proofs.YtbcbmkeeoognpaaGreatDoor


/- nat.Uint: the number, if it is below 2 to the 64. -/
namespace Go.Proofs.YtbcbmkeeoognpaaGreatDoor
open Go.RowKit

theorem fits_len (xs : List Int) (dx : Dig 4294967296 xs) : (norm xs).length ≤ 2 ↔ val 4294967296 xs < 18446744073709551616 := by
  have h0 := val_nonneg (b := 4294967296) (by omega) dx
  have e := norm_eq 4294967296 (by omega) dx
  rw [e]
  have := dg_len_iff 4294967296 (by omega) 2 (val 4294967296 xs) h0
  simpa using this

theorem or_up (l h : Int) (hl : 0 ≤ l ∧ l < 4294967296) (hh : 0 ≤ h ∧ h < 4294967296) : bits .or .u64 l (h * 4294967296) = l + h * 4294967296 := by
  obtain ⟨h, rfl⟩ := Int.eq_ofNat_of_zero_le hh.1
  obtain ⟨l, rfl⟩ := Int.eq_ofNat_of_zero_le hl.1
  have e : ((h : Int) * 4294967296) = ((h * 4294967296 : Nat) : Int) := by simp
  rw [e, bits_or_u64_nat _ _ (by omega) (by omega), Nat.or_comm, nat_join 32 _ _ (by omega) (by omega)]
  omega
theorem or_zero64 (l : Int) (hl : 0 ≤ l ∧ l < 4294967296) : bits .or .u64 0 l = l := by
  obtain ⟨l, rfl⟩ := Int.eq_ofNat_of_zero_le hl.1
  have := bits_or_u64_nat 0 l (by omega) (by omega)
  simpa using this

set_option maxHeartbeats 400000 in
theorem uint_calls (ad : Option Addr) (n c : Nat) (la : List Int) (w : World) (hn : n ≤ 9223372036854775807) (hnc : n ≤ c) (hr : Rds w .u32 ad n la) (da : Dig 4294967296 la) :
    Calls Tryz.prog 195 #[.slice ad n c] w fun e w' => e = .returned (.tuple #[.int .u64 (low64 (val 4294967296 la)), .bool (fits64 (val 4294967296 la))]) ∧ w = w' := by
  have hc := Lib.hid (cut_calls ad n c la w (by omega) hnc hr)
  have rx := hr.norm
  have dx := norm_dig da
  have hF := fits_len la da
  have hma := norm_length_le la
  rw [hr.len] at hma
  rw [← val_norm 4294967296 la] at hF ⊢
  clear hr da
  generalize norm la = xs at *
  obtain ⟨m, hm⟩ : ∃ m, xs.length = m := ⟨_, rfl⟩
  rw [hm] at hc rx hF hma
  have HM := Lib.hid hm
  clear hm
  by_cases h2 : m ≤ 2
  · have HV := Lib.hid (hF.1 h2)
    have HL := Lib.hid (show low64 (val 4294967296 xs) = val 4294967296 xs by unfold low64; rw [if_pos HV.out])
    have HB := Lib.hid (show fits64 (val 4294967296 xs) = true from decide_eq_true HV.out)
    clear hF
    go_enter Tryz.func195, Tryz.ntmps195
    go_wp2_with fail
    refine (hc.out).mono ?_
    rintro e w' ⟨rfl, rfl⟩
    go_wp2_with fail
    go_loop [13, 4] (fun i acc => ∃ k : Nat, k ≤ m ∧ i = .int .i64 k ∧ acc = .int .u64 (val 4294967296 (xs.take k))) (fun i _ => m - (intOf i).toNat)
    case atStart => exact ⟨0, Nat.zero_le _, rfl, by simp [val]⟩
    case round =>
      obtain ⟨k, hk, rfl, rfl⟩ := hrel
      by_cases hkm : k < m
      · obtain ⟨a, rfl, hxl⟩ := rx.cell k hkm
        have bx := dx.get (by omega) k
        have hs := Lib.hid (val_take_succ' 4294967296 xs k)
        have b0 := val_nonneg (b := 4294967296) (by omega) (dx.take k)
        have b1 := val_lt (b := 4294967296) (by omega) (dx.take k)
        rw [List.length_take, HM.out, Nat.min_eq_left (by omega)] at b1
        generalize xs[k]?.getD 0 = x at *
        rcases (show k = 0 ∨ k = 1 by omega) with rfl | rfl
        · have B := or_zero64 x bx
          have hxl' : w.cell? a = some (.int .u32 x) := by simpa [Addr.add] using hxl
          have HS := Lib.hid (show val 4294967296 (xs.take (0 + 1)) = x by rw [hs.out]; simp [val])
          rw [show val 4294967296 (xs.take 0) = 0 by simp [val]]
          clear b0 b1 hs
          go_wp2
          go_round
          case rel => exact ⟨0 + 1, by omega, rfl, by rw [HS.out]⟩
          case measure => simp [intOf]; omega
        · simp only [Int.pow_one] at b1 hs
          have B := or_up (val 4294967296 (xs.take 1)) x ⟨b0, b1⟩ bx
          have hxl' : w.cell? ⟨a.block, a.off + 1, none⟩ = some (.int .u32 x) := by simpa [Addr.add] using hxl
          have HS := Lib.hid (show val 4294967296 (xs.take (1 + 1)) = val 4294967296 (xs.take 1) + x * 4294967296 by rw [hs.out, Int.mul_comm x])
          clear hs
          generalize val 4294967296 (xs.take 1) = v at *
          go_wp2
          go_round
          case rel => exact ⟨1 + 1, by omega, rfl, by rw [HS.out]⟩
          case measure => simp [intOf]; omega
      · obtain rfl : k = m := by omega
        have HT := Lib.hid (show val 4294967296 (xs.take k) = val 4294967296 xs by rw [← HM.out, List.take_length])
        go_wp2
        go_ret2
        rw [HL.out, HB.out, ← HT.out]
        exact ⟨rfl, rfl⟩
  · have HV := Lib.hid (fun h => h2 (hF.2 h))
    have HL := Lib.hid (show low64 (val 4294967296 xs) = 0 by unfold low64; rw [if_neg HV.out])
    have HB := Lib.hid (show fits64 (val 4294967296 xs) = false from decide_eq_false HV.out)
    clear hF
    have h3 : (2 : Int) < (m : Int) := by omega
    go_enter Tryz.func195, Tryz.ntmps195
    go_wp2_with fail
    refine (hc.out).mono ?_
    rintro e w' ⟨rfl, rfl⟩
    go_wp2
    go_ret2
    rw [HL.out, HB.out]
    exact ⟨rfl, rfl⟩
end Go.Proofs.YtbcbmkeeoognpaaGreatDoor


/- The shapes of the three widths, and what a pattern is: plain definitions. -/
namespace Go.Proofs.YtbcbmkeeoognpaaGreatDoor

/-- Of a width (16, 32; all others: 64): digits of the fraction, digits of the exponent, the least power. -/
def shF (W : Nat) : Nat := if W = 16 then 10 else if W = 32 then 23 else 52
def shE (W : Nat) : Nat := if W = 16 then 5 else if W = 32 then 8 else 11
def shL (W : Nat) : Int := if W = 16 then -24 else if W = 32 then -149 else -1074
/-- The sign bit, the infinite pattern, the one for no number. -/
def sgnW (W : Nat) : Int := 2 ^ (W - 1)
def infW (W : Nat) : Int := (2 ^ shE W - 1) * 2 ^ shF W
def negW (W : Nat) (x : Int) : Bool := decide (sgnW W ≤ x)
def sizeW (W : Nat) (x : Int) : Int := if sgnW W ≤ x then x - sgnW W else x

/-- The three widths. -/
def Wide (W : Nat) : Prop := W = 16 ∨ W = 32 ∨ W = 64

theorem sgn16 : sgnW 16 = 32768 := by decide
theorem sgn32 : sgnW 32 = 2147483648 := by decide
theorem sgn64 : sgnW 64 = 9223372036854775808 := by decide
theorem inf16 : infW 16 = 31744 := by decide
theorem inf32 : infW 32 = 2139095040 := by decide
theorem inf64 : infW 64 = 9218868437227405312 := by decide
theorem size_bounds {W : Nat} (hW : Wide W) (x : Int) (h : 0 ≤ x ∧ x < 2 ^ W) : 0 ≤ sizeW W x ∧ sizeW W x < sgnW W := by
  have e : (2 : Int) ^ W = sgnW W + sgnW W := by rcases hW with rfl | rfl | rfl <;> decide
  unfold sizeW
  split <;> omega

def nextW (W : Nat) (x : Int) : Int :=
  if infW W < sizeW W x ∨ x = infW W then x else if sizeW W x = 0 then 1 else if negW W x then x - 1 else x + 1
end Go.Proofs.YtbcbmkeeoognpaaGreatDoor


/- Uint by worth alone. -/
namespace Go.Proofs.YtbcbmkeeoognpaaGreatDoor
open Go.RowKit

theorem num_uint (ad : Option Addr) (n c : Nat) (V : Int) (w : World) (h : Num w ad n c V) (hn : n ≤ 70368744177663) :
    Calls Tryz.prog 195 #[.slice ad n c] w (fun e w' => e = .returned (.tuple #[.int .u64 (low64 V), .bool (fits64 V)]) ∧ w = w') := by
  obtain ⟨xs, h1, h2, rfl⟩ := h.row
  exact (uint_calls ad n c xs w (by omega) h.le h1 h2).mono fun e w' q => q
end Go.Proofs.YtbcbmkeeoognpaaGreatDoor


/- Printed by ieee.py. -/
namespace Go.Proofs.YtbcbmkeeoognpaaGreatDoor
open Go.RowKit

/-- The table of shapes as its initialiser lays it. -/
structure Shapes (w : World) : Prop where
  c0 : w.cell? ⟨2, 0, none⟩ = some (.int .i64 10)
  c1 : w.cell? ⟨2, 1, none⟩ = some (.int .i64 (-24))
  c2 : w.cell? ⟨2, 2, none⟩ = some (.int .i64 5)
  c3 : w.cell? ⟨2, 3, none⟩ = some (.int .i64 23)
  c4 : w.cell? ⟨2, 4, none⟩ = some (.int .i64 (-149))
  c5 : w.cell? ⟨2, 5, none⟩ = some (.int .i64 8)
  c6 : w.cell? ⟨2, 6, none⟩ = some (.int .i64 52)
  c7 : w.cell? ⟨2, 7, none⟩ = some (.int .i64 (-1074))
  c8 : w.cell? ⟨2, 8, none⟩ = some (.int .i64 11)

theorem Shapes.below {w w1 : World} (h : Shapes w) {B : Nat} (hb : Below B w w1) (hB : w.heap.size ≤ B) : Shapes w1 :=
  ⟨below_cell hb hB h.c0, below_cell hb hB h.c1, below_cell hb hB h.c2, below_cell hb hB h.c3, below_cell hb hB h.c4, below_cell hb hB h.c5, below_cell hb hB h.c6, below_cell hb hB h.c7, below_cell hb hB h.c8⟩

theorem size_shape : (Tryz.prog.info? 228).map (·.size) = some 3 := by kernel_rfl

end Go.Proofs.YtbcbmkeeoognpaaGreatDoor


/- The nearest pattern as a function, and what the ways of finding it find: plain facts. -/
namespace Go.Proofs.YtbcbmkeeoognpaaGreatDoor

theorem numN_zero (F : Nat) : numN F 0 = 0 := by
  unfold numN
  rw [if_pos (Nat.two_pow_pos F)]

theorem low_exists (F U X : Nat) : ∀ I, ∃ low, low ≤ I ∧ numN F low * U ≤ X ∧ (low < I → X < numN F (low + 1) * U)
  | 0 => ⟨0, Nat.le_refl _, by rw [numN_zero]; omega, fun h => absurd h (Nat.lt_irrefl _)⟩
  | I + 1 => by
    obtain ⟨low, h1, h2, h3⟩ := low_exists F U X I
    by_cases h : low < I
    · exact ⟨low, by omega, h2, fun _ => h3 h⟩
    · obtain rfl : low = I := by omega
      by_cases h4 : numN F (low + 1) * U ≤ X
      · exact ⟨low + 1, Nat.le_refl _, h4, fun h => absurd h (Nat.lt_irrefl _)⟩
      · exact ⟨low, by omega, h2, fun _ => by omega⟩

theorem nearest_exists (F I U X : Nat) : ∃ r, Nearest F I U X r := by
  obtain ⟨low, h1, h2, h3⟩ := low_exists F U X I
  exact ⟨_, low, h1, h2, h3, rfl⟩

/-- The size of the nearest pattern. -/
noncomputable def nearN (F I U X : Nat) : Nat := Classical.choose (nearest_exists F I U X)
theorem nearN_spec (F I U X : Nat) : Nearest F I U X (nearN F I U X) := Classical.choose_spec (nearest_exists F I U X)
theorem nearN_eq {F I U X r : Nat} (h : Nearest F I U X r) : nearN F I U X = r := (nearN_spec F I U X).unique h
theorem Nearest.le {F I U X r : Nat} (h : Nearest F I U X r) : r ≤ I := by
  obtain ⟨low, h1, h2, h3, rfl⟩ := h
  split
  · omega
  · split <;> omega

/-- M 2^e in least steps (of 2^L), or in parts of one. -/
def rU (L e : Int) : Nat := 2 ^ (L - e).toNat
def rX (L e : Int) (M : Nat) : Nat := M * 2 ^ (e - L).toNat
def rM (V : Int) (more : Bool) : Nat := if more then 2 * V.toNat + 1 else V.toNat
def rE (e : Int) (more : Bool) : Int := if more then e - 1 else e
def infN (W : Nat) : Nat := (2 ^ shE W - 1) * 2 ^ shF W
/-- The power of 2 that the infinite pattern would be, in least steps. -/
def topP (W : Nat) : Nat := shF W + 2 ^ shE W - 2
noncomputable def nearE (W : Nat) (M : Nat) (e : Int) : Nat := nearN (shF W) (infN W) (rU (shL W) e) (rX (shL W) e M)
/-- What Round answers. -/
noncomputable def roundW (W : Nat) (neg : Bool) (V e : Int) (more : Bool) : Int := (if neg then sgnW W else 0) + nearE W (rM V more) (rE e more)

theorem infW_eq {W : Nat} (hW : Wide W) : infW W = infN W := by rcases hW with rfl | rfl | rfl <;> decide
theorem rU_pos (L e : Int) : 0 < rU L e := Nat.two_pow_pos _

theorem numN_inf {W : Nat} (hW : Wide W) : numN (shF W) (infN W) = 2 ^ topP W := by
  have h : ∀ F E, 2 ≤ 2 ^ E → numN F ((2 ^ E - 1) * 2 ^ F) = 2 ^ (F + 2 ^ E - 2) := by
    intro F E hE
    have h := numN_at F (2 ^ E - 2) (2 ^ F) (.inr (Nat.le_refl _)) (by rw [Nat.pow_succ]; omega)
    rw [show (2 ^ E - 2) * 2 ^ F + 2 ^ F = (2 ^ E - 1) * 2 ^ F by rw [← Nat.succ_mul]; congr 1; omega] at h
    rw [h, ← Nat.pow_add]
    congr 1
    omega
  exact h _ _ (by rcases hW with rfl | rfl | rfl <;> decide)

theorem nearE_inf {W : Nat} (hW : Wide W) (M b : Nat) (e : Int) (hb : 2 ^ b ≤ M) (h : (topP W : Int) ≤ b + e - shL W) : nearE W M e = infN W := by
  refine nearN_eq (nearest_inf _ _ _ _ ?_)
  rw [numN_inf hW]
  unfold rU rX
  rw [← Nat.pow_add]
  refine Nat.le_trans ?_ (Nat.mul_le_mul_right _ hb)
  rw [← Nat.pow_add]
  exact Nat.pow_le_pow_right (by omega) (by omega)

theorem infN_pos {W : Nat} (hW : Wide W) : 0 < infN W := by rcases hW with rfl | rfl | rfl <;> decide

theorem nearE_small {W : Nat} (hW : Wide W) (M b : Nat) (e : Int) (hb : M < 2 ^ b) (h : (b : Int) + e + 1 ≤ shL W) : nearE W M e = 0 := by
  refine nearN_eq (nearest_zero _ _ _ _ (infN_pos hW) ?_)
  unfold rU rX
  rw [show (e - shL W).toNat = 0 by omega, Nat.pow_zero, Nat.mul_one]
  have h2 : 2 ^ (b + 1) ≤ 2 ^ (shL W - e).toNat := Nat.pow_le_pow_right (by omega) (by omega)
  rw [Nat.pow_succ] at h2
  omega

theorem nearE_zero {W : Nat} (hW : Wide W) (e : Int) : nearE W 0 e = 0 := by
  refine nearN_eq (nearest_zero _ _ _ _ (infN_pos hW) ?_)
  unfold rX
  rw [Nat.zero_mul]
  exact rU_pos _ _

/-- s places below the last one are cut off, and it is rounded. -/
def rounded (M s : Nat) : Nat := if 2 ^ s < 2 * (M % 2 ^ s) ∨ (2 * (M % 2 ^ s) = 2 ^ s ∧ M / 2 ^ s % 2 = 1) then M / 2 ^ s + 1 else M / 2 ^ s

theorem wide_F {W : Nat} (hW : Wide W) : 0 < shF W := by rcases hW with rfl | rfl | rfl <;> decide

theorem nearE_cut {W : Nat} (hW : Wide W) (M d s : Nat) (e : Int) (hs : (s : Int) = shL W + d - e) (h1 : d = 0 ∨ 2 ^ shF W ≤ M / 2 ^ s) (h2 : M / 2 ^ s < 2 ^ (shF W + 1)) (hd : d + 2 < 2 ^ shE W) :
    nearE W M e = d * 2 ^ shF W + rounded M s := by
  refine nearN_eq ?_
  have eU : 2 ^ d * rU (shL W) e = 2 ^ s * 2 ^ (e - shL W).toNat := by
    unfold rU
    rw [← Nat.pow_add, ← Nat.pow_add]
    congr 1
    omega
  have hc : 0 < 2 ^ (e - shL W).toNat := Nat.two_pow_pos _
  have eX : rX (shL W) e M = M * 2 ^ (e - shL W).toNat := rfl
  have hk : M / 2 ^ s = rX (shL W) e M / (2 ^ d * rU (shL W) e) := by
    rw [eU, eX, Nat.mul_div_mul_right _ _ hc]
  have hm : rX (shL W) e M % (2 ^ d * rU (shL W) e) = M % 2 ^ s * 2 ^ (e - shL W).toNat := by
    rw [eU, eX, Nat.mul_mod_mul_right]
  have h := nearest_direct (shF W) (infN W) (rU (shL W) e) (rX (shL W) e M) d (M / 2 ^ s) hk (rU_pos _ _) h1 h2 ?_ (.inr (wide_F hW))
  · rw [hm, eU] at h
    have i1 : (2 ^ s * 2 ^ (e - shL W).toNat < 2 * (M % 2 ^ s * 2 ^ (e - shL W).toNat)) ↔ 2 ^ s < 2 * (M % 2 ^ s) := by
      rw [← Nat.mul_assoc]
      exact Nat.mul_lt_mul_right hc
    have i2 : (2 * (M % 2 ^ s * 2 ^ (e - shL W).toNat) = 2 ^ s * 2 ^ (e - shL W).toNat) ↔ 2 * (M % 2 ^ s) = 2 ^ s := by
      rw [← Nat.mul_assoc]
      exact Nat.mul_left_inj (by omega)
    simp only [i1, i2] at h
    exact h
  · unfold infN
    rw [Nat.pow_succ] at h2
    have hp := Nat.two_pow_pos (shF W)
    have h3 : (d + 2) * 2 ^ shF W ≤ (2 ^ shE W - 1) * 2 ^ shF W := Nat.mul_le_mul_right _ (by omega)
    rw [Nat.add_mul] at h3
    omega

theorem rounded_zero (M : Nat) : rounded M 0 = M := by
  unfold rounded
  rw [Nat.pow_zero, Nat.mod_one, Nat.div_one]
  simp

/-- Nothing is cut off. -/
theorem nearE_exact {W : Nat} (hW : Wide W) (M d t : Nat) (e : Int) (ht : e = shL W + d + t) (h1 : d = 0 ∨ 2 ^ shF W ≤ M * 2 ^ t) (h2 : M * 2 ^ t < 2 ^ (shF W + 1)) (hd : d + 2 < 2 ^ shE W) :
    nearE W M e = d * 2 ^ shF W + M * 2 ^ t := by
  have h := nearE_cut hW (M * 2 ^ t) d 0 (shL W + d) (by omega) (by simpa using h1) (by simpa using h2) hd
  rw [rounded_zero] at h
  rw [← h]
  unfold nearE
  have e1 : rU (shL W) e = rU (shL W) (shL W + d) := by
    unfold rU
    rw [show (shL W - e).toNat = 0 by omega, show (shL W - (shL W + d)).toNat = 0 by omega]
  have e2 : rX (shL W) e M = rX (shL W) (shL W + d) (M * 2 ^ t) := by
    unfold rX
    rw [Nat.mul_assoc, ← Nat.pow_add]
    congr 2
    omega
  rw [e1, e2]

/-- The program's way: q and whether something is left, one place more than is kept. -/
theorem rounded_prog (M s : Nat) (q : Nat) (hq : q = M / 2 ^ s) :
    rounded M (s + 1) = if q % 2 = 1 ∧ (M % 2 ^ s ≠ 0 ∨ q / 2 % 2 = 1) then q / 2 + 1 else q / 2 := by
  have hP := Nat.two_pow_pos s
  have h1 : M / 2 ^ (s + 1) = q / 2 := by rw [hq, Nat.pow_succ, ← Nat.div_div_eq_div_mul]
  have h2 : M % 2 ^ (s + 1) = M % 2 ^ s + 2 ^ s * (q % 2) := by rw [hq, Nat.pow_succ, Nat.mod_mul]
  have h3 := Nat.mod_lt M hP
  unfold rounded
  rw [h1, h2, Nat.pow_succ]
  rcases Nat.mod_two_eq_zero_or_one q with h | h
  · rw [h, if_neg (by omega), if_neg (by omega)]
  · rw [h, Nat.mul_one]
    by_cases hz : M % 2 ^ s = 0
    · rw [hz]
      by_cases h4 : q / 2 % 2 = 1
      · rw [if_pos (by omega), if_pos (by omega)]
      · rw [if_neg (by omega), if_neg (by omega)]
    · rw [if_pos (by omega), if_pos (by omega)]

end Go.Proofs.YtbcbmkeeoognpaaGreatDoor


/- Printed by ieee.py. -/
namespace Go.Proofs.YtbcbmkeeoognpaaGreatDoor
open Go.RowKit

theorem and_two_pow_nat (x k : Nat) (hx : x < 2 ^ (k + 1)) : x &&& 2 ^ k = if 2 ^ k ≤ x then 2 ^ k else 0 := by
  apply Nat.eq_of_testBit_eq
  intro i
  rw [Nat.testBit_and, Nat.testBit_two_pow]
  by_cases h : k = i
  · subst h
    by_cases h2 : 2 ^ k ≤ x
    · rw [if_pos h2, Nat.testBit_two_pow_self]
      have : x.testBit k = true := by
        rw [Nat.testBit_eq_decide_div_mod_eq]
        rw [Nat.pow_succ] at hx
        have h3 : x / 2 ^ k = 1 := by
          apply Nat.div_eq_of_lt_le <;> omega
        rw [h3]
        rfl
      simp [this]
    · rw [if_neg h2, Nat.testBit_lt_two_pow (by omega)]
      simp
  · have h3 : decide (k = i) = false := by simp [h]
    rw [h3, Bool.and_false]
    split
    · rw [Nat.testBit_two_pow, h3]
    · simp

theorem andNot_two_pow_nat (x k : Nat) (hk : k < 64) (hx : x < 2 ^ (k + 1)) : x &&& (2 ^ 64 - (2 ^ k + 1)) = x % 2 ^ k := by
  apply Nat.eq_of_testBit_eq
  intro i
  have h1 : 2 ^ k < 2 ^ 64 := Nat.pow_lt_pow_right (by omega) hk
  rw [Nat.testBit_and, Nat.testBit_two_pow_sub_succ h1, Nat.testBit_mod_two_pow, Nat.testBit_two_pow]
  by_cases hik : i < k
  · have h2 : i < 64 := by omega
    have h3 : ¬ k = i := by omega
    simp [hik, h2, h3]
  · by_cases he : k = i
    · subst he
      simp
    · rw [Nat.testBit_lt_two_pow (Nat.lt_of_lt_of_le hx (Nat.pow_le_pow_right (by omega) (by omega)))]
      simp

theorem bits_andNot_u64_nat (a b : Nat) (ha : a < 18446744073709551616) (hb : b < 18446744073709551616) : bits .andNot .u64 (a : Int) (b : Int) = ((a &&& (2 ^ 64 - (b + 1)) : Nat) : Int) := by
  have h1 : (BitVec.ofInt 64 (a : Int)).toNat = a := by
    rw [BitVec.ofInt_natCast, BitVec.toNat_ofNat]; exact Nat.mod_eq_of_lt (by omega)
  have h2 : (BitVec.ofInt 64 (b : Int)).toNat = b := by
    rw [BitVec.ofInt_natCast, BitVec.toNat_ofNat]; exact Nat.mod_eq_of_lt (by omega)
  have hx : a &&& (2 ^ 64 - (b + 1)) < 2 ^ 64 := Nat.lt_of_le_of_lt Nat.and_le_left (by omega)
  show IntKind.u64.wrap ((BitVec.ofInt 64 (a : Int) &&& ~~~ BitVec.ofInt 64 (b : Int)).toNat : Int) = _
  rw [BitVec.toNat_and, BitVec.toNat_not, h1, h2, show 2 ^ 64 - 1 - b = 2 ^ 64 - (b + 1) by omega, IntKind.wrap_u64]
  omega

theorem and_sign_16 (x : Int) (hx : 0 ≤ x ∧ x < 65536) : (bits .and .u64 x 32768 != 0) = negW 16 x := by
  obtain ⟨x, rfl⟩ := Int.eq_ofNat_of_zero_le hx.1
  have e : bits .and .u64 (x : Int) ((32768 : Nat) : Int) = ((x &&& 32768 : Nat) : Int) := Go.bits_and_u64_nat x _ (by omega) (by omega)
  have h := and_two_pow_nat x 15 (by omega)
  rw [show (2 : Nat) ^ 15 = 32768 from by decide] at h
  rw [show ((32768 : Nat) : Int) = 32768 from rfl, h] at e
  unfold negW
  rw [sgn16, e, Bool.eq_iff_iff]
  simp only [bne_iff_ne, ne_eq, decide_eq_true_eq]
  split <;> omega
theorem andNot_sign_16 (x : Int) (hx : 0 ≤ x ∧ x < 65536) : bits .andNot .u64 x 32768 = sizeW 16 x := by
  obtain ⟨x, rfl⟩ := Int.eq_ofNat_of_zero_le hx.1
  have e : bits .andNot .u64 (x : Int) ((32768 : Nat) : Int) = _ := bits_andNot_u64_nat x _ (by omega) (by omega)
  have h := andNot_two_pow_nat x 15 (by omega) (by omega)
  rw [show (2 : Nat) ^ 15 = 32768 from by decide] at h
  rw [show ((32768 : Nat) : Int) = 32768 from rfl, h] at e
  unfold sizeW
  rw [sgn16, e]
  split <;> omega

theorem and_sign_32 (x : Int) (hx : 0 ≤ x ∧ x < 4294967296) : (bits .and .u64 x 2147483648 != 0) = negW 32 x := by
  obtain ⟨x, rfl⟩ := Int.eq_ofNat_of_zero_le hx.1
  have e : bits .and .u64 (x : Int) ((2147483648 : Nat) : Int) = ((x &&& 2147483648 : Nat) : Int) := Go.bits_and_u64_nat x _ (by omega) (by omega)
  have h := and_two_pow_nat x 31 (by omega)
  rw [show (2 : Nat) ^ 31 = 2147483648 from by decide] at h
  rw [show ((2147483648 : Nat) : Int) = 2147483648 from rfl, h] at e
  unfold negW
  rw [sgn32, e, Bool.eq_iff_iff]
  simp only [bne_iff_ne, ne_eq, decide_eq_true_eq]
  split <;> omega
theorem andNot_sign_32 (x : Int) (hx : 0 ≤ x ∧ x < 4294967296) : bits .andNot .u64 x 2147483648 = sizeW 32 x := by
  obtain ⟨x, rfl⟩ := Int.eq_ofNat_of_zero_le hx.1
  have e : bits .andNot .u64 (x : Int) ((2147483648 : Nat) : Int) = _ := bits_andNot_u64_nat x _ (by omega) (by omega)
  have h := andNot_two_pow_nat x 31 (by omega) (by omega)
  rw [show (2 : Nat) ^ 31 = 2147483648 from by decide] at h
  rw [show ((2147483648 : Nat) : Int) = 2147483648 from rfl, h] at e
  unfold sizeW
  rw [sgn32, e]
  split <;> omega

theorem and_sign_64 (x : Int) (hx : 0 ≤ x ∧ x < 18446744073709551616) : (bits .and .u64 x 9223372036854775808 != 0) = negW 64 x := by
  obtain ⟨x, rfl⟩ := Int.eq_ofNat_of_zero_le hx.1
  have e : bits .and .u64 (x : Int) ((9223372036854775808 : Nat) : Int) = ((x &&& 9223372036854775808 : Nat) : Int) := Go.bits_and_u64_nat x _ (by omega) (by omega)
  have h := and_two_pow_nat x 63 (by omega)
  rw [show (2 : Nat) ^ 63 = 9223372036854775808 from by decide] at h
  rw [show ((9223372036854775808 : Nat) : Int) = 9223372036854775808 from rfl, h] at e
  unfold negW
  rw [sgn64, e, Bool.eq_iff_iff]
  simp only [bne_iff_ne, ne_eq, decide_eq_true_eq]
  split <;> omega
theorem andNot_sign_64 (x : Int) (hx : 0 ≤ x ∧ x < 18446744073709551616) : bits .andNot .u64 x 9223372036854775808 = sizeW 64 x := by
  obtain ⟨x, rfl⟩ := Int.eq_ofNat_of_zero_le hx.1
  have e : bits .andNot .u64 (x : Int) ((9223372036854775808 : Nat) : Int) = _ := bits_andNot_u64_nat x _ (by omega) (by omega)
  have h := andNot_two_pow_nat x 63 (by omega) (by omega)
  rw [show (2 : Nat) ^ 63 = 9223372036854775808 from by decide] at h
  rw [show ((9223372036854775808 : Nat) : Int) = 9223372036854775808 from rfl, h] at e
  unfold sizeW
  rw [sgn64, e]
  split <;> omega
end Go.Proofs.YtbcbmkeeoognpaaGreatDoor


/- Shr by worth alone. -/
namespace Go.Proofs.YtbcbmkeeoognpaaGreatDoor
open Go.RowKit

theorem num_shr (ad : Option Addr) (n c : Nat) (V : Int) (r : Int) (w : World) (h : Num w ad n c V) (hn : n ≤ 70368744177663) (hr : -9223372036854775808 ≤ r ∧ r < 9223372036854775808) :
    Calls Tryz.prog 60 #[.slice ad n c, .int .i64 r] w (RetCBB (shrNum V r) (shrMore V r) (decide (0 ≤ r)) w) := by
  obtain ⟨xs, h1, h2, rfl⟩ := h.row
  exact (shr_calls ad n c xs r w (by omega) h.le h1 h2 hr).mono fun e w' q => q.can
end Go.Proofs.YtbcbmkeeoognpaaGreatDoor


/- The document's way to the nearest pattern: halving, and what stands behind 200 digits. Plain facts. -/
namespace Go.Proofs.YtbcbmkeeoognpaaGreatDoor

/-- Number: a size as m times 2 to the power of e. -/
def numM (F : Nat) (z : Nat) : Nat := if z < 2 ^ F then z else 2 ^ F + z % 2 ^ F
def numP (F : Nat) (z : Nat) : Nat := if z < 2 ^ F then 0 else z / 2 ^ F - 1
theorem numP_le {W : Nat} (hW : Wide W) (z : Nat) (h : z ≤ infN W) : numP (shF W) z + 2 ≤ 2 ^ shE W := by
  have hP := Nat.two_pow_pos (shF W)
  have h2 : 4 ≤ 2 ^ shE W := by rcases hW with rfl | rfl | rfl <;> decide
  unfold numP
  split
  · omega
  · have : z / 2 ^ shF W ≤ 2 ^ shE W - 1 := by
      unfold infN at h
      exact Nat.le_of_lt_succ ((Nat.div_lt_iff_lt_mul hP).2 (by rw [Nat.succ_mul]; omega))
    omega

theorem numM_lt (F z : Nat) : numM F z < 2 ^ (F + 1) := by
  have hP := Nat.two_pow_pos F
  have := Nat.mod_lt z hP
  unfold numM
  rw [Nat.pow_succ]
  split <;> omega

end Go.Proofs.YtbcbmkeeoognpaaGreatDoor


/- Printed by ieee.py. -/
namespace Go.Proofs.YtbcbmkeeoognpaaGreatDoor
open Go.RowKit

theorem of_16 (w : World) (hS : Shapes w) : Calls Tryz.prog 190 #[] w (fun e w' => e = .returned (.agg #[.int .i64 10, .int .i64 (-24), .int .i64 5]) ∧ Below w.heap.size w w') := by
  have b0 : Below w.heap.size w (w.alloc (.cells #[.int .i64 0, .int .i64 0, .int .i64 0] 228)) := (Below.refl _ _).alloc (Nat.le_refl _) _
  obtain ⟨c0, c1, c2, c3, c4, c5, c6, c7, c8⟩ := hS.below b0 (Nat.le_refl _)
  have x0 : bits BinOp.xor .u16 (if IntKind.u16.signed = true then -1 else IntKind.u16.max) 0 = 65535 := by decide
  have x1 : bits BinOp.xor .u16 IntKind.u16.max 0 = 65535 := by decide
  have x2 : IntKind.u64.wrap 65535 = 65535 := by decide
  clear b0
  go_enter Tryz.func190, Tryz.ntmps190
  go_wp2
  refine bodyPost_ret (results_cell_row rfl _ _ w.heap.size 228 #[.int .i64 10, .int .i64 (-24), .int .i64 5] (0, 0) _ rfl (heap_alloc_new _ _) Tryz.underlying228 rfl size_shape) rfl ?_
  exact ⟨rfl, (Below.refl _ _).alloc (Nat.le_refl _) _⟩
end Go.Proofs.YtbcbmkeeoognpaaGreatDoor


/- Printed by ieee.py. -/
namespace Go.Proofs.YtbcbmkeeoognpaaGreatDoor
open Go.RowKit

theorem shsign_16 (w : World) : Calls Tryz.prog 234 #[.agg #[.int .i64 10, .int .i64 (-24), .int .i64 5]] w (fun e w' => e = .returned (.int .u64 32768) ∧ Below w.heap.size w w') := by
  have b0 : Below w.heap.size w (w.alloc (.cells #[.int .i64 10, .int .i64 (-24), .int .i64 5] 228)) := (Below.refl _ _).alloc (Nat.le_refl _) _
  go_enter Tryz.func234, Tryz.ntmps234
  go_wp2
  go_ret
  exact ⟨rfl, b0⟩

theorem shinf_16 (w : World) : Calls Tryz.prog 192 #[.agg #[.int .i64 10, .int .i64 (-24), .int .i64 5]] w (fun e w' => e = .returned (.int .u64 31744) ∧ Below w.heap.size w w') := by
  have b0 : Below w.heap.size w (w.alloc (.cells #[.int .i64 10, .int .i64 (-24), .int .i64 5] 228)) := (Below.refl _ _).alloc (Nat.le_refl _) _
  go_enter Tryz.func192, Tryz.ntmps192
  go_wp2_with fail
  have c0 : (w.alloc (.cells #[.int .i64 10, .int .i64 (-24), .int .i64 5] 228)).cell? ⟨w.heap.size, 0, none⟩ = some (.int .i64 10) := World.cell?_alloc_at _ _ _ _ rfl
  have c1 : (w.alloc (.cells #[.int .i64 10, .int .i64 (-24), .int .i64 5] 228)).cell? ⟨w.heap.size, 1, none⟩ = some (.int .i64 (-24)) := World.cell?_alloc_at _ _ _ _ rfl
  have c2 : (w.alloc (.cells #[.int .i64 10, .int .i64 (-24), .int .i64 5] 228)).cell? ⟨w.heap.size, 2, none⟩ = some (.int .i64 5) := World.cell?_alloc_at _ _ _ _ rfl
  generalize w.alloc (.cells #[.int .i64 10, .int .i64 (-24), .int .i64 5] 228) = w1 at *
  have bd : Below w1.heap.size w1 w1.drew := below_drew (Below.refl _ _)
  go_region_held3 (fun w' => w'.cell? ⟨w.heap.size, 0, none⟩ = some (.int .i64 10) ∧ w'.cell? ⟨w.heap.size, 1, none⟩ = some (.int .i64 (-24)) ∧ w'.cell? ⟨w.heap.size, 2, none⟩ = some (.int .i64 5) ∧ Below w1.heap.size w1 w') (go_keep)
    (first
      | (go_at_call 234
         refine (shsign_16 _).mono ?_
         rintro e w2 ⟨rfl, hb⟩
         have d0 := below_cell hb (Nat.le_refl _) c0
         have d1 := below_cell hb (Nat.le_refl _) c1
         have d2 := below_cell hb (Nat.le_refl _) c2
         have bb : Below w1.heap.size w1 w2 := below_then bd (Nat.le_refl _) hb))
  go_wp2
  go_ret
  exact ⟨by first | rfl | simp, below_trans b0 (by assumption)⟩

theorem shsign_32 (w : World) : Calls Tryz.prog 234 #[.agg #[.int .i64 23, .int .i64 (-149), .int .i64 8]] w (fun e w' => e = .returned (.int .u64 2147483648) ∧ Below w.heap.size w w') := by
  have b0 : Below w.heap.size w (w.alloc (.cells #[.int .i64 23, .int .i64 (-149), .int .i64 8] 228)) := (Below.refl _ _).alloc (Nat.le_refl _) _
  go_enter Tryz.func234, Tryz.ntmps234
  go_wp2
  go_ret
  exact ⟨rfl, b0⟩

theorem shinf_32 (w : World) : Calls Tryz.prog 192 #[.agg #[.int .i64 23, .int .i64 (-149), .int .i64 8]] w (fun e w' => e = .returned (.int .u64 2139095040) ∧ Below w.heap.size w w') := by
  have b0 : Below w.heap.size w (w.alloc (.cells #[.int .i64 23, .int .i64 (-149), .int .i64 8] 228)) := (Below.refl _ _).alloc (Nat.le_refl _) _
  go_enter Tryz.func192, Tryz.ntmps192
  go_wp2_with fail
  have c0 : (w.alloc (.cells #[.int .i64 23, .int .i64 (-149), .int .i64 8] 228)).cell? ⟨w.heap.size, 0, none⟩ = some (.int .i64 23) := World.cell?_alloc_at _ _ _ _ rfl
  have c1 : (w.alloc (.cells #[.int .i64 23, .int .i64 (-149), .int .i64 8] 228)).cell? ⟨w.heap.size, 1, none⟩ = some (.int .i64 (-149)) := World.cell?_alloc_at _ _ _ _ rfl
  have c2 : (w.alloc (.cells #[.int .i64 23, .int .i64 (-149), .int .i64 8] 228)).cell? ⟨w.heap.size, 2, none⟩ = some (.int .i64 8) := World.cell?_alloc_at _ _ _ _ rfl
  generalize w.alloc (.cells #[.int .i64 23, .int .i64 (-149), .int .i64 8] 228) = w1 at *
  have bd : Below w1.heap.size w1 w1.drew := below_drew (Below.refl _ _)
  go_region_held3 (fun w' => w'.cell? ⟨w.heap.size, 0, none⟩ = some (.int .i64 23) ∧ w'.cell? ⟨w.heap.size, 1, none⟩ = some (.int .i64 (-149)) ∧ w'.cell? ⟨w.heap.size, 2, none⟩ = some (.int .i64 8) ∧ Below w1.heap.size w1 w') (go_keep)
    (first
      | (go_at_call 234
         refine (shsign_32 _).mono ?_
         rintro e w2 ⟨rfl, hb⟩
         have d0 := below_cell hb (Nat.le_refl _) c0
         have d1 := below_cell hb (Nat.le_refl _) c1
         have d2 := below_cell hb (Nat.le_refl _) c2
         have bb : Below w1.heap.size w1 w2 := below_then bd (Nat.le_refl _) hb))
  go_wp2
  go_ret
  exact ⟨by first | rfl | simp, below_trans b0 (by assumption)⟩

theorem shsign_64 (w : World) : Calls Tryz.prog 234 #[.agg #[.int .i64 52, .int .i64 (-1074), .int .i64 11]] w (fun e w' => e = .returned (.int .u64 9223372036854775808) ∧ Below w.heap.size w w') := by
  have b0 : Below w.heap.size w (w.alloc (.cells #[.int .i64 52, .int .i64 (-1074), .int .i64 11] 228)) := (Below.refl _ _).alloc (Nat.le_refl _) _
  go_enter Tryz.func234, Tryz.ntmps234
  go_wp2
  go_ret
  exact ⟨rfl, b0⟩

theorem shinf_64 (w : World) : Calls Tryz.prog 192 #[.agg #[.int .i64 52, .int .i64 (-1074), .int .i64 11]] w (fun e w' => e = .returned (.int .u64 9218868437227405312) ∧ Below w.heap.size w w') := by
  have b0 : Below w.heap.size w (w.alloc (.cells #[.int .i64 52, .int .i64 (-1074), .int .i64 11] 228)) := (Below.refl _ _).alloc (Nat.le_refl _) _
  go_enter Tryz.func192, Tryz.ntmps192
  go_wp2_with fail
  have c0 : (w.alloc (.cells #[.int .i64 52, .int .i64 (-1074), .int .i64 11] 228)).cell? ⟨w.heap.size, 0, none⟩ = some (.int .i64 52) := World.cell?_alloc_at _ _ _ _ rfl
  have c1 : (w.alloc (.cells #[.int .i64 52, .int .i64 (-1074), .int .i64 11] 228)).cell? ⟨w.heap.size, 1, none⟩ = some (.int .i64 (-1074)) := World.cell?_alloc_at _ _ _ _ rfl
  have c2 : (w.alloc (.cells #[.int .i64 52, .int .i64 (-1074), .int .i64 11] 228)).cell? ⟨w.heap.size, 2, none⟩ = some (.int .i64 11) := World.cell?_alloc_at _ _ _ _ rfl
  generalize w.alloc (.cells #[.int .i64 52, .int .i64 (-1074), .int .i64 11] 228) = w1 at *
  have bd : Below w1.heap.size w1 w1.drew := below_drew (Below.refl _ _)
  go_region_held3 (fun w' => w'.cell? ⟨w.heap.size, 0, none⟩ = some (.int .i64 52) ∧ w'.cell? ⟨w.heap.size, 1, none⟩ = some (.int .i64 (-1074)) ∧ w'.cell? ⟨w.heap.size, 2, none⟩ = some (.int .i64 11) ∧ Below w1.heap.size w1 w') (go_keep)
    (first
      | (go_at_call 234
         refine (shsign_64 _).mono ?_
         rintro e w2 ⟨rfl, hb⟩
         have d0 := below_cell hb (Nat.le_refl _) c0
         have d1 := below_cell hb (Nat.le_refl _) c1
         have d2 := below_cell hb (Nat.le_refl _) c2
         have bb : Below w1.heap.size w1 w2 := below_then bd (Nat.le_refl _) hb))
  go_wp2
  go_ret
  exact ⟨by first | rfl | simp, below_trans b0 (by assumption)⟩

end Go.Proofs.YtbcbmkeeoognpaaGreatDoor

