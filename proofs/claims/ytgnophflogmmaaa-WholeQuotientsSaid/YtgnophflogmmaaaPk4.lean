/- Contracts of functions, and plain facts, part 4. -/
import Derived.Deep.QuietTactic
import Derived.BigQuiet
import Derived.Test.YtgnophflogmmaaaPk2
import Derived.Test.YtgnophflogmmaaaPk3
set_option linter.unusedVariables false
set_option linter.unusedSimpArgs false
/- Numbers in memory, by their worth alone: for the walks of the laws of layer 1. -/
namespace Go.Proofs.Ytgnophflogmmaaa
open Go.RowKit

/-- A list of limbs, of worth V. -/
structure Num (w : World) (ad : Option Addr) (n c : Nat) (V : Int) : Prop where
  le : n ≤ c
  row : ∃ xs, Rds w .u32 ad n xs ∧ Dig 4294967296 xs ∧ val 4294967296 xs = V

/-- The list of the number V. -/
structure Can (w : World) (ad : Option Addr) (n c : Nat) (V : Int) : Prop where
  le : n ≤ c
  rds : Rds w .u32 ad n (dg 4294967296 V)

/-- What was handed in. -/
structure Arg (w : World) (ad : Option Addr) (n c : Nat) (xs : List Int) : Prop where
  le : n ≤ c
  rds : Rds w .u32 ad n xs
  dig : Dig 4294967296 xs

/-- A copy of it, a mark behind it. -/
structure Tw (w : World) (b n : Nat) (xs : List Int) : Prop where
  len : xs.length = n
  blk : Blk w b 78 .u32 (xs ++ [2148261425])
  dig : Dig 4294967296 xs

theorem Num.below {w w1 : World} {ad : Option Addr} {n c : Nat} {V : Int} (h : Num w ad n c V) {B : Nat} (hb : Below B w w1) (hB : w.heap.size ≤ B) : Num w1 ad n c V := by
  obtain ⟨xs, h1, h2, h3⟩ := h.row
  exact ⟨h.le, xs, h1.below hb hB, h2, h3⟩
theorem Can.below {w w1 : World} {ad : Option Addr} {n c : Nat} {V : Int} (h : Can w ad n c V) {B : Nat} (hb : Below B w w1) (hB : w.heap.size ≤ B) : Can w1 ad n c V := ⟨h.le, h.rds.below hb hB⟩
theorem Arg.below {w w1 : World} {ad : Option Addr} {n c : Nat} {xs : List Int} (h : Arg w ad n c xs) {B : Nat} (hb : Below B w w1) (hB : w.heap.size ≤ B) : Arg w1 ad n c xs := ⟨h.le, h.rds.below hb hB, h.dig⟩
theorem Tw.below {w w1 : World} {b n : Nat} {xs : List Int} (h : Tw w b n xs) {B : Nat} (hb : Below B w w1) (hB : w.heap.size ≤ B) : Tw w1 b n xs :=
  ⟨h.len, h.blk.below hb (Nat.lt_of_lt_of_le h.blk.lt hB), h.dig⟩
theorem Arg.num {w : World} {ad : Option Addr} {n c : Nat} {xs : List Int} (h : Arg w ad n c xs) : Num w ad n c (val 4294967296 xs) := ⟨h.le, xs, h.rds, h.dig, rfl⟩
theorem Tw.num {w : World} {b n : Nat} {xs : List Int} (h : Tw w b n xs) : Num w (some ⟨b, 0, none⟩) n (n + 1) (val 4294967296 xs) := ⟨by omega, xs, twin_rds h.blk h.len, h.dig, rfl⟩
theorem Can.num {w : World} {ad : Option Addr} {n c : Nat} {V : Int} (h : Can w ad n c V) (hV : 0 ≤ V) : Num w ad n c V := ⟨h.le, _, h.rds, dg_dig 4294967296 (by omega) _, val_dg 4294967296 (by omega) V hV⟩
theorem Arg.nonneg {w : World} {ad : Option Addr} {n c : Nat} {xs : List Int} (h : Arg w ad n c xs) : 0 ≤ val 4294967296 xs := val_nonneg (by omega) h.dig
theorem Arg.lt {w : World} {ad : Option Addr} {n c : Nat} {xs : List Int} (h : Arg w ad n c xs) : val 4294967296 xs < 4294967296 ^ n := by
  have := val_lt (by omega) h.dig
  rwa [h.rds.len] at this
theorem Can.len_le {w : World} {ad : Option Addr} {n c : Nat} {V : Int} (h : Can w ad n c V) (L : Nat) (hV : V < 4294967296 ^ L) : n ≤ L := by
  rw [← h.rds.len]
  exact dg_length_le 4294967296 (by omega) L V hV
theorem num_nil (w : World) : Num w none 0 0 0 := ⟨Nat.le_refl _, [], Rds.nil _ _ _, Dig.nil _, rfl⟩
theorem Can.zero {w : World} {ad : Option Addr} {n c : Nat} (h : Can w ad n c 0) : n = 0 := by
  have := h.rds.len
  rw [dg_zero] at this
  exact this.symm
theorem Can.zero_iff {w : World} {ad : Option Addr} {n c : Nat} {V : Int} (h : Can w ad n c V) (hV : 0 ≤ V) : n = 0 ↔ V = 0 := by
  have h1 := h.rds.len
  have h2 := dg_nil 4294967296 V (by omega) hV
  constructor
  · intro e
    exact h2.1 (List.eq_nil_of_length_eq_zero (by omega))
  · intro e
    rw [h2.2 e] at h1
    exact h1.symm

theorem pow_add_lt (a b : Int) (n m : Nat) (ha : a < 4294967296 ^ n) (hb : b < 4294967296 ^ m) : a + b < 4294967296 ^ (n + m + 1) := by
  have h1 := pow_le (b := 4294967296) (by omega) (show n ≤ n + m by omega)
  have h2 := pow_le (b := 4294967296) (by omega) (show m ≤ n + m by omega)
  have h3 : (0 : Int) < 4294967296 ^ (n + m) := Int.pow_pos (by omega)
  rw [Int.pow_succ]
  omega

theorem pow_mul_lt (a b : Int) (n m : Nat) (ha0 : 0 ≤ a) (hb0 : 0 ≤ b) (ha : a < 4294967296 ^ n) (hb : b < 4294967296 ^ m) : a * b < 4294967296 ^ (n + m) := by
  rw [Int.pow_add]
  exact Int.lt_of_le_of_lt (Int.mul_le_mul_of_nonneg_left (Int.le_of_lt hb) ha0) (Int.mul_lt_mul_of_pos_right ha (Int.pow_pos (by omega)))

/-- A number's list is told. -/
def RetC (V : Int) (w : World) (e : Ending) (w' : World) : Prop :=
  ∃ ad n c, e = .returned (.slice ad n c) ∧ Can w' ad n c V ∧ Below w.heap.size w w'
def RetCB (V : Int) (ok : Bool) (w : World) (e : Ending) (w' : World) : Prop :=
  ∃ ad n c, e = .returned (.tuple #[.slice ad n c, .bool ok]) ∧ Can w' ad n c V ∧ Below w.heap.size w w'
def RetCNB (V : Int) (r : Int) (ok : Bool) (w : World) (e : Ending) (w' : World) : Prop :=
  ∃ ad n c, e = .returned (.tuple #[.slice ad n c, .int .u32 r, .bool ok]) ∧ Can w' ad n c V ∧ Below w.heap.size w w'
def RetCBB (V : Int) (b1 b2 : Bool) (w : World) (e : Ending) (w' : World) : Prop :=
  ∃ ad n c, e = .returned (.tuple #[.slice ad n c, .bool b1, .bool b2]) ∧ Can w' ad n c V ∧ Below w.heap.size w w'

theorem RetL.can {V : Int} {w : World} {e : Ending} {w' : World} (h : RetL 78 .u32 (dg 4294967296 V) w e w') : RetC V w e w' := by
  obtain ⟨ad, n, c, rfl, h1, h2⟩ := h
  exact ⟨ad, n, c, rfl, ⟨h1.le, h1.rds⟩, h2⟩
theorem RetLB.can {V : Int} {ok : Bool} {w : World} {e : Ending} {w' : World} (h : RetLB 78 .u32 (dg 4294967296 V) ok w e w') : RetCB V ok w e w' := by
  obtain ⟨ad, n, c, rfl, h1, h2⟩ := h
  exact ⟨ad, n, c, rfl, ⟨h1.le, h1.rds⟩, h2⟩
theorem RetLNB.can {V r : Int} {ok : Bool} {w : World} {e : Ending} {w' : World} (h : RetLNB 78 .u32 .u32 (dg 4294967296 V) r ok w e w') : RetCNB V r ok w e w' := by
  obtain ⟨ad, n, c, rfl, h1, h2⟩ := h
  exact ⟨ad, n, c, rfl, ⟨h1.le, h1.rds⟩, h2⟩
theorem RetLBB.can {V : Int} {b1 b2 : Bool} {w : World} {e : Ending} {w' : World} (h : RetLBB 78 .u32 (dg 4294967296 V) b1 b2 w e w') : RetCBB V b1 b2 w e w' := by
  obtain ⟨ad, n, c, rfl, h1, h2⟩ := h
  exact ⟨ad, n, c, rfl, ⟨h1.le, h1.rds⟩, h2⟩

/-- TwinNat, LeftNat, SameNat by worth. -/
theorem num_twin (ad : Option Addr) (n c : Nat) (xs : List Int) (w : World) (h : Arg w ad n c xs) (hn : n ≤ 70368744177663) :
    Calls Try.prog 49 #[.slice ad n c] w (fun e w' => ∃ b, e = .returned (.slice (some ⟨b, 0, none⟩) n (n + 1)) ∧ Tw w' b n xs ∧ Below w.heap.size w w') := by
  refine (twin_calls ad n c xs w hn h.rds).mono ?_
  rintro e w' ⟨rfl, h1, h2⟩
  exact ⟨_, by rw [h.rds.len], ⟨h.rds.len, h1, h.dig⟩, h2⟩

theorem num_same (ad bd : Option Addr) (n m c d : Nat) (V U : Int) (w : World) (ha : Can w ad n c V) (hb : Can w bd m d U) (hV : 0 ≤ V) (hU : 0 ≤ U) (hn : n ≤ 1000000000000) (hm : m ≤ 1000000000000) :
    Calls Try.prog 55 #[.slice ad n c, .slice bd m d] w (Same (decide (V = U)) w) := by
  have h := same_calls ad bd n m c d _ _ w (by omega) (by omega) ha.rds hb.rds
  have e : (dg 4294967296 V = dg 4294967296 U) ↔ V = U := by
    constructor
    · intro e
      rw [← val_dg 4294967296 (by omega) V hV, e, val_dg 4294967296 (by omega) U hU]
    · intro e; rw [e]
  simpa only [e] using h

theorem num_same_true (ad bd : Option Addr) (n m c d : Nat) (V U : Int) (w : World) (ha : Can w ad n c V) (hb : Can w bd m d U) (h : V = U) (hn : n ≤ 1000000000000) (hm : m ≤ 1000000000000) :
    Calls Try.prog 55 #[.slice ad n c, .slice bd m d] w (Same true w) := by
  have h1 := same_calls ad bd n m c d _ _ w (by omega) (by omega) ha.rds hb.rds
  rwa [h, decide_eq_true rfl] at h1
end Go.Proofs.Ytgnophflogmmaaa

/- Sums, differences and short division, place by place: plain facts on lists. -/
namespace Go.Proofs.Ytgnophflogmmaaa

theorem val_set_take (B : Int) (ys : List Int) (i : Nat) (v : Int) (h : i < ys.length) : val B ((ys.set i v).take (i + 1)) = val B (ys.take i) + B ^ i * v := by
  rw [take_set_succ ys i v h, val_append]
  simp [val, List.length_take, Nat.min_eq_left (Nat.le_of_lt h)]

theorem add_step (B : Int) (xs zs ys : List Int) (i : Nat) (hi : i < ys.length) (c T : Int) (hT : T = xs[i]?.getD 0 + zs[i]?.getD 0 + c)
    (E : val B (ys.take i) + c * B ^ i = val B (xs.take i) + val B (zs.take i)) :
    val B ((ys.set i (T % B)).take (i + 1)) + (T / B) * B ^ (i + 1) = val B (xs.take (i + 1)) + val B (zs.take (i + 1)) := by
  rw [val_set_take B ys i _ hi, val_take_succ', val_take_succ', Int.pow_succ]
  have h := Int.emod_add_mul_ediv T B
  generalize xs[i]?.getD 0 = x at *
  generalize zs[i]?.getD 0 = z at *
  generalize T / B = q at *
  generalize T % B = r at *
  generalize B ^ i = P at *
  generalize val B (ys.take i) = Y at *
  generalize val B (xs.take i) = X at *
  generalize val B (zs.take i) = Z at *
  have e : r = x + z + c - B * q := by omega
  subst e
  grind

theorem add_end (B : Int) (xs zs ys : List Int) (n : Nat) (hx : xs.length = n) (hz : zs.length ≤ n) (hy : ys.length = n + 1) (c : Int)
    (E : val B (ys.take n) + c * B ^ n = val B (xs.take n) + val B (zs.take n)) : val B (ys.set n c) = val B xs + val B zs := by
  have h := val_set_take B ys n c (by omega)
  rw [List.take_of_length_le (by rw [List.length_set]; omega)] at h
  rw [List.take_of_length_le (show xs.length ≤ n by omega), List.take_of_length_le hz] at E
  rw [h, ← E, Int.mul_comm]

theorem sub_step (B : Int) (xs zs ys : List Int) (i : Nat) (hi : i < ys.length) (c D c' : Int) (hD : D = xs[i]?.getD 0 - zs[i]?.getD 0 - c + c' * B)
    (E : val B (ys.take i) + val B (zs.take i) = val B (xs.take i) + c * B ^ i) :
    val B ((ys.set i D).take (i + 1)) + val B (zs.take (i + 1)) = val B (xs.take (i + 1)) + c' * B ^ (i + 1) := by
  rw [val_set_take B ys i _ hi, val_take_succ', val_take_succ', Int.pow_succ]
  generalize xs[i]?.getD 0 = x at *
  generalize zs[i]?.getD 0 = z at *
  generalize B ^ i = P at *
  generalize val B (ys.take i) = Y at *
  generalize val B (xs.take i) = X at *
  generalize val B (zs.take i) = Z at *
  subst hD
  grind

theorem sub_end (B : Int) (hB : 0 < B) (xs zs ys : List Int) (n : Nat) (dy : Dig B ys) (hx : xs.length = n) (hz : zs.length ≤ n) (hy : ys.length = n) (c : Int) (hc : 0 ≤ c)
    (hle : val B zs ≤ val B xs) (E : val B (ys.take n) + val B (zs.take n) = val B (xs.take n) + c * B ^ n) : val B ys = val B xs - val B zs := by
  rw [List.take_of_length_le (by omega), List.take_of_length_le (by omega), List.take_of_length_le (by omega)] at E
  have h := val_lt hB dy
  rw [hy] at h
  have hp : 0 < B ^ n := Int.pow_pos hB
  rcases Int.lt_or_eq_of_le hc with h1 | h1
  · have : 1 * B ^ n ≤ c * B ^ n := Int.mul_le_mul_of_nonneg_right (by omega) (Int.le_of_lt hp)
    omega
  · rw [← h1, Int.zero_mul] at E
    omega

theorem small_step (B : Int) (xs ys : List Int) (j : Nat) (hx : j < xs.length) (hy : j < ys.length) (d r T q r' : Int) (hT : T = r * B + xs[j]?.getD 0) (hq : T = d * q + r')
    (E : val B (xs.drop (j + 1)) = val B (ys.drop (j + 1)) * d + r) :
    val B (xs.drop j) = val B ((ys.set j q).drop j) * d + r' := by
  rw [val_drop B xs j hx, val_drop B (ys.set j q) j (by rw [List.length_set]; exact hy), List.getElem?_set_self hy, List.drop_set_of_lt (by omega), E]
  simp only [Option.getD_some]
  generalize xs[j]?.getD 0 = x at *
  generalize val B (ys.drop (j + 1)) = Y at *
  have : x = d * q + r' - r * B := by omega
  subst this
  grind
end Go.Proofs.Ytgnophflogmmaaa

/- math/bits.LeadingZeros32. -/
namespace Go.Proofs.Ytgnophflogmmaaa
open Go.RowKit
theorem lz32_calls (x : Int) (w : World) (h0 : 0 ≤ x) (h1 : x ≤ 4294967295) :
    Calls Try.prog 100 #[.int .u32 x] w fun e w' => e = .returned (.int .i64 (32 - Lib.bitLen x.toNat)) ∧ w = w' := by
  have H := Lib.hid (len32_calls x w h0 h1)
  have hb := Lib.bitLen_le x.toNat 32 (by omega) (by omega)
  generalize Lib.bitLen x.toNat = l at *
  go_enter Try.func100, Try.ntmps100
  go_wp2_with fail
  refine (H.out).mono ?_
  rintro e w' ⟨rfl, rfl⟩
  go_wp2
  go_ret
  exact ⟨rfl, rfl⟩

/-- The highest limb moved up until its highest bit is set. -/
theorem lz32_top (x : Int) (h0 : 0 < x) (h1 : x < 4294967296) : ∃ r : Nat, r < 32 ∧ (32 : Int) - Lib.bitLen x.toNat = r ∧ 2147483648 ≤ x * 2 ^ r ∧ (x + 1) * 2 ^ r ≤ 4294967296 ∧ (2 : Int) ^ r ≤ 2147483648 := by
  obtain ⟨x, rfl⟩ := Int.eq_ofNat_of_zero_le (Int.le_of_lt h0)
  have e := bitLen_blen x (by omega)
  have p0 := blen_pos x (by omega)
  have p1 := blen_lt x
  have p2 := blen_ge x (by omega)
  have p3 := Lib.bitLen_le x 32 (by omega) (by omega)
  rw [show ((x : Int)).toNat = x by simp, e]
  rw [e] at p3
  generalize blen x = l at *
  refine ⟨32 - l, by omega, by omega, ?_, ?_, ?_⟩
  · have k : 2 ^ (l - 1) * 2 ^ (32 - l) = 2147483648 := by rw [← Nat.pow_add, show l - 1 + (32 - l) = 31 by omega]
    have := Nat.mul_le_mul_right (2 ^ (32 - l)) p2
    rw [k] at this
    have c : (x : Int) * 2 ^ (32 - l) = ((x * 2 ^ (32 - l) : Nat) : Int) := by simp
    rw [c]; omega
  · have k : 2 ^ l * 2 ^ (32 - l) = 4294967296 := by rw [← Nat.pow_add, show l + (32 - l) = 32 by omega]
    have := Nat.mul_le_mul_right (2 ^ (32 - l)) (show x + 1 ≤ 2 ^ l by omega)
    rw [k] at this
    have c : ((x : Int) + 1) * 2 ^ (32 - l) = (((x + 1) * 2 ^ (32 - l) : Nat) : Int) := by simp
    rw [c]; omega
  · have : ∀ l : Nat, l < 33 → 0 < l → 2 ^ (32 - l) ≤ 2147483648 := by decide
    have h := this l (by omega) p0
    have c : ((2 : Int) ^ (32 - l)) = ((2 ^ (32 - l) : Nat) : Int) := by simp
    rw [c]; omega
end Go.Proofs.Ytgnophflogmmaaa

/- Shifts of lists of digits, place by place: plain facts. -/
namespace Go.Proofs.Ytgnophflogmmaaa

/-- Is there a number 2^n times V, as Shl counts? -/
def shlOk (V n : Int) : Bool := decide (0 ≤ n ∧ (V = 0 ∨ n ≤ 8388608 - (blen V.toNat : Nat)))
def shlNum (V n : Int) : Int := if shlOk V n then V * 2 ^ n.toNat else 0
/-- What Shr answers. -/
def shrNum (V n : Int) : Int := if 0 ≤ n then V / 2 ^ n.toNat else 0
def shrMore (V n : Int) : Bool := decide (0 ≤ n) && decide (V % 2 ^ n.toNat ≠ 0)

/-- What comes up from the place below. -/
def carryUp (b R : Int) (zs : List Int) (j : Nat) : Int := if j = 0 then 0 else zs[j - 1]?.getD 0 * R / b

theorem shl_step (b R : Int) (hb : 0 < b) (zs ys : List Int) (j : Nat) (hz : j < zs.length) (hy : j < ys.length)
    (E : val b (ys.drop (j + 1)) = R * val b (zs.drop (j + 1)) + carryUp b R zs (j + 1)) :
    val b ((ys.set j (zs[j]?.getD 0 * R % b + carryUp b R zs j)).drop j) = R * val b (zs.drop j) + carryUp b R zs j := by
  rw [val_drop b zs j hz, val_drop b (ys.set j _) j (by rw [List.length_set]; exact hy), List.getElem?_set_self hy, List.drop_set_of_lt (by omega), E]
  have e : carryUp b R zs (j + 1) = zs[j]?.getD 0 * R / b := by unfold carryUp; rw [if_neg (by omega)]; rfl
  rw [e]
  simp only [Option.getD_some]
  have h := Int.emod_add_mul_ediv (zs[j]?.getD 0 * R) b
  generalize zs[j]?.getD 0 * R / b = q at *
  generalize zs[j]?.getD 0 * R % b = r at *
  generalize hx : zs[j]?.getD 0 = x at *
  generalize val b (zs.drop (j + 1)) = Z at *
  generalize carryUp b R zs j = c at *
  have : r = x * R - b * q := by omega
  subst this
  grind

theorem shr_step (b R Q : Int) (hR : 0 < R) (hb : b = R * Q) (zs ys : List Int) (i : Nat) (hy : i < ys.length) (c0 : Int)
    (E : val b (ys.take i) * R + c0 = val b (zs.take i) + b ^ i * (zs[i]?.getD 0 % R)) :
    val b ((ys.set i (zs[i]?.getD 0 / R + zs[i + 1]?.getD 0 % R * Q)).take (i + 1)) * R + c0 = val b (zs.take (i + 1)) + b ^ (i + 1) * (zs[i + 1]?.getD 0 % R) := by
  rw [take_set_succ ys i _ hy, val_append, val_take_succ', Int.pow_succ, List.length_take, Nat.min_eq_left (by omega)]
  simp only [val, Int.mul_zero, Int.add_zero]
  have h := Int.emod_add_mul_ediv (zs[i]?.getD 0) R
  generalize zs[i]?.getD 0 = x at *
  generalize zs[i + 1]?.getD 0 % R = t at *
  generalize x / R = q at *
  generalize x % R = r at *
  generalize hP : b ^ i = P at *
  generalize val b (ys.take i) = Y at *
  generalize val b (zs.take i) = Z at *
  subst hb
  subst h
  grind
theorem split_div (lo P Z R : Int) (h0 : 0 ≤ lo) (h1 : lo < P) (hR : 0 < R) : (lo + P * Z) / (P * R) = Z / R ∧ (lo + P * Z) % (P * R) = lo + P * (Z % R) := by
  have hP : 0 < P := by omega
  have e : lo + P * Z = (lo + P * (Z % R)) + P * R * (Z / R) := by
    have := Int.emod_add_mul_ediv Z R
    generalize Z / R = q at *
    generalize Z % R = r at *
    subst this
    grind
  have b0 : 0 ≤ Z % R := Int.emod_nonneg _ (by omega)
  have b1 : Z % R + 1 ≤ R := Int.emod_lt_of_pos _ hR
  have c0 : 0 ≤ P * (Z % R) := Int.mul_nonneg (by omega) b0
  have c1 : P * (Z % R + 1) ≤ P * R := Int.mul_le_mul_of_nonneg_left b1 (by omega)
  rw [Int.mul_add] at c1
  have hPR : 0 < P * R := Int.mul_pos hP hR
  rw [e]
  constructor
  · rw [Int.add_mul_ediv_left _ _ (by omega), Int.ediv_eq_zero_of_lt (by omega) (by omega), Int.zero_add]
  · rw [Int.add_mul_emod_self_left, Int.emod_eq_of_lt (by omega) (by omega)]

theorem ne_parts (lo P t : Int) (h0 : 0 ≤ lo) (hP : 0 < P) (ht : 0 ≤ t) : decide (lo + P * t ≠ 0) = (decide (lo ≠ 0) || decide (t ≠ 0)) := by
  rw [Bool.eq_iff_iff]
  simp only [decide_eq_true_eq, Bool.or_eq_true]
  constructor
  · intro h
    by_cases hl : lo = 0
    · refine .inr fun ht => h ?_
      rw [hl, ht]
      simp
    · exact .inl hl
  · rintro (h | h)
    · have := Int.mul_nonneg (Int.le_of_lt hP) ht
      omega
    · have := Int.mul_pos hP (show 0 < t by omega)
      omega

theorem shr_snoc (b R Q : Int) (hR : 0 < R) (hb : b = R * Q) (zs ys : List Int) (i : Nat) (hy : ys.length = i) (c0 : Int)
    (E : val b ys * R + c0 = val b (zs.take i) + b ^ i * (zs[i]?.getD 0 % R)) :
    val b (ys ++ [zs[i]?.getD 0 / R + zs[i + 1]?.getD 0 % R * Q]) * R + c0 = val b (zs.take (i + 1)) + b ^ (i + 1) * (zs[i + 1]?.getD 0 % R) := by
  rw [val_append, val_take_succ', Int.pow_succ, hy]
  simp only [val, Int.mul_zero, Int.add_zero]
  have h := Int.emod_add_mul_ediv (zs[i]?.getD 0) R
  generalize zs[i]?.getD 0 = x at *
  generalize zs[i + 1]?.getD 0 % R = t at *
  generalize x / R = q at *
  generalize x % R = r at *
  generalize hP : b ^ i = P at *
  generalize val b ys = Y at *
  generalize val b (zs.take i) = Z at *
  subst hb
  subst h
  grind

/-- (x + b y) / R, cut to a digit. -/
theorem down_digit (b R Q x y : Int) (hR : 0 < R) (hQ : 0 < Q) (hb : b = R * Q) (hx : 0 ≤ x ∧ x < b) : (x + b * y) / R % b = x / R + y % R * Q := by
  have e : x + b * y = x + R * (Q * y) := by rw [hb, Int.mul_assoc]
  rw [e, Int.add_mul_ediv_left _ _ (by omega)]
  have h1 := Int.emod_add_mul_ediv y R
  have e2 : x / R + Q * y = (x / R + y % R * Q) + b * (y / R) := by
    generalize y / R = q at *
    generalize y % R = t at *
    subst h1 hb
    grind
  have k0 : 0 ≤ x / R := Int.ediv_nonneg hx.1 (by omega)
  have k1 : x / R + 1 ≤ Q := Int.ediv_lt_of_lt_mul hR (by rw [Int.mul_comm, ← hb]; exact hx.2)
  have t0 : 0 ≤ y % R := Int.emod_nonneg _ (by omega)
  have t1 : y % R + 1 ≤ R := Int.emod_lt_of_pos _ hR
  have t2 := Int.mul_nonneg t0 (Int.le_of_lt hQ)
  have t3 := Int.mul_le_mul_of_nonneg_right t1 (Int.le_of_lt hQ)
  rw [← hb, Int.add_mul] at t3
  rw [e2, Int.add_mul_emod_self_left, Int.emod_eq_of_lt (by omega) (by omega)]
end Go.Proofs.Ytgnophflogmmaaa

/- nat.Cmp: -1, 0 or 1. -/
namespace Go.Proofs.Ytgnophflogmmaaa
open Go.RowKit

theorem cmpI_of_lists (xs zs : List Int) (dx : Dig 4294967296 xs) (dz : Dig 4294967296 zs) (nx : norm xs = xs) (nz : norm zs = zs) (h : xs.length ≠ zs.length) :
    cmpI xs.length zs.length = cmpI (val 4294967296 xs) (val 4294967296 zs) := by
  rcases Nat.lt_or_ge xs.length zs.length with h1 | h1
  · rw [cmpI_lt (by omega), cmpI_lt (lt_of_len (by omega) dx dz nz h1)]
  · rw [cmpI_gt (by omega), cmpI_gt (lt_of_len (by omega) dz dx nx (by omega))]

set_option maxHeartbeats 400000 in
theorem ncmp_calls (ad bd : Option Addr) (na nb ca cb : Nat) (la lb : List Int) (w : World) (hna : na ≤ 70368744177664) (hnb : nb ≤ 70368744177664) (hac : na ≤ ca) (hbc : nb ≤ cb)
    (ha : Rds w .u32 ad na la) (hb : Rds w .u32 bd nb lb) (da : Dig 4294967296 la) (db : Dig 4294967296 lb) :
    Calls Try.prog 73 #[.slice ad na ca, .slice bd nb cb] w (RetI (cmpI (val 4294967296 la) (val 4294967296 lb)) w) := by
  have rx := ha.norm
  have rz := hb.norm
  have dx := norm_dig da
  have dz := norm_dig db
  have hma := norm_length_le la
  have hnb' := norm_length_le lb
  rw [ha.len] at hma
  rw [hb.len] at hnb'
  have C1 := Lib.hid (cut_calls ad na ca la w (by omega) hac ha)
  have C2 := Lib.hid (cut_calls bd nb cb lb w (by omega) hbc hb)
  have N1 := Lib.hid (norm_norm la)
  have N2 := Lib.hid (norm_norm lb)
  rw [← val_norm 4294967296 la, ← val_norm 4294967296 lb]
  clear ha hb da db
  generalize norm la = xs at *
  generalize norm lb = zs at *
  obtain ⟨m, hm⟩ : ∃ m, xs.length = m := ⟨_, rfl⟩
  obtain ⟨n, hn⟩ : ∃ n, zs.length = n := ⟨_, rfl⟩
  rw [hm] at rx hma C1
  rw [hn] at rz hnb' C2
  have HM := Lib.hid hm
  have HN := Lib.hid hn
  clear hm hn
  by_cases hmn : m = n
  · subst hmn
    go_enter Try.func73, Try.ntmps73
    go_wp2_with fail
    refine (C1.out).mono ?_
    rintro e w' ⟨rfl, rfl⟩
    go_wp2_with fail
    refine (C2.out).mono ?_
    rintro e w' ⟨rfl, rfl⟩
    go_wp2_with fail
    go_loopw [23] (fun i wr => ∃ k : Nat, k ≤ m ∧ i = .int .i64 k ∧ Hid (val 4294967296 (xs.drop (m - k)) = val 4294967296 (zs.drop (m - k))) ∧ Hid (∃ q, wr = w.drewN q)) (fun i _ => m - (intOf i).toNat)
    case atStart => exact ⟨0, Nat.zero_le _, rfl, by rw [Nat.sub_zero, List.drop_of_length_le (by rw [HM.out]; exact Nat.le_refl _), List.drop_of_length_le (by rw [HN.out]; exact Nat.le_refl _)]; rfl, ⟨0, rfl⟩⟩
    case round =>
      obtain ⟨k, hk, rfl, hv, hq⟩ := hrel
      have rx' : Rds wr .u32 ad m xs := by obtain ⟨q, rfl⟩ := hq.out; exact rx.drewN q
      have rz' : Rds wr .u32 bd m zs := by obtain ⟨q, rfl⟩ := hq.out; exact rz.drewN q
      by_cases hkm : k < m
      · obtain ⟨a, rfl, hxl⟩ := rx'.cell (m - 1 - k) (by omega)
        obtain ⟨b, rfl, hzl⟩ := rz'.cell (m - 1 - k) (by omega)
        have L1 := Lib.hid (fun h : xs[m - 1 - k]?.getD 0 < zs[m - 1 - k]?.getD 0 => lt_at (b := 4294967296) (by omega) dx dz (m - 1 - k) (by rw [HM.out]; omega) (by rw [HN.out]; omega) (by rw [show m - 1 - k + 1 = m - k by omega]; exact hv.out) h)
        have L2 := Lib.hid (fun h : zs[m - 1 - k]?.getD 0 < xs[m - 1 - k]?.getD 0 => lt_at (b := 4294967296) (by omega) dz dx (m - 1 - k) (by rw [HN.out]; omega) (by rw [HM.out]; omega) (by rw [show m - 1 - k + 1 = m - k by omega]; exact hv.out.symm) h)
        have E := Lib.hid (fun h : xs[m - 1 - k]?.getD 0 = zs[m - 1 - k]?.getD 0 => show val 4294967296 (xs.drop (m - (k + 1))) = val 4294967296 (zs.drop (m - (k + 1))) by
          rw [show m - (k + 1) = m - 1 - k by omega, val_drop _ xs _ (by rw [HM.out]; omega), val_drop _ zs _ (by rw [HN.out]; omega), h, show m - 1 - k + 1 = m - k by omega, hv.out])
        clear hv rx rz rx' rz'
        have hi0 : (0 : Int) ≤ (m : Int) - 1 - k := by omega
        have hi1 : (m : Int) - 1 - k < m := by omega
        have hi2 : ((m : Int) - 1 - k).toNat = m - 1 - k := by omega
        generalize hgx : xs[m - 1 - k]?.getD 0 = x at *
        generalize hgz : zs[m - 1 - k]?.getD 0 = z at *
        clear hgx hgz
        rcases Int.lt_trichotomy x z with hxz | hxz | hxz
        · have HR := Lib.hid (cmpI_lt (L1.out hxz))
          have HC := Lib.hid (cmpI_lt hxz)
          have ht : (x != z) = true := by simp; omega
          go_wp2_with fail
          go_quiet (fail)
          have hxl2 : (wr.drewN nq).cell? (a.add (m - 1 - k)) = some (.int .u32 x) := hxl
          have hzl2 : (wr.drewN nq).cell? (b.add (m - 1 - k)) = some (.int .u32 z) := hzl
          have hq2 := Lib.hid (show ∃ q, wr.drewN nq = w.drewN q by obtain ⟨q, rfl⟩ := hq.out; exact ⟨_, World.drewN_drewN ..⟩)
          generalize wr.drewN nq = w2 at *
          go_wp2_with fail
          go_quiet ((go_at_call 95; exact quiet_left (compare_u32 x z _)))
          go_wp2
          go_ret
          rw [HR.out]
          obtain ⟨q, rfl⟩ := hq2.out
          exact ⟨by rw [← HC.out]; rfl, _, World.drewN_drewN ..⟩
        · subst hxz
          have ht : (x != x) = false := by simp
          go_wp2_with fail
          go_quiet (fail)
          go_wp2
          go_roundw
          case rel => exact ⟨k + 1, by omega, by go_num, E.out trivial, by obtain ⟨q, rfl⟩ := hq.out; exact ⟨_, World.drewN_drewN ..⟩⟩
          case measure => simp [intOf]; omega
        · have HR := Lib.hid (cmpI_gt (L2.out hxz))
          have HC := Lib.hid (cmpI_gt hxz)
          have ht : (x != z) = true := by simp; omega
          go_wp2_with fail
          go_quiet (fail)
          have hxl2 : (wr.drewN nq).cell? (a.add (m - 1 - k)) = some (.int .u32 x) := hxl
          have hzl2 : (wr.drewN nq).cell? (b.add (m - 1 - k)) = some (.int .u32 z) := hzl
          have hq2 := Lib.hid (show ∃ q, wr.drewN nq = w.drewN q by obtain ⟨q, rfl⟩ := hq.out; exact ⟨_, World.drewN_drewN ..⟩)
          generalize wr.drewN nq = w2 at *
          go_wp2_with fail
          go_quiet ((go_at_call 95; exact quiet_left (compare_u32 x z _)))
          go_wp2
          go_ret
          rw [HR.out]
          obtain ⟨q, rfl⟩ := hq2.out
          exact ⟨by rw [← HC.out]; rfl, _, World.drewN_drewN ..⟩
      · obtain rfl : k = m := by omega
        have HR := Lib.hid (cmpI_eq (show val 4294967296 xs = val 4294967296 zs by have := hv.out; simpa using this))
        go_wp2
        go_ret
        rw [HR.out]
        exact ⟨rfl, hq.out⟩
  · have HR := Lib.hid (cmpI_of_lists xs zs dx dz N1.out N2.out (by rw [HM.out, HN.out]; exact hmn))
    rw [HM.out, HN.out] at HR
    have ht : ((m : Int) != (n : Int)) = true := by simp; omega
    go_enter Try.func73, Try.ntmps73
    go_wp2_with fail
    refine (C1.out).mono ?_
    rintro e w' ⟨rfl, rfl⟩
    go_wp2_with fail
    refine (C2.out).mono ?_
    rintro e w' ⟨rfl, rfl⟩
    go_wp2_with fail
    refine (compare_int m n w).mono ?_
    rintro e w' ⟨rfl, rfl⟩
    go_wp2
    go_ret
    rw [← HR.out]
    exact ⟨rfl, 0, rfl⟩
end Go.Proofs.Ytgnophflogmmaaa

/- nat.Len: how many bits it has. -/
namespace Go.Proofs.Ytgnophflogmmaaa
open Go.RowKit

/-- How many bits a whole number not below 0 has, as an int. -/
def bitsOf (V : Int) : Int := blen V.toNat

theorem nlen_calls (ad : Option Addr) (n c : Nat) (la : List Int) (w : World) (hn : n ≤ 70368744177664) (hnc : n ≤ c) (hr : Rds w .u32 ad n la) (da : Dig 4294967296 la) :
    Calls Try.prog 61 #[.slice ad n c] w fun e w' => e = .returned (.int .i64 (bitsOf (val 4294967296 la))) ∧ w = w' := by
  have hc := Lib.hid (cut_calls ad n c la w (by omega) hnc hr)
  have rx := hr.norm
  have dx := norm_dig da
  have hN := norm_norm la
  have hma := norm_length_le la
  rw [hr.len] at hma
  rw [← val_norm 4294967296 la]
  clear hr da
  generalize norm la = xs at *
  obtain ⟨m, hm⟩ : ∃ m, xs.length = m := ⟨_, rfl⟩
  rw [hm] at hc rx hma
  by_cases h0 : m = 0
  · subst h0
    have HB := Lib.hid (show bitsOf (val 4294967296 xs) = 0 by rw [List.eq_nil_of_length_eq_zero hm]; rfl)
    clear hN hm
    go_enter Try.func61, Try.ntmps61
    go_wp2_with fail
    refine (hc.out).mono ?_
    rintro e w' ⟨rfl, rfl⟩
    go_wp2
    go_ret
    rw [HB.out]
    exact ⟨rfl, rfl⟩
  · obtain ⟨t, rfl⟩ : ∃ t, m = t + 1 := ⟨m - 1, by omega⟩
    have bx := dx.get (by omega) t
    have hl := len32_calls (xs[t]?.getD 0) w bx.1 (by omega)
    have hB := bitLen_blen (xs[t]?.getD 0).toNat (by omega)
    have hb2 := Lib.bitLen_le (xs[t]?.getD 0).toNat 32 (by omega) (by omega)
    have HB := Lib.hid (show bitsOf (val 4294967296 xs) = 32 * (t : Int) + (Lib.bitLen (xs[t]?.getD 0).toNat : Nat) by
      unfold bitsOf
      rw [blen_list 32 4294967296 (by decide) xs dx hN t hm, hB]
      simp)
    have hl' := Lib.hid hl
    clear hN hm hl hB h0
    obtain ⟨a, rfl, hxl⟩ := rx.cell t (by omega)
    generalize xs[t]?.getD 0 = x at *
    generalize Lib.bitLen x.toNat = q at *
    have hmm : ((((t + 1 : Nat) : Int)) == 0) = false := by simp; omega
    go_enter Try.func61, Try.ntmps61
    go_wp2_with fail
    refine (hc.out).mono ?_
    rintro e w' ⟨rfl, rfl⟩
    go_wp2_with fail
    refine (hl'.out).mono ?_
    rintro e w' ⟨rfl, rfl⟩
    go_wp2
    go_ret
    rw [HB.out]
    exact ⟨rfl, rfl⟩
end Go.Proofs.Ytgnophflogmmaaa

/- nat.Uint: the number, if it is below 2 to the 64. -/
namespace Go.Proofs.Ytgnophflogmmaaa
open Go.RowKit

theorem fits_len (xs : List Int) (dx : Dig 4294967296 xs) : (norm xs).length ≤ 2 ↔ val 4294967296 xs < 18446744073709551616 := by
  have h0 := val_nonneg (b := 4294967296) (by omega) dx
  have e := norm_eq 4294967296 (by omega) dx
  rw [e]
  have := dg_len_iff 4294967296 (by omega) 2 (val 4294967296 xs) h0
  simpa using this

theorem or_up (l h : Int) (hl : 0 ≤ l ∧ l < 4294967296) (hh : 0 ≤ h ∧ h < 4294967296) : bits .or .u64 l (h * 4294967296) = l + h * 4294967296 := by
  obtain ⟨h, rfl⟩ := Int.eq_ofNat_of_zero_le hh.1
  obtain ⟨l, rfl⟩ := Int.eq_ofNat_of_zero_le hl.1
  have e : ((h : Int) * 4294967296) = ((h * 4294967296 : Nat) : Int) := by simp
  rw [e, bits_or_u64_nat _ _ (by omega) (by omega), Nat.or_comm, nat_join 32 _ _ (by omega) (by omega)]
  omega
theorem or_zero64 (l : Int) (hl : 0 ≤ l ∧ l < 4294967296) : bits .or .u64 0 l = l := by
  obtain ⟨l, rfl⟩ := Int.eq_ofNat_of_zero_le hl.1
  have := bits_or_u64_nat 0 l (by omega) (by omega)
  simpa using this

set_option maxHeartbeats 400000 in
theorem uint_calls (ad : Option Addr) (n c : Nat) (la : List Int) (w : World) (hn : n ≤ 9223372036854775807) (hnc : n ≤ c) (hr : Rds w .u32 ad n la) (da : Dig 4294967296 la) :
    Calls Try.prog 68 #[.slice ad n c] w fun e w' => e = .returned (.tuple #[.int .u64 (low64 (val 4294967296 la)), .bool (fits64 (val 4294967296 la))]) ∧ w = w' := by
  have hc := Lib.hid (cut_calls ad n c la w (by omega) hnc hr)
  have rx := hr.norm
  have dx := norm_dig da
  have hF := fits_len la da
  have hma := norm_length_le la
  rw [hr.len] at hma
  rw [← val_norm 4294967296 la] at hF ⊢
  clear hr da
  generalize norm la = xs at *
  obtain ⟨m, hm⟩ : ∃ m, xs.length = m := ⟨_, rfl⟩
  rw [hm] at hc rx hF hma
  have HM := Lib.hid hm
  clear hm
  by_cases h2 : m ≤ 2
  · have HV := Lib.hid (hF.1 h2)
    have HL := Lib.hid (show low64 (val 4294967296 xs) = val 4294967296 xs by unfold low64; rw [if_pos HV.out])
    have HB := Lib.hid (show fits64 (val 4294967296 xs) = true from decide_eq_true HV.out)
    clear hF
    go_enter Try.func68, Try.ntmps68
    go_wp2_with fail
    refine (hc.out).mono ?_
    rintro e w' ⟨rfl, rfl⟩
    go_wp2_with fail
    go_loop [13, 4] (fun i acc => ∃ k : Nat, k ≤ m ∧ i = .int .i64 k ∧ acc = .int .u64 (val 4294967296 (xs.take k))) (fun i _ => m - (intOf i).toNat)
    case atStart => exact ⟨0, Nat.zero_le _, rfl, by simp [val]⟩
    case round =>
      obtain ⟨k, hk, rfl, rfl⟩ := hrel
      by_cases hkm : k < m
      · obtain ⟨a, rfl, hxl⟩ := rx.cell k hkm
        have bx := dx.get (by omega) k
        have hs := Lib.hid (val_take_succ' 4294967296 xs k)
        have b0 := val_nonneg (b := 4294967296) (by omega) (dx.take k)
        have b1 := val_lt (b := 4294967296) (by omega) (dx.take k)
        rw [List.length_take, HM.out, Nat.min_eq_left (by omega)] at b1
        generalize xs[k]?.getD 0 = x at *
        rcases (show k = 0 ∨ k = 1 by omega) with rfl | rfl
        · have B := or_zero64 x bx
          have hxl' : w.cell? a = some (.int .u32 x) := by simpa [Addr.add] using hxl
          have HS := Lib.hid (show val 4294967296 (xs.take (0 + 1)) = x by rw [hs.out]; simp [val])
          rw [show val 4294967296 (xs.take 0) = 0 by simp [val]]
          clear b0 b1 hs
          go_wp2
          go_round
          case rel => exact ⟨0 + 1, by omega, rfl, by rw [HS.out]⟩
          case measure => simp [intOf]; omega
        · simp only [Int.pow_one] at b1 hs
          have B := or_up (val 4294967296 (xs.take 1)) x ⟨b0, b1⟩ bx
          have hxl' : w.cell? ⟨a.block, a.off + 1, none⟩ = some (.int .u32 x) := by simpa [Addr.add] using hxl
          have HS := Lib.hid (show val 4294967296 (xs.take (1 + 1)) = val 4294967296 (xs.take 1) + x * 4294967296 by rw [hs.out, Int.mul_comm x])
          clear hs
          generalize val 4294967296 (xs.take 1) = v at *
          go_wp2
          go_round
          case rel => exact ⟨1 + 1, by omega, rfl, by rw [HS.out]⟩
          case measure => simp [intOf]; omega
      · obtain rfl : k = m := by omega
        have HT := Lib.hid (show val 4294967296 (xs.take k) = val 4294967296 xs by rw [← HM.out, List.take_length])
        go_wp2
        go_ret2
        rw [HL.out, HB.out, ← HT.out]
        exact ⟨rfl, rfl⟩
  · have HV := Lib.hid (fun h => h2 (hF.2 h))
    have HL := Lib.hid (show low64 (val 4294967296 xs) = 0 by unfold low64; rw [if_neg HV.out])
    have HB := Lib.hid (show fits64 (val 4294967296 xs) = false from decide_eq_false HV.out)
    clear hF
    have h3 : (2 : Int) < (m : Int) := by omega
    go_enter Try.func68, Try.ntmps68
    go_wp2_with fail
    refine (hc.out).mono ?_
    rintro e w' ⟨rfl, rfl⟩
    go_wp2
    go_ret2
    rw [HL.out, HB.out]
    exact ⟨rfl, rfl⟩
end Go.Proofs.Ytgnophflogmmaaa

/- crucibleref01.Norm: the number without noughts at its end. -/
namespace Go.Proofs.Ytgnophflogmmaaa
open Go.RowKit
theorem rnorm_calls (ad : Option Addr) (n c : Nat) (la : List Int) (w : World) (hn : n ≤ 1099511627776) (hr : Rds w .u32 ad n la) (da : Dig 4294967296 la) :
    Calls Try.prog 70 #[.slice ad n c] w (RetL 78 .u32 (dg 4294967296 (val 4294967296 la)) w) := by
  have l1 := bytes_len hr.len da
  have C1 := Lib.hid (bytes_calls ad n c la w (by omega) hr da)
  have vx := Lib.hid (val_dg 256 (by omega) (val 4294967296 la) (val_nonneg (by omega) da))
  have dx : Dig 256 (dg 256 (val 4294967296 la)) := dg_dig 256 (by omega) _
  clear hr
  generalize dg 256 (val 4294967296 la) = xs at *
  go_enter Try.func70, Try.ntmps70
  go_wp2_with fail
  refine (C1.out).mono ?_
  rintro e w1 ⟨xd, m, cx, rfl, ox, b1⟩
  have HM := Lib.hid ox.len
  rw [HM.out] at l1
  have C2 := limbs_calls xd m cx xs w1 (by omega) ox.le ox.rds dx
  rw [show val 256 xs = val 4294967296 la from vx.out] at C2
  have C2' := Lib.hid C2
  clear C1 C2
  go_wp2_with fail
  refine (C2'.out).mono ?_
  rintro e w2 hr
  obtain ⟨rd, nr, cr, rfl, or, br⟩ := hr.after b1
  go_wp2_with fail
  go_ret
  exact ⟨_, _, _, rfl, or, br⟩
end Go.Proofs.Ytgnophflogmmaaa

/- crucibleref01.Uint: the number, if it is below 2 to the 64. -/
namespace Go.Proofs.Ytgnophflogmmaaa
open Go.RowKit
theorem ruint_calls (ad : Option Addr) (n c : Nat) (la : List Int) (w : World) (hn : n ≤ 1099511627776) (hr : Rds w .u32 ad n la) (da : Dig 4294967296 la) :
    Calls Try.prog 69 #[.slice ad n c] w fun e w' => e = .returned (.tuple #[.int .u64 (low64 (val 4294967296 la)), .bool (fits64 (val 4294967296 la))]) ∧ Below w.heap.size w w' := by
  have l1 := bytes_len hr.len da
  have C1 := Lib.hid (bytes_calls ad n c la w (by omega) hr da)
  have V0 := val_nonneg (b := 4294967296) (by omega) da
  have vx := Lib.hid (val_dg 256 (by omega) (val 4294967296 la) V0)
  have hF : (dg 256 (val 4294967296 la)).length ≤ 8 ↔ val 4294967296 la < 18446744073709551616 := by have := dg_len_iff 256 (by omega) 8 (val 4294967296 la) V0; simpa using this
  have dx : Dig 256 (dg 256 (val 4294967296 la)) := dg_dig 256 (by omega) _
  clear hr da
  generalize dg 256 (val 4294967296 la) = xs at *
  generalize val 4294967296 la = V at *
  go_enter Try.func69, Try.ntmps69
  go_wp2_with fail
  refine (C1.out).mono ?_
  rintro e w1 ⟨xd, m, cx, rfl, ox, b1⟩
  have rx := ox.rds
  have HM := Lib.hid ox.len
  rw [HM.out] at l1 hF
  clear C1 ox
  by_cases h8 : m ≤ 8
  · have HV := hF.1 h8
    have HL := Lib.hid (show low64 V = V by unfold low64; rw [if_pos HV])
    have HB := Lib.hid (show fits64 V = true from decide_eq_true HV)
    clear hF HV
    go_wp2
    go_loop [6, 5] (fun i acc => ∃ j : Nat, j ≤ m ∧ i = .int .i64 ((j : Int) - 1) ∧ acc = .int .u64 (val 256 (xs.drop j))) (fun i _ => (intOf i + 1).toNat)
    case atStart => exact ⟨m, Nat.le_refl _, rfl, by rw [List.drop_of_length_le (by rw [HM.out]; exact Nat.le_refl _)]; rfl⟩
    case round =>
      obtain ⟨j, hj, rfl, rfl⟩ := hrel
      by_cases hj0 : 0 < j
      · obtain ⟨j, rfl⟩ : ∃ i, j = i + 1 := ⟨j - 1, by omega⟩
        obtain ⟨a, rfl, hxl⟩ := rx.cell j (by omega)
        have bx := dx.get (by omega) j
        have hs := Lib.hid (val_drop 256 xs j (by rw [HM.out]; omega))
        have b0 := val_nonneg (b := 256) (by omega) (dx.drop (j + 1))
        have b1' := val_lt (b := 256) (by omega) (dx.drop (j + 1))
        have b2 : val 256 (xs.drop (j + 1)) < 72057594037927936 := Int.lt_of_lt_of_le b1' (pow_le (b := 256) (by omega) (show (xs.drop (j + 1)).length ≤ 7 by rw [List.length_drop, HM.out]; omega))
        clear b1'
        have ej : (((j + 1 : Nat) : Int) - 1) = (j : Int) := by omega
        rw [ej]
        clear ej
        generalize xs[j]?.getD 0 = x at *
        generalize val 256 (xs.drop (j + 1)) = v at *
        go_wp2
        go_round
        case rel => exact ⟨j, by omega, rfl, by rw [hs.out]; congr 1; omega⟩
        case measure => simp [intOf]
      · obtain rfl : j = 0 := by omega
        have e0 : val 256 xs = V := vx.out
        have E0 := Lib.hid e0
        clear e0
        go_wp2
        go_ret2
        rw [HL.out, HB.out, ← E0.out]
        exact ⟨rfl, b1⟩
  · have HL := Lib.hid (show low64 V = 0 by unfold low64; rw [if_neg (fun h => h8 (hF.2 h))])
    have HB := Lib.hid (show fits64 V = false from decide_eq_false (fun h => h8 (hF.2 h)))
    clear hF
    have h3 : (8 : Int) < (m : Int) := by omega
    go_wp2
    go_ret2
    rw [HL.out, HB.out]
    exact ⟨rfl, b1⟩
end Go.Proofs.Ytgnophflogmmaaa
