/- Contracts of functions, and plain facts, part 5. -/
import Derived.Lib.BitFns
import Derived.Test.YtoimhjcpeifegaaGreatDoorProg
import Derived.Deep.QuietTactic
import Derived.BigQuiet
import Derived.BigRegion
import Derived.Laws.Strings
import Derived.Test.YtoimhjcpeifegaaGreatDoorPk1
import Derived.Test.YtoimhjcpeifegaaGreatDoorPk3
import Derived.Test.YtoimhjcpeifegaaGreatDoorPk4
set_option linter.unusedVariables false
set_option linter.unusedSimpArgs false
/- How many digits, how many bits a number has; which of two lists is the greater number: plain facts. -/
namespace Go.Proofs.YtoimhjcpeifegaaGreatDoor

theorem dg_lt_of_len (b : Nat) (hb : 2 ≤ b) (n : Nat) (V : Int) (hV : 0 ≤ V) (h : (dg b V).length ≤ n) : V < (b : Int) ^ n := by
  have h1 := val_lt (b := b) (by omega) (dg_dig b hb V.toNat)
  have e : val b (digs b V.toNat) = V := val_dg b hb V hV
  rw [e] at h1
  exact Int.lt_of_lt_of_le h1 (pow_le (by omega) h)

theorem dg_len_iff (b : Nat) (hb : 2 ≤ b) (n : Nat) (V : Int) (hV : 0 ≤ V) : (dg b V).length ≤ n ↔ V < (b : Int) ^ n :=
  ⟨dg_lt_of_len b hb n V hV, dg_length_le b hb n V⟩

/-- A number below 2 to the 64, else 0. -/
def low64 (V : Int) : Int := if V < 18446744073709551616 then V else 0
def fits64 (V : Int) : Bool := decide (V < 18446744073709551616)

/-- How many bits. -/
def blen (n : Nat) : Nat := if n = 0 then 0 else n.log2 + 1

theorem blen_eq (n k : Nat) (h0 : 2 ^ k ≤ n) (h1 : n < 2 ^ (k + 1)) : blen n = k + 1 := by
  have hn : n ≠ 0 := by
    have := Nat.two_pow_pos k
    omega
  unfold blen
  rw [if_neg hn]
  have a := (Nat.le_log2 hn).2 h0
  have b := (Nat.log2_lt hn).2 h1
  omega

theorem blen_lt (n : Nat) : n < 2 ^ blen n := by
  unfold blen
  split
  · omega
  · rename_i h
    exact (Nat.log2_lt h).1 (Nat.lt_succ_self _)
theorem blen_ge (n : Nat) (hn : n ≠ 0) : 2 ^ (blen n - 1) ≤ n := by
  unfold blen
  rw [if_neg hn]
  exact (Nat.le_log2 hn).1 (by omega)
theorem blen_zero : blen 0 = 0 := rfl
theorem blen_pos (n : Nat) (h : n ≠ 0) : 0 < blen n := by
  unfold blen
  rw [if_neg h]
  omega

theorem blen_half (n : Nat) (h : n ≠ 0) : blen n = blen (n / 2) + 1 := by
  by_cases h2 : n / 2 = 0
  · have : n = 1 := by omega
    subst this
    decide
  · have a := blen_ge (n / 2) h2
    have b := blen_lt (n / 2)
    have c := blen_pos (n / 2) h2
    refine blen_eq n (blen (n / 2)) ?_ ?_
    · have e : 2 ^ blen (n / 2) = 2 * 2 ^ (blen (n / 2) - 1) := by
        rw [show blen (n / 2) = (blen (n / 2) - 1) + 1 by omega, Nat.pow_succ, Nat.mul_comm]
        simp
      omega
    · rw [Nat.pow_succ]
      omega

theorem bitLen_blen (n : Nat) (h : n < 2 ^ 64) : Lib.bitLen n = blen n := by
  induction n using Nat.strongRecOn with
  | ind n ih =>
    by_cases h0 : n = 0
    · subst h0; rfl
    · rw [Lib.bitLen_half n h0 h, ih (n / 2) (by omega) (by omega), blen_half n h0]
      omega

/-- A number by its lowest places and the highest. -/
theorem blen_split (lo top e : Nat) (hl : lo < 2 ^ e) (ht : top ≠ 0) : blen (lo + 2 ^ e * top) = e + blen top := by
  have a := blen_ge top ht
  have b := blen_lt top
  have c := blen_pos top ht
  obtain ⟨t, hT⟩ : ∃ t, blen top = t + 1 := ⟨blen top - 1, by omega⟩
  rw [hT] at a b ⊢
  simp only [Nat.add_sub_cancel] at a
  refine (blen_eq _ (e + t) ?_ ?_).trans (by omega)
  · rw [Nat.pow_add]
    have := Nat.mul_le_mul_left (2 ^ e) a
    omega
  · rw [show e + t + 1 = e + (t + 1) by omega, Nat.pow_add]
    have := Nat.mul_le_mul_left (2 ^ e) (show top + 1 ≤ 2 ^ (t + 1) by omega)
    rw [Nat.mul_add] at this
    omega

theorem norm_last {b : Int} {xs : List Int} (hn : norm xs = xs) (m : Nat) (hm : xs.length = m + 1) : xs[m]?.getD 0 ≠ 0 := by
  intro h
  have hm' : m < xs.length := by omega
  have h1 : (norm xs).length ≤ m := by
    rcases Nat.lt_or_ge m (norm xs).length with h2 | h2
    · exfalso
      -- a list with 0 at its end is longer than its norm
      have e : xs = xs.take m ++ List.replicate 1 0 := by
        conv => lhs; rw [← List.take_append_drop m xs]
        rw [List.drop_eq_getElem_cons hm', List.drop_of_length_le (by omega)]
        rw [List.getElem?_eq_getElem hm'] at h
        simp at h
        simp [h]
      have h3 := norm_append_zeros (xs.take m) 1
      rw [← e] at h3
      have h4 := norm_length_le (xs.take m)
      have h5 : (xs.take m).length = m := by rw [List.length_take]; omega
      rw [h3] at h2
      omega
    · exact h2
  rw [hn] at h1
  omega

/-- The bits of a list of limbs (w bits to a limb) that has no nought at its end. -/
theorem blen_list (w : Nat) (b : Int) (hb : b = 2 ^ w) (xs : List Int) (hd : Dig b xs) (hn : norm xs = xs) (m : Nat) (hm : xs.length = m + 1) :
    blen (val b xs).toNat = w * m + blen (xs[m]?.getD 0).toNat := by
  have hbp : 0 < b := by rw [hb]; exact Int.pow_pos (by omega)
  have hsplit := val_split b xs m (by omega)
  have hdrop := val_drop b xs m (by omega)
  rw [List.drop_of_length_le (show xs.length ≤ m + 1 by omega)] at hdrop
  simp only [val, Int.mul_zero, Int.add_zero] at hdrop
  rw [hdrop] at hsplit
  have hlo := val_lt hbp (hd.take m)
  have hlo0 := val_nonneg hbp (hd.take m)
  rw [List.length_take, Nat.min_eq_left (by omega)] at hlo
  have ht := hd.get hbp m
  have ht0 := norm_last (b := b) hn m hm
  generalize xs[m]?.getD 0 = t at *
  generalize val b (xs.take m) = lo at *
  obtain ⟨lo, rfl⟩ := Int.eq_ofNat_of_zero_le hlo0
  obtain ⟨t, rfl⟩ := Int.eq_ofNat_of_zero_le ht.1
  have e : b ^ m = ((2 ^ (w * m) : Nat) : Int) := by
    rw [hb, Int.natCast_pow, ← Int.pow_mul]
    rfl
  rw [e] at hsplit hlo
  rw [hsplit]
  have e2 : ((lo : Int) + ((2 ^ (w * m) : Nat) : Int) * (t : Int)).toNat = lo + 2 ^ (w * m) * t := by
    rw [← Int.natCast_mul, ← Int.natCast_add, Int.toNat_natCast]
  rw [e2, blen_split lo t (w * m) (by omega) (by omega)]
  simp

/-- More digits, a greater number. -/
theorem lt_of_len {b : Int} (hb : 0 < b) {xs zs : List Int} (hx : Dig b xs) (hz : Dig b zs) (hn : norm zs = zs) (h : xs.length < zs.length) : val b xs < val b zs := by
  have h1 := val_lt hb hx
  have h2 := val_ge hb hz hn (by intro e; rw [e] at h; simp at h)
  exact Int.lt_of_lt_of_le (Int.lt_of_lt_of_le h1 (pow_le (by omega) (by omega))) h2

/-- The highest place that differs decides. -/
theorem lt_at {b : Int} (hb : 0 < b) {xs zs : List Int} (hx : Dig b xs) (hz : Dig b zs) (k : Nat) (h1 : k < xs.length) (h2 : k < zs.length) (he : val b (xs.drop (k + 1)) = val b (zs.drop (k + 1))) (h : xs[k]?.getD 0 < zs[k]?.getD 0) :
    val b xs < val b zs := by
  have s1 := val_split b xs k (by omega)
  have s2 := val_split b zs k (by omega)
  rw [val_drop b xs k h1] at s1
  rw [val_drop b zs k h2, ← he] at s2
  have l1 := val_lt hb (hx.take k)
  have l2 := val_nonneg hb (hz.take k)
  rw [List.length_take, Nat.min_eq_left (by omega)] at l1
  rw [s1, s2]
  have hp : 0 < b ^ k := Int.pow_pos hb
  generalize b ^ k = P at *
  generalize xs[k]?.getD 0 = x at *
  generalize zs[k]?.getD 0 = z at *
  generalize val b (xs.take k) = A at *
  generalize val b (zs.take k) = C at *
  generalize b * val b (xs.drop (k + 1)) = R at *
  have : P * (x + R + 1) ≤ P * (z + R) := Int.mul_le_mul_of_nonneg_left (by omega) (Int.le_of_lt hp)
  rw [Int.mul_add P (x + R) 1] at this
  omega
end Go.Proofs.YtoimhjcpeifegaaGreatDoor


/- crucibleref01: trim, bytes, limbs: what the calls answer. -/
namespace Go.Proofs.YtoimhjcpeifegaaGreatDoor
open Go.RowKit

end Go.Proofs.YtoimhjcpeifegaaGreatDoor


/- Numbers in memory, by their worth alone: for the walks of the laws of layer 1. -/
namespace Go.Proofs.YtoimhjcpeifegaaGreatDoor
open Go.RowKit

/-- A list of limbs, of worth V. -/
structure Num (w : World) (ad : Option Addr) (n c : Nat) (V : Int) : Prop where
  le : n ≤ c
  row : ∃ xs, Rds w .u32 ad n xs ∧ Dig 4294967296 xs ∧ val 4294967296 xs = V

/-- The list of the number V. -/
structure Can (w : World) (ad : Option Addr) (n c : Nat) (V : Int) : Prop where
  le : n ≤ c
  rds : Rds w .u32 ad n (dg 4294967296 V)

/-- What was handed in. -/
structure Arg (w : World) (ad : Option Addr) (n c : Nat) (xs : List Int) : Prop where
  le : n ≤ c
  rds : Rds w .u32 ad n xs
  dig : Dig 4294967296 xs

/-- A copy of it, a mark behind it. -/
structure Tw (w : World) (b n : Nat) (xs : List Int) : Prop where
  len : xs.length = n
  blk : Blk w b 23 .u32 (xs ++ [2148261425])
  dig : Dig 4294967296 xs

theorem Num.below {w w1 : World} {ad : Option Addr} {n c : Nat} {V : Int} (h : Num w ad n c V) {B : Nat} (hb : Below B w w1) (hB : w.heap.size ≤ B) : Num w1 ad n c V := by
  obtain ⟨xs, h1, h2, h3⟩ := h.row
  exact ⟨h.le, xs, h1.below hb hB, h2, h3⟩
theorem Can.below {w w1 : World} {ad : Option Addr} {n c : Nat} {V : Int} (h : Can w ad n c V) {B : Nat} (hb : Below B w w1) (hB : w.heap.size ≤ B) : Can w1 ad n c V := ⟨h.le, h.rds.below hb hB⟩
theorem Arg.below {w w1 : World} {ad : Option Addr} {n c : Nat} {xs : List Int} (h : Arg w ad n c xs) {B : Nat} (hb : Below B w w1) (hB : w.heap.size ≤ B) : Arg w1 ad n c xs := ⟨h.le, h.rds.below hb hB, h.dig⟩
theorem Tw.below {w w1 : World} {b n : Nat} {xs : List Int} (h : Tw w b n xs) {B : Nat} (hb : Below B w w1) (hB : w.heap.size ≤ B) : Tw w1 b n xs :=
  ⟨h.len, h.blk.below hb (Nat.lt_of_lt_of_le h.blk.lt hB), h.dig⟩
theorem Arg.num {w : World} {ad : Option Addr} {n c : Nat} {xs : List Int} (h : Arg w ad n c xs) : Num w ad n c (val 4294967296 xs) := ⟨h.le, xs, h.rds, h.dig, rfl⟩
theorem Tw.num {w : World} {b n : Nat} {xs : List Int} (h : Tw w b n xs) : Num w (some ⟨b, 0, none⟩) n (n + 1) (val 4294967296 xs) := ⟨by omega, xs, twin_rds h.blk h.len, h.dig, rfl⟩
theorem Can.num {w : World} {ad : Option Addr} {n c : Nat} {V : Int} (h : Can w ad n c V) (hV : 0 ≤ V) : Num w ad n c V := ⟨h.le, _, h.rds, dg_dig 4294967296 (by omega) _, val_dg 4294967296 (by omega) V hV⟩
theorem Arg.nonneg {w : World} {ad : Option Addr} {n c : Nat} {xs : List Int} (h : Arg w ad n c xs) : 0 ≤ val 4294967296 xs := val_nonneg (by omega) h.dig
theorem Arg.lt {w : World} {ad : Option Addr} {n c : Nat} {xs : List Int} (h : Arg w ad n c xs) : val 4294967296 xs < 4294967296 ^ n := by
  have := val_lt (by omega) h.dig
  rwa [h.rds.len] at this
theorem Can.len_le {w : World} {ad : Option Addr} {n c : Nat} {V : Int} (h : Can w ad n c V) (L : Nat) (hV : V < 4294967296 ^ L) : n ≤ L := by
  rw [← h.rds.len]
  exact dg_length_le 4294967296 (by omega) L V hV
theorem Can.zero {w : World} {ad : Option Addr} {n c : Nat} (h : Can w ad n c 0) : n = 0 := by
  have := h.rds.len
  rw [dg_zero] at this
  exact this.symm
theorem Can.zero_iff {w : World} {ad : Option Addr} {n c : Nat} {V : Int} (h : Can w ad n c V) (hV : 0 ≤ V) : n = 0 ↔ V = 0 := by
  have h1 := h.rds.len
  have h2 := dg_nil 4294967296 V (by omega) hV
  constructor
  · intro e
    exact h2.1 (List.eq_nil_of_length_eq_zero (by omega))
  · intro e
    rw [h2.2 e] at h1
    exact h1.symm

theorem pow_add_lt (a b : Int) (n m : Nat) (ha : a < 4294967296 ^ n) (hb : b < 4294967296 ^ m) : a + b < 4294967296 ^ (n + m + 1) := by
  have h1 := pow_le (b := 4294967296) (by omega) (show n ≤ n + m by omega)
  have h2 := pow_le (b := 4294967296) (by omega) (show m ≤ n + m by omega)
  have h3 : (0 : Int) < 4294967296 ^ (n + m) := Int.pow_pos (by omega)
  rw [Int.pow_succ]
  omega

theorem pow_mul_lt (a b : Int) (n m : Nat) (ha0 : 0 ≤ a) (hb0 : 0 ≤ b) (ha : a < 4294967296 ^ n) (hb : b < 4294967296 ^ m) : a * b < 4294967296 ^ (n + m) := by
  rw [Int.pow_add]
  exact Int.lt_of_le_of_lt (Int.mul_le_mul_of_nonneg_left (Int.le_of_lt hb) ha0) (Int.mul_lt_mul_of_pos_right ha (Int.pow_pos (by omega)))

/-- A number's list is told. -/
def RetC (V : Int) (w : World) (e : Ending) (w' : World) : Prop :=
  ∃ ad n c, e = .returned (.slice ad n c) ∧ Can w' ad n c V ∧ Below w.heap.size w w'
def RetCB (V : Int) (ok : Bool) (w : World) (e : Ending) (w' : World) : Prop :=
  ∃ ad n c, e = .returned (.tuple #[.slice ad n c, .bool ok]) ∧ Can w' ad n c V ∧ Below w.heap.size w w'
def RetCNB (V : Int) (r : Int) (ok : Bool) (w : World) (e : Ending) (w' : World) : Prop :=
  ∃ ad n c, e = .returned (.tuple #[.slice ad n c, .int .u32 r, .bool ok]) ∧ Can w' ad n c V ∧ Below w.heap.size w w'
def RetCBB (V : Int) (b1 b2 : Bool) (w : World) (e : Ending) (w' : World) : Prop :=
  ∃ ad n c, e = .returned (.tuple #[.slice ad n c, .bool b1, .bool b2]) ∧ Can w' ad n c V ∧ Below w.heap.size w w'

theorem RetL.can {V : Int} {w : World} {e : Ending} {w' : World} (h : RetL 23 .u32 (dg 4294967296 V) w e w') : RetC V w e w' := by
  obtain ⟨ad, n, c, rfl, h1, h2⟩ := h
  exact ⟨ad, n, c, rfl, ⟨h1.le, h1.rds⟩, h2⟩
theorem RetLB.can {V : Int} {ok : Bool} {w : World} {e : Ending} {w' : World} (h : RetLB 23 .u32 (dg 4294967296 V) ok w e w') : RetCB V ok w e w' := by
  obtain ⟨ad, n, c, rfl, h1, h2⟩ := h
  exact ⟨ad, n, c, rfl, ⟨h1.le, h1.rds⟩, h2⟩
theorem RetLNB.can {V r : Int} {ok : Bool} {w : World} {e : Ending} {w' : World} (h : RetLNB 23 .u32 .u32 (dg 4294967296 V) r ok w e w') : RetCNB V r ok w e w' := by
  obtain ⟨ad, n, c, rfl, h1, h2⟩ := h
  exact ⟨ad, n, c, rfl, ⟨h1.le, h1.rds⟩, h2⟩
theorem RetLBB.can {V : Int} {b1 b2 : Bool} {w : World} {e : Ending} {w' : World} (h : RetLBB 23 .u32 (dg 4294967296 V) b1 b2 w e w') : RetCBB V b1 b2 w e w' := by
  obtain ⟨ad, n, c, rfl, h1, h2⟩ := h
  exact ⟨ad, n, c, rfl, ⟨h1.le, h1.rds⟩, h2⟩

theorem num_same (ad bd : Option Addr) (n m c d : Nat) (V U : Int) (w : World) (ha : Can w ad n c V) (hb : Can w bd m d U) (hV : 0 ≤ V) (hU : 0 ≤ U) (hn : n ≤ 1000000000000) (hm : m ≤ 1000000000000) :
    Calls Tryz.prog 125 #[.slice ad n c, .slice bd m d] w (Same (decide (V = U)) w) := by
  have h := same_calls ad bd n m c d _ _ w (by omega) (by omega) ha.rds hb.rds
  have e : (dg 4294967296 V = dg 4294967296 U) ↔ V = U := by
    constructor
    · intro e
      rw [← val_dg 4294967296 (by omega) V hV, e, val_dg 4294967296 (by omega) U hU]
    · intro e; rw [e]
  simpa only [e] using h

end Go.Proofs.YtoimhjcpeifegaaGreatDoor


/- Sums, differences and short division, place by place: plain facts on lists. -/
namespace Go.Proofs.YtoimhjcpeifegaaGreatDoor

theorem val_set_take (B : Int) (ys : List Int) (i : Nat) (v : Int) (h : i < ys.length) : val B ((ys.set i v).take (i + 1)) = val B (ys.take i) + B ^ i * v := by
  rw [take_set_succ ys i v h, val_append]
  simp [val, List.length_take, Nat.min_eq_left (Nat.le_of_lt h)]

theorem add_step (B : Int) (xs zs ys : List Int) (i : Nat) (hi : i < ys.length) (c T : Int) (hT : T = xs[i]?.getD 0 + zs[i]?.getD 0 + c)
    (E : val B (ys.take i) + c * B ^ i = val B (xs.take i) + val B (zs.take i)) :
    val B ((ys.set i (T % B)).take (i + 1)) + (T / B) * B ^ (i + 1) = val B (xs.take (i + 1)) + val B (zs.take (i + 1)) := by
  rw [val_set_take B ys i _ hi, val_take_succ', val_take_succ', Int.pow_succ]
  have h := Int.emod_add_mul_ediv T B
  generalize xs[i]?.getD 0 = x at *
  generalize zs[i]?.getD 0 = z at *
  generalize T / B = q at *
  generalize T % B = r at *
  generalize B ^ i = P at *
  generalize val B (ys.take i) = Y at *
  generalize val B (xs.take i) = X at *
  generalize val B (zs.take i) = Z at *
  have e : r = x + z + c - B * q := by omega
  subst e
  grind

theorem add_end (B : Int) (xs zs ys : List Int) (n : Nat) (hx : xs.length = n) (hz : zs.length ≤ n) (hy : ys.length = n + 1) (c : Int)
    (E : val B (ys.take n) + c * B ^ n = val B (xs.take n) + val B (zs.take n)) : val B (ys.set n c) = val B xs + val B zs := by
  have h := val_set_take B ys n c (by omega)
  rw [List.take_of_length_le (by rw [List.length_set]; omega)] at h
  rw [List.take_of_length_le (show xs.length ≤ n by omega), List.take_of_length_le hz] at E
  rw [h, ← E, Int.mul_comm]

end Go.Proofs.YtoimhjcpeifegaaGreatDoor


/- nat.Cmp: -1, 0 or 1. -/
namespace Go.Proofs.YtoimhjcpeifegaaGreatDoor
open Go.RowKit

theorem cmpI_of_lists (xs zs : List Int) (dx : Dig 4294967296 xs) (dz : Dig 4294967296 zs) (nx : norm xs = xs) (nz : norm zs = zs) (h : xs.length ≠ zs.length) :
    cmpI xs.length zs.length = cmpI (val 4294967296 xs) (val 4294967296 zs) := by
  rcases Nat.lt_or_ge xs.length zs.length with h1 | h1
  · rw [cmpI_lt (by omega), cmpI_lt (lt_of_len (by omega) dx dz nz h1)]
  · rw [cmpI_gt (by omega), cmpI_gt (lt_of_len (by omega) dz dx nx (by omega))]

set_option maxHeartbeats 400000 in
theorem ncmp_calls (ad bd : Option Addr) (na nb ca cb : Nat) (la lb : List Int) (w : World) (hna : na ≤ 70368744177664) (hnb : nb ≤ 70368744177664) (hac : na ≤ ca) (hbc : nb ≤ cb)
    (ha : Rds w .u32 ad na la) (hb : Rds w .u32 bd nb lb) (da : Dig 4294967296 la) (db : Dig 4294967296 lb) :
    Calls Tryz.prog 114 #[.slice ad na ca, .slice bd nb cb] w (RetI (cmpI (val 4294967296 la) (val 4294967296 lb)) w) := by
  have rx := ha.norm
  have rz := hb.norm
  have dx := norm_dig da
  have dz := norm_dig db
  have hma := norm_length_le la
  have hnb' := norm_length_le lb
  rw [ha.len] at hma
  rw [hb.len] at hnb'
  have C1 := Lib.hid (cut_calls ad na ca la w (by omega) hac ha)
  have C2 := Lib.hid (cut_calls bd nb cb lb w (by omega) hbc hb)
  have N1 := Lib.hid (norm_norm la)
  have N2 := Lib.hid (norm_norm lb)
  rw [← val_norm 4294967296 la, ← val_norm 4294967296 lb]
  clear ha hb da db
  generalize norm la = xs at *
  generalize norm lb = zs at *
  obtain ⟨m, hm⟩ : ∃ m, xs.length = m := ⟨_, rfl⟩
  obtain ⟨n, hn⟩ : ∃ n, zs.length = n := ⟨_, rfl⟩
  rw [hm] at rx hma C1
  rw [hn] at rz hnb' C2
  have HM := Lib.hid hm
  have HN := Lib.hid hn
  clear hm hn
  by_cases hmn : m = n
  · subst hmn
    go_enter Tryz.func114, Tryz.ntmps114
    go_wp2_with fail
    refine (C1.out).mono ?_
    rintro e w' ⟨rfl, rfl⟩
    go_wp2_with fail
    refine (C2.out).mono ?_
    rintro e w' ⟨rfl, rfl⟩
    go_wp2_with fail
    go_loopw [23] (fun i wr => ∃ k : Nat, k ≤ m ∧ i = .int .i64 k ∧ Hid (val 4294967296 (xs.drop (m - k)) = val 4294967296 (zs.drop (m - k))) ∧ Hid (∃ q, wr = w.drewN q)) (fun i _ => m - (intOf i).toNat)
    case atStart => exact ⟨0, Nat.zero_le _, rfl, by rw [Nat.sub_zero, List.drop_of_length_le (by rw [HM.out]; exact Nat.le_refl _), List.drop_of_length_le (by rw [HN.out]; exact Nat.le_refl _)]; rfl, ⟨0, rfl⟩⟩
    case round =>
      obtain ⟨k, hk, rfl, hv, hq⟩ := hrel
      have rx' : Rds wr .u32 ad m xs := by obtain ⟨q, rfl⟩ := hq.out; exact rx.drewN q
      have rz' : Rds wr .u32 bd m zs := by obtain ⟨q, rfl⟩ := hq.out; exact rz.drewN q
      by_cases hkm : k < m
      · obtain ⟨a, rfl, hxl⟩ := rx'.cell (m - 1 - k) (by omega)
        obtain ⟨b, rfl, hzl⟩ := rz'.cell (m - 1 - k) (by omega)
        have L1 := Lib.hid (fun h : xs[m - 1 - k]?.getD 0 < zs[m - 1 - k]?.getD 0 => lt_at (b := 4294967296) (by omega) dx dz (m - 1 - k) (by rw [HM.out]; omega) (by rw [HN.out]; omega) (by rw [show m - 1 - k + 1 = m - k by omega]; exact hv.out) h)
        have L2 := Lib.hid (fun h : zs[m - 1 - k]?.getD 0 < xs[m - 1 - k]?.getD 0 => lt_at (b := 4294967296) (by omega) dz dx (m - 1 - k) (by rw [HN.out]; omega) (by rw [HM.out]; omega) (by rw [show m - 1 - k + 1 = m - k by omega]; exact hv.out.symm) h)
        have E := Lib.hid (fun h : xs[m - 1 - k]?.getD 0 = zs[m - 1 - k]?.getD 0 => show val 4294967296 (xs.drop (m - (k + 1))) = val 4294967296 (zs.drop (m - (k + 1))) by
          rw [show m - (k + 1) = m - 1 - k by omega, val_drop _ xs _ (by rw [HM.out]; omega), val_drop _ zs _ (by rw [HN.out]; omega), h, show m - 1 - k + 1 = m - k by omega, hv.out])
        clear hv rx rz rx' rz'
        have hi0 : (0 : Int) ≤ (m : Int) - 1 - k := by omega
        have hi1 : (m : Int) - 1 - k < m := by omega
        have hi2 : ((m : Int) - 1 - k).toNat = m - 1 - k := by omega
        generalize hgx : xs[m - 1 - k]?.getD 0 = x at *
        generalize hgz : zs[m - 1 - k]?.getD 0 = z at *
        clear hgx hgz
        rcases Int.lt_trichotomy x z with hxz | hxz | hxz
        · have HR := Lib.hid (cmpI_lt (L1.out hxz))
          have HC := Lib.hid (cmpI_lt hxz)
          have ht : (x != z) = true := by simp; omega
          go_wp2_with fail
          go_quiet (fail)
          have hxl2 : (wr.drewN nq).cell? (a.add (m - 1 - k)) = some (.int .u32 x) := hxl
          have hzl2 : (wr.drewN nq).cell? (b.add (m - 1 - k)) = some (.int .u32 z) := hzl
          have hq2 := Lib.hid (show ∃ q, wr.drewN nq = w.drewN q by obtain ⟨q, rfl⟩ := hq.out; exact ⟨_, World.drewN_drewN ..⟩)
          generalize wr.drewN nq = w2 at *
          go_wp2_with fail
          go_quiet ((go_at_call 163; exact quiet_left (compare_u32 x z _)))
          go_wp2
          go_ret
          rw [HR.out]
          obtain ⟨q, rfl⟩ := hq2.out
          exact ⟨by rw [← HC.out]; rfl, _, World.drewN_drewN ..⟩
        · subst hxz
          have ht : (x != x) = false := by simp
          go_wp2_with fail
          go_quiet (fail)
          go_wp2
          go_roundw
          case rel => exact ⟨k + 1, by omega, by go_num, E.out trivial, by obtain ⟨q, rfl⟩ := hq.out; exact ⟨_, World.drewN_drewN ..⟩⟩
          case measure => simp [intOf]; omega
        · have HR := Lib.hid (cmpI_gt (L2.out hxz))
          have HC := Lib.hid (cmpI_gt hxz)
          have ht : (x != z) = true := by simp; omega
          go_wp2_with fail
          go_quiet (fail)
          have hxl2 : (wr.drewN nq).cell? (a.add (m - 1 - k)) = some (.int .u32 x) := hxl
          have hzl2 : (wr.drewN nq).cell? (b.add (m - 1 - k)) = some (.int .u32 z) := hzl
          have hq2 := Lib.hid (show ∃ q, wr.drewN nq = w.drewN q by obtain ⟨q, rfl⟩ := hq.out; exact ⟨_, World.drewN_drewN ..⟩)
          generalize wr.drewN nq = w2 at *
          go_wp2_with fail
          go_quiet ((go_at_call 163; exact quiet_left (compare_u32 x z _)))
          go_wp2
          go_ret
          rw [HR.out]
          obtain ⟨q, rfl⟩ := hq2.out
          exact ⟨by rw [← HC.out]; rfl, _, World.drewN_drewN ..⟩
      · obtain rfl : k = m := by omega
        have HR := Lib.hid (cmpI_eq (show val 4294967296 xs = val 4294967296 zs by have := hv.out; simpa using this))
        go_wp2
        go_ret
        rw [HR.out]
        exact ⟨rfl, hq.out⟩
  · have HR := Lib.hid (cmpI_of_lists xs zs dx dz N1.out N2.out (by rw [HM.out, HN.out]; exact hmn))
    rw [HM.out, HN.out] at HR
    have ht : ((m : Int) != (n : Int)) = true := by simp; omega
    go_enter Tryz.func114, Tryz.ntmps114
    go_wp2_with fail
    refine (C1.out).mono ?_
    rintro e w' ⟨rfl, rfl⟩
    go_wp2_with fail
    refine (C2.out).mono ?_
    rintro e w' ⟨rfl, rfl⟩
    go_wp2_with fail
    refine (compare_int m n w).mono ?_
    rintro e w' ⟨rfl, rfl⟩
    go_wp2
    go_ret
    rw [← HR.out]
    exact ⟨rfl, 0, rfl⟩
end Go.Proofs.YtoimhjcpeifegaaGreatDoor


/- crucibleref01.Cmp: -1, 0 or 1. -/
namespace Go.Proofs.YtoimhjcpeifegaaGreatDoor
open Go.RowKit
end Go.Proofs.YtoimhjcpeifegaaGreatDoor


/- crucibleref01.Norm: the number without noughts at its end. -/
namespace Go.Proofs.YtoimhjcpeifegaaGreatDoor
open Go.RowKit
end Go.Proofs.YtoimhjcpeifegaaGreatDoor


/- nat.Len: how many bits it has. -/
namespace Go.Proofs.YtoimhjcpeifegaaGreatDoor
open Go.RowKit

/-- How many bits a whole number not below 0 has, as an int. -/
def bitsOf (V : Int) : Int := blen V.toNat

theorem nlen_calls (ad : Option Addr) (n c : Nat) (la : List Int) (w : World) (hn : n ≤ 70368744177664) (hnc : n ≤ c) (hr : Rds w .u32 ad n la) (da : Dig 4294967296 la) :
    Calls Tryz.prog 86 #[.slice ad n c] w fun e w' => e = .returned (.int .i64 (bitsOf (val 4294967296 la))) ∧ w = w' := by
  have hc := Lib.hid (cut_calls ad n c la w (by omega) hnc hr)
  have rx := hr.norm
  have dx := norm_dig da
  have hN := norm_norm la
  have hma := norm_length_le la
  rw [hr.len] at hma
  rw [← val_norm 4294967296 la]
  clear hr da
  generalize norm la = xs at *
  obtain ⟨m, hm⟩ : ∃ m, xs.length = m := ⟨_, rfl⟩
  rw [hm] at hc rx hma
  by_cases h0 : m = 0
  · subst h0
    have HB := Lib.hid (show bitsOf (val 4294967296 xs) = 0 by rw [List.eq_nil_of_length_eq_zero hm]; rfl)
    clear hN hm
    go_enter Tryz.func86, Tryz.ntmps86
    go_wp2_with fail
    refine (hc.out).mono ?_
    rintro e w' ⟨rfl, rfl⟩
    go_wp2
    go_ret
    rw [HB.out]
    exact ⟨rfl, rfl⟩
  · obtain ⟨t, rfl⟩ : ∃ t, m = t + 1 := ⟨m - 1, by omega⟩
    have bx := dx.get (by omega) t
    have hl := len32_calls (xs[t]?.getD 0) w bx.1 (by omega)
    have hB := bitLen_blen (xs[t]?.getD 0).toNat (by omega)
    have hb2 := Lib.bitLen_le (xs[t]?.getD 0).toNat 32 (by omega) (by omega)
    have HB := Lib.hid (show bitsOf (val 4294967296 xs) = 32 * (t : Int) + (Lib.bitLen (xs[t]?.getD 0).toNat : Nat) by
      unfold bitsOf
      rw [blen_list 32 4294967296 (by decide) xs dx hN t hm, hB]
      simp)
    have hl' := Lib.hid hl
    clear hN hm hl hB h0
    obtain ⟨a, rfl, hxl⟩ := rx.cell t (by omega)
    generalize xs[t]?.getD 0 = x at *
    generalize Lib.bitLen x.toNat = q at *
    have hmm : ((((t + 1 : Nat) : Int)) == 0) = false := by simp; omega
    go_enter Tryz.func86, Tryz.ntmps86
    go_wp2_with fail
    refine (hc.out).mono ?_
    rintro e w' ⟨rfl, rfl⟩
    go_wp2_with fail
    refine (hl'.out).mono ?_
    rintro e w' ⟨rfl, rfl⟩
    go_wp2
    go_ret
    rw [HB.out]
    exact ⟨rfl, rfl⟩
end Go.Proofs.YtoimhjcpeifegaaGreatDoor


/- Shifts of lists of digits, place by place: plain facts. -/
namespace Go.Proofs.YtoimhjcpeifegaaGreatDoor

/-- Is there a number 2^n times V, as Shl counts? -/
def shlOk (V n : Int) : Bool := decide (0 ≤ n ∧ (V = 0 ∨ n ≤ 8388608 - (blen V.toNat : Nat)))
def shlNum (V n : Int) : Int := if shlOk V n then V * 2 ^ n.toNat else 0
/-- What Shr answers. -/
def shrNum (V n : Int) : Int := if 0 ≤ n then V / 2 ^ n.toNat else 0
def shrMore (V n : Int) : Bool := decide (0 ≤ n) && decide (V % 2 ^ n.toNat ≠ 0)

/-- What comes up from the place below. -/
def carryUp (b R : Int) (zs : List Int) (j : Nat) : Int := if j = 0 then 0 else zs[j - 1]?.getD 0 * R / b

theorem shl_step (b R : Int) (hb : 0 < b) (zs ys : List Int) (j : Nat) (hz : j < zs.length) (hy : j < ys.length)
    (E : val b (ys.drop (j + 1)) = R * val b (zs.drop (j + 1)) + carryUp b R zs (j + 1)) :
    val b ((ys.set j (zs[j]?.getD 0 * R % b + carryUp b R zs j)).drop j) = R * val b (zs.drop j) + carryUp b R zs j := by
  rw [val_drop b zs j hz, val_drop b (ys.set j _) j (by rw [List.length_set]; exact hy), List.getElem?_set_self hy, List.drop_set_of_lt (by omega), E]
  have e : carryUp b R zs (j + 1) = zs[j]?.getD 0 * R / b := by unfold carryUp; rw [if_neg (by omega)]; rfl
  rw [e]
  simp only [Option.getD_some]
  have h := Int.emod_add_mul_ediv (zs[j]?.getD 0 * R) b
  generalize zs[j]?.getD 0 * R / b = q at *
  generalize zs[j]?.getD 0 * R % b = r at *
  generalize hx : zs[j]?.getD 0 = x at *
  generalize val b (zs.drop (j + 1)) = Z at *
  generalize carryUp b R zs j = c at *
  have : r = x * R - b * q := by omega
  subst this
  grind

theorem shr_step (b R Q : Int) (hR : 0 < R) (hb : b = R * Q) (zs ys : List Int) (i : Nat) (hy : i < ys.length) (c0 : Int)
    (E : val b (ys.take i) * R + c0 = val b (zs.take i) + b ^ i * (zs[i]?.getD 0 % R)) :
    val b ((ys.set i (zs[i]?.getD 0 / R + zs[i + 1]?.getD 0 % R * Q)).take (i + 1)) * R + c0 = val b (zs.take (i + 1)) + b ^ (i + 1) * (zs[i + 1]?.getD 0 % R) := by
  rw [take_set_succ ys i _ hy, val_append, val_take_succ', Int.pow_succ, List.length_take, Nat.min_eq_left (by omega)]
  simp only [val, Int.mul_zero, Int.add_zero]
  have h := Int.emod_add_mul_ediv (zs[i]?.getD 0) R
  generalize zs[i]?.getD 0 = x at *
  generalize zs[i + 1]?.getD 0 % R = t at *
  generalize x / R = q at *
  generalize x % R = r at *
  generalize hP : b ^ i = P at *
  generalize val b (ys.take i) = Y at *
  generalize val b (zs.take i) = Z at *
  subst hb
  subst h
  grind
theorem split_div (lo P Z R : Int) (h0 : 0 ≤ lo) (h1 : lo < P) (hR : 0 < R) : (lo + P * Z) / (P * R) = Z / R ∧ (lo + P * Z) % (P * R) = lo + P * (Z % R) := by
  have hP : 0 < P := by omega
  have e : lo + P * Z = (lo + P * (Z % R)) + P * R * (Z / R) := by
    have := Int.emod_add_mul_ediv Z R
    generalize Z / R = q at *
    generalize Z % R = r at *
    subst this
    grind
  have b0 : 0 ≤ Z % R := Int.emod_nonneg _ (by omega)
  have b1 : Z % R + 1 ≤ R := Int.emod_lt_of_pos _ hR
  have c0 : 0 ≤ P * (Z % R) := Int.mul_nonneg (by omega) b0
  have c1 : P * (Z % R + 1) ≤ P * R := Int.mul_le_mul_of_nonneg_left b1 (by omega)
  rw [Int.mul_add] at c1
  have hPR : 0 < P * R := Int.mul_pos hP hR
  rw [e]
  constructor
  · rw [Int.add_mul_ediv_left _ _ (by omega), Int.ediv_eq_zero_of_lt (by omega) (by omega), Int.zero_add]
  · rw [Int.add_mul_emod_self_left, Int.emod_eq_of_lt (by omega) (by omega)]

end Go.Proofs.YtoimhjcpeifegaaGreatDoor


/- The operations on whole numbers of a kind and on texts, one law for each; loops. -/
namespace Go.Proofs.YtoimhjcpeifegaaGreatDoor
open Go Go.RowKit

theorem w_i64 {n : Int} (h : -9223372036854775808 ≤ n ∧ n < 9223372036854775808) : IntKind.i64.wrap n = n := by
  rw [IntKind.wrap_i64]; omega
theorem w_u64 {n : Int} (h : 0 ≤ n ∧ n < 18446744073709551616) : IntKind.u64.wrap n = n := by
  rw [IntKind.wrap_u64]; omega
section
variable {P : Program} {need : List (Tmp × FD)} {d : Option Tmp} {ty : TypeId} {pos : String} {af : Array Edge} {g : Option (Nat × Bool)} {x y : Operand} {k : IntKind} {i j r : Int} {t t' : TypeId}
theorem ok_add (h : Opd need x (.val (Lit (.int k i)))) (h' : Opd need y (.val (Lit (.int k j)))) (hr : k.wrap (i + j) = r) : OpOk P ⟨d, .binOp .add t x y t', ty, pos, af, g⟩ need (.val (Lit (.int k r))) false :=
  ok_lit2 h h' fun ρ w e1 e2 => by simp [execOp, e1, e2, eqGuard, binOp, Op.intArith, Sem.run_bind, hr]
theorem ok_sub (h : Opd need x (.val (Lit (.int k i)))) (h' : Opd need y (.val (Lit (.int k j)))) (hr : k.wrap (i - j) = r) : OpOk P ⟨d, .binOp .sub t x y t', ty, pos, af, g⟩ need (.val (Lit (.int k r))) false :=
  ok_lit2 h h' fun ρ w e1 e2 => by simp [execOp, e1, e2, eqGuard, binOp, Op.intArith, Sem.run_bind, hr]
theorem ok_conv {k' : IntKind} {q : TypeDesc} (hs : P.underlying t = some q) (ht : P.underlying t' = some (.int k')) (h : Opd need x (.val (Lit (.int k i)))) (hr : k'.wrap i = r) : OpOk P ⟨d, .convert t t' x, ty, pos, af, g⟩ need (.val (Lit (.int k' r))) false :=
  ok_lit1 h fun ρ w e1 => by
    simp [execOp, e1, convert, Sem.run_bind, run_underlying hs, run_underlying ht, Conv.intToInt, hr]
theorem ok_shr {k2 : IntKind} (h : Opd need x (.val (Lit (.int k i)))) (h' : Opd need y (.val (Lit (.int k2 j)))) (hj : 0 ≤ j) (hr : i.fdiv (2 ^ (min j.toNat k.bits)) = r) : OpOk P ⟨d, .binOp .shr t x y t', ty, pos, af, g⟩ need (.val (Lit (.int k r))) false :=
  ok_lit2 h h' fun ρ w e1 e2 => by
    have hn : ¬ j < 0 := by omega
    simp [execOp, e1, e2, eqGuard, binOp, Op.shift, Sem.run_bind, hr, hn]

end

section
variable {P : Program} {Q : Exit → Act → World → Prop} {N : Nat} {w0 : World} {B0 : Bx} {bxs : List Tmp}
/-- A loop: F p is what holds at the head of a round, and I p; the round leads to some q that is smaller. -/
theorem f_loop {α : Type} (F : α → List (Tmp × FD)) (I : α → Prop) (m : α → Nat) {c : Code} (p : α) {a : Act} {w : World} {B : Bx} (H : St N w0 B0 a w B (F p) bxs) (hI : I p)
    (round : ∀ (p : α) (a : Act) (w : World) (B : Bx), I p → St N w0 B0 a w B (F p) bxs → c.wp P (Exit.then (fun a w => ∃ (q : α) (B : Bx), I q ∧ St N w0 B0 a w B (F q) bxs ∧ m q < m p) Q) a w) : (Code.loop c).wp P Q a w := by
  classical
  let J : Act → World → Prop := fun a w => ∃ (p : α) (B : Bx), I p ∧ St N w0 B0 a w B (F p) bxs
  let S : Act → World → Nat → Prop := fun a w n => ∃ (p : α) (B : Bx), I p ∧ St N w0 B0 a w B (F p) bxs ∧ m p = n
  have low : ∀ a w, J a w → ∃ n, S a w n ∧ ∀ k, k < n → ¬ S a w k := fun a w ⟨p, B, h0, h⟩ => least_of (S a w) ⟨m p, p, B, h0, h, rfl⟩
  let μ : Act → World → Nat := fun a w => if h : J a w then Classical.choose (low a w h) else 0
  refine wp_loop J μ ⟨p, B, hI, H⟩ ?_
  intro a w hJ
  have hμ : μ a w = Classical.choose (low a w hJ) := dif_pos hJ
  obtain ⟨⟨p, B, h0, h1, h2⟩, _⟩ := Classical.choose_spec (low a w hJ)
  refine Code.wp_mono ?_ (round p a w B h0 h1)
  intro e a' w' he
  cases e with
  | normal =>
    obtain ⟨q, B', h5, h3, h4⟩ := he
    have hJ' : J a' w' := ⟨q, B', h5, h3⟩
    refine ⟨hJ', ?_⟩
    have hμ' : μ a' w' = Classical.choose (low a' w' hJ') := dif_pos hJ'
    have hmin := (Classical.choose_spec (low a' w' hJ')).2
    rw [hμ, hμ', ← h2]
    refine Nat.lt_of_le_of_lt ?_ h4
    rcases Nat.lt_or_ge (m q) (Classical.choose (low a' w' hJ')) with h6 | h6
    · exact absurd ⟨q, B', h5, h3, rfl⟩ (hmin _ h6)
    · exact h6
  | _ => exact he
/-- Back, more than one answer. -/
inductive RetOk (P : Program) (l : List (Tmp × FD)) : List ResultVar → List VP → Prop where
  | nil : RetOk P l [] []
  | tmp {s : Tmp} {D D' : VP} {rs : List ResultVar} {Ds : List VP} (k : Nat) (hk : l[k]? = some (s, .val D)) (hw : ∀ v w B, D.p v w B → D'.p v w B) (t : RetOk P l rs Ds) : RetOk P l (.tmp s :: rs) (D' :: Ds)
  | cell {s : Tmp} {t : TypeId} {n : Nat} {D D' : VP} {rs : List ResultVar} {Ds : List VP} (k : Nat) (T : TyOk P t n) (hk : l[k]? = some (s, .box t n D)) (hw : ∀ v w B, D.p v w B → D'.p v w B) (tl : RetOk P l rs Ds) : RetOk P l (.cell s t :: rs) (D' :: Ds)
def resF (ts : Array Value) : ResultVar → Sem Value
  | .tmp t => pure (ts.getD t undef)
  | .cell b t => do loadVar t (← asAddr (ts.getD b undef))
theorem RetOk.run {a : Act} {w : World} {B : Bx} {l : List (Tmp × FD)} {rs : List ResultVar} {Ds : List VP} (h : RetOk P l rs Ds) (hf : Fct a w B l) : ∃ vs, (rs.mapM (resF a.tmps)).run P w = .ok vs w ∧ VAll vs Ds w B := by
  induction h with
  | nil => exact ⟨[], rfl, trivial⟩
  | @tmp s D D' rs Ds k hk hw t ih =>
    obtain ⟨vs, h1, h2⟩ := ih
    refine ⟨a.tmps.getD s undef :: vs, ?_, hw _ _ _ (hf.get k hk), h2⟩
    simp only [List.mapM_cons, resF, Sem.run_bind, Sem.run_pure, Result.andThen_ok, h1]
  | @cell s t n D D' rs Ds k T hk hw tl ih =>
    obtain ⟨vs, h1, h2⟩ := ih
    obtain ⟨b, cs, e1, e2, e3, e4, e5, e6⟩ := hf.get k hk
    obtain ⟨dd, hu, hd⟩ := T.row
    have := run_loadVar_row (P := P) w b t t cs (0, 0) dd e4 hu (by cases dd <;> simp_all) (by rw [T.size, e5])
    refine ⟨.agg cs :: vs, ?_, hw _ _ _ e6, h2⟩
    have ha : asAddr (a.tmps.getD s undef) = pure ⟨b, 0, none⟩ := by rw [e1]; rfl
    simp only [List.mapM_cons, resF, Sem.run_bind, ha, Sem.run_pure, Result.andThen_ok, this, h1]
theorem f_retN {a : Act} {w : World} {B : Bx} {l : List (Tmp × FD)} {fn : Func} {rs : List ResultVar} {Ds : List VP} (H : St N w0 B0 a w B l bxs) (hr : fn.results = rs.toArray) (hn : decide (rs.length = 1) = false) (h : RetOk P l rs Ds) :
    bodyPost P fn (fun e w' => ∃ v, e = .returned v ∧ (Tup Ds).p v w' B0 ∧ Below w0.heap.size w0 w') .ret a w := by
  obtain ⟨vs, h1, h2⟩ := h.run H.fc
  have hl : rs.length = vs.length := by
    clear h1 hn hr
    have : ∀ {rs : List ResultVar} {Ds : List VP}, RetOk P l rs Ds → rs.length = Ds.length := by
      intro rs Ds h
      induction h with
      | nil => rfl
      | tmp _ _ _ _ ih => simp [ih]
      | cell _ _ _ _ _ ih => simp [ih]
    rw [this h]
    clear h this
    induction vs generalizing Ds with
    | nil => cases Ds with
      | nil => rfl
      | cons D Ds => exact h2.elim
    | cons v vs ih => cases Ds with
      | nil => exact h2.elim
      | cons D Ds => simp [ih h2.2]
  refine ⟨H.df, .tuple vs.toArray, ?_, _, rfl, ⟨vs, rfl, VAll.st (Mv.shrink H.own0) h2⟩, H.bel⟩
  have hu : results fn a.tmps = (do
      let vs ← rs.toArray.mapM (resF a.tmps)
      pure (if h : vs.size = 1 then vs[0] else .tuple vs)) := by
    unfold results
    rw [hr]
    rfl
  rw [hu, Sem.run_bind]
  have hm : (rs.toArray.mapM (resF a.tmps)).run P w = .ok vs.toArray w := by
    rw [List.mapM_toArray]
    simp [h1]
  rw [hm, Result.andThen_ok, Sem.run_pure]
  rw [dif_neg (by simpa [← hl] using of_decide_eq_false hn)]
/-- A bool of which something is known, by a letter. -/
theorem St.split {a : Act} {w : World} {B : Bx} {l : List (Tmp × FD)} (H : St N w0 B0 a w B l bxs) (k : Nat) {s : Tmp} {T F : Prop} (hk : l[k]? = some (s, .val (IsIf T F))) : ∃ r : Bool, (r = true → T) ∧ (r = false → F) ∧ St N w0 B0 a w B (l.set k (s, .val (IsB r))) bxs := by
  obtain ⟨r, e, h1, h2⟩ := H.fc.get k hk
  refine ⟨r, h1, h2, H.df, H.sz, Fct.of_all fun x hx => ?_, H.bx, H.ap, H.bel, H.own, H.own0⟩
  rcases List.mem_or_eq_of_mem_set hx with h | h
  · exact H.fc.all x h
  · subst h; exact e
end
end Go.Proofs.YtoimhjcpeifegaaGreatDoor

