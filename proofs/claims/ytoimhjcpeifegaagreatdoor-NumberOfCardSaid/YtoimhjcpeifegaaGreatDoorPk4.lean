/- Contracts of functions, and plain facts, part 4. -/
import Derived.Test.YtoimhjcpeifegaaGreatDoorProg
import Derived.Deep.QuietTactic
import Derived.BigQuiet
import Derived.Lib.BitFns
import Derived.Lib.Strings
import Derived.Lib.Slices
import Derived.Lib.Small
import Derived.Lib.Walk
import Derived.Test.YtoimhjcpeifegaaGreatDoorPk1
import Derived.Test.YtoimhjcpeifegaaGreatDoorPk2
set_option linter.unusedVariables false
set_option linter.unusedSimpArgs false
/- What is kept of memory. -/
namespace Go.Proofs.YtoimhjcpeifegaaGreatDoor
open Go.RowKit

theorem below_cell {w w1 : World} {B : Nat} (hb : Below B w w1) (hB : w.heap.size ≤ B) {a : Addr} {v : Value} (h : w.cell? a = some v) : w1.cell? a = some v := by
  have hl := World.block_lt_of_cell? w a h
  rw [World.cell?_of_block (hb.block a.block (Nat.lt_of_lt_of_le hl hB))]
  exact h

end Go.Proofs.YtoimhjcpeifegaaGreatDoor

/- What the calls hand back, in words. -/
namespace Go.Proofs.YtoimhjcpeifegaaGreatDoor
open Go.RowKit
/-- A list and a bool are handed back. -/
def RetLB (t : TypeId) (k : IntKind) (zs : List Int) (ok : Bool) (w : World) (e : Ending) (w' : World) : Prop :=
  ∃ ad n c, e = .returned (.tuple #[.slice ad n c, .bool ok]) ∧ Own w.heap.size w' t k ad n c zs ∧ Below w.heap.size w w'

/-- A list, a small number and a bool are handed back. -/
def RetLNB (t : TypeId) (k k2 : IntKind) (zs : List Int) (r : Int) (ok : Bool) (w : World) (e : Ending) (w' : World) : Prop :=
  ∃ ad n c, e = .returned (.tuple #[.slice ad n c, .int k2 r, .bool ok]) ∧ Own w.heap.size w' t k ad n c zs ∧ Below w.heap.size w w'

/-- An int is answered, some orders having been drawn. -/
def RetI (v : Int) (w : World) (e : Ending) (w' : World) : Prop := e = .returned (.int .i64 v) ∧ ∃ q, w' = w.drewN q

/-- An int is answered, nothing old has turned. -/
def RetIB (v : Int) (w : World) (e : Ending) (w' : World) : Prop := e = .returned (.int .i64 v) ∧ Below w.heap.size w w'

/-- A list and two bools are handed back. -/
def RetLBB (t : TypeId) (k : IntKind) (zs : List Int) (b1 b2 : Bool) (w : World) (e : Ending) (w' : World) : Prop :=
  ∃ ad n c, e = .returned (.tuple #[.slice ad n c, .bool b1, .bool b2]) ∧ Own w.heap.size w' t k ad n c zs ∧ Below w.heap.size w w'
end Go.Proofs.YtoimhjcpeifegaaGreatDoor

/- Bytes and limbs of one number; long multiplication with a carry that runs on: plain facts on lists. -/
namespace Go.Proofs.YtoimhjcpeifegaaGreatDoor

theorem pow4 (i : Nat) : (256 : Int) ^ (4 * i) = 4294967296 ^ i := by
  rw [Int.pow_mul]
  rfl

theorem val_snoc (b : Int) (xs : List Int) (y : Int) : val b (xs ++ [y]) = val b xs + b ^ xs.length * y := by
  rw [val_append]
  simp [val]

/-- A limb's bytes: k of them told, x is what is left. -/
theorem bytes_step (ds : List Int) (N : Nat) (hN : ds.length = N) (x V : Int) (hx : 0 ≤ x) (h : val 256 ds + 256 ^ N * x = V) :
    val 256 (ds ++ [x % 256]) + 256 ^ (N + 1) * (x / 256) = V := by
  rw [val_snoc, hN, Int.pow_succ]
  have := Int.emod_add_mul_ediv x 256
  generalize x / 256 = q at *
  generalize x % 256 = r at *
  generalize (256 : Int) ^ N = P at *
  generalize val 256 ds = v at *
  subst this
  grind

/-- limbs: the state behind the places from j on. -/
def LimbSt (ls out : List Int) (j : Nat) : Prop :=
  Dig 4294967296 out ∧ out.length = (ls.length + 3) / 4 ∧ (∀ q, q < j / 4 → out[q]?.getD 0 = 0) ∧ out[j / 4]?.getD 0 < 256 ^ (4 - j % 4) ∧
    val 256 (ls.drop j) = out[j / 4]?.getD 0 + 256 ^ (4 - j % 4) * val 4294967296 (out.drop (j / 4 + 1))

theorem getD_replicate (n j : Nat) : ((List.replicate n (0 : Int))[j]?).getD 0 = 0 := by
  rw [List.getElem?_replicate]
  split <;> rfl

theorem pow256_pos (n : Nat) : (0 : Int) < 256 ^ n := Int.pow_pos (by omega)

theorem limb_start (ls : List Int) : LimbSt ls (List.replicate ((ls.length + 3) / 4) 0) ls.length := by
  refine ⟨Dig.replicate _ (by omega) _, by simp, fun q _ => getD_replicate _ _, ?_, ?_⟩
  · rw [getD_replicate]
    exact pow256_pos _
  · rw [getD_replicate, List.drop_length, List.drop_replicate, val_replicate]
    simp [val]

theorem drop_ge (b : Int) (xs : List Int) (q : Nat) : val b (xs.drop q) = xs[q]?.getD 0 + b * val b (xs.drop (q + 1)) := by
  rcases Nat.lt_or_ge q xs.length with h | h
  · exact val_drop b xs q h
  · rw [List.drop_of_length_le h, List.drop_of_length_le (by omega), List.getElem?_eq_none h]
    simp [val]

theorem limb_step (ls out : List Int) (j : Nat) (hj : j < ls.length) (hl : Dig 256 ls) (h : LimbSt ls out (j + 1)) :
    0 ≤ out[j / 4]?.getD 0 * 256 ∧ out[j / 4]?.getD 0 * 256 + ls[j]?.getD 0 ≤ 4294967295 ∧ j / 4 < out.length ∧ LimbSt ls (out.set (j / 4) (out[j / 4]?.getD 0 * 256 + ls[j]?.getD 0)) j := by
  obtain ⟨h1, h2, h3, h4, h5⟩ := h
  have hd := hl.get (by omega) j
  have ho := h1.get (by omega) (j / 4)
  have hq : j / 4 < out.length := by omega
  have hv := val_drop 256 ls j hj
  rw [h5] at hv
  generalize hD : ls[j]?.getD 0 = d at *
  have key : out[j / 4]?.getD 0 * 256 + d < 256 ^ (4 - j % 4) ∧ val 256 (ls.drop j) = (out[j / 4]?.getD 0 * 256 + d) + 256 ^ (4 - j % 4) * val 4294967296 (out.drop (j / 4 + 1)) := by
    by_cases hr : j % 4 = 3
    · have e1 : (j + 1) / 4 = j / 4 + 1 := by omega
      have e2 : (j + 1) % 4 = 0 := by omega
      have hz := h3 (j / 4) (by omega)
      rw [e1, e2] at hv
      have e3 := drop_ge 4294967296 out (j / 4 + 1)
      rw [hz, hr]
      refine ⟨by simp; omega, ?_⟩
      rw [hv, e3]
      simp
    · have e1 : (j + 1) / 4 = j / 4 := by omega
      have e2 : 4 - j % 4 = (4 - (j + 1) % 4) + 1 := by omega
      rw [e1] at hv h4
      rw [e2, Int.pow_succ]
      generalize 4 - (j + 1) % 4 = s at *
      generalize out[j / 4]?.getD 0 = o at *
      generalize val 4294967296 (out.drop (j / 4 + 1)) = R at *
      generalize (256 : Int) ^ s = P at *
      refine ⟨by omega, ?_⟩
      rw [hv]
      grind
  have hP : (256 : Int) ^ (4 - j % 4) ≤ 4294967296 := by
    have : ∀ s : Nat, s < 4 → (256 : Int) ^ (4 - s) ≤ 4294967296 := by decide
    exact this _ (by omega)
  refine ⟨by omega, by omega, hq, h1.set (by omega) (by omega) _, by simp [h2], fun q hq' => ?_, ?_, ?_⟩
  · rw [List.getElem?_set_ne (by omega)]
    exact h3 q (by omega)
  · rw [List.getElem?_set_self hq]
    exact key.1
  · rw [List.getElem?_set_self hq, List.drop_set_of_lt (by omega)]
    exact key.2

theorem val_ge {b : Int} (hb : 0 < b) : ∀ {xs : List Int}, Dig b xs → norm xs = xs → xs ≠ [] → b ^ (xs.length - 1) ≤ val b xs
  | [x], h, hn, _ => by
    have h0 := h.head
    have : x ≠ 0 := by
      rintro rfl
      simp [norm] at hn
    simp [val]
    omega
  | x :: y :: ys, h, hn, _ => by
    have h0 := h.head
    have hn' : norm (y :: ys) = y :: ys := by
      have hn1 := hn
      rw [norm] at hn1
      split at hn1
      · cases hn1
      · simpa using hn1
    have ih := val_ge hb h.tail hn' (by simp)
    have : b * b ^ ((y :: ys).length - 1) ≤ b * val b (y :: ys) := Int.mul_le_mul_of_nonneg_left ih (Int.le_of_lt hb)
    rw [val]
    have e : b ^ ((x :: y :: ys).length - 1) = b * b ^ ((y :: ys).length - 1) := by
      simp only [List.length_cons, Nat.add_sub_cancel]
      rw [Int.pow_succ, Int.mul_comm]
    rw [e]
    omega

theorem val_lt_norm {b : Int} (hb : 0 < b) {xs : List Int} (h : Dig b xs) (hn : norm xs ≠ xs) : val b xs < b ^ (xs.length - 1) := by
  have hl := norm_length_le xs
  have hne : (norm xs).length ≠ xs.length := fun e => hn (by rw [norm_take, e, List.take_length])
  have := val_lt hb (norm_dig h)
  rw [val_norm] at this
  exact Int.lt_of_lt_of_le this (pow_le (by omega) (by omega))

theorem limb_end (ls out : List Int) (hl : Dig 256 ls) (hn : norm ls = ls) (h : LimbSt ls out 0) : out = dg 4294967296 (val 256 ls) := by
  obtain ⟨h1, h2, _, _, h5⟩ := h
  have e : val 4294967296 out = val 256 ls := by
    have := drop_ge 4294967296 out 0
    simp only [List.drop_zero, Nat.zero_div, Nat.zero_mod, Nat.zero_add] at this h5
    rw [this, h5]
    rfl
  have hno : norm out = out := by
    by_cases hno : norm out = out
    · exact hno
    · exfalso
      have hlt := val_lt_norm (by omega) h1 hno
      by_cases h0 : ls = []
      · subst h0
        simp at h2
        subst h2
        exact hno rfl
      · have hge := val_ge (by omega) hl hn h0
        rw [e, h2, ← pow4] at hlt
        have hlen : 0 < ls.length := List.length_pos_iff.2 h0
        have : (256 : Int) ^ (4 * ((ls.length + 3) / 4 - 1)) ≤ 256 ^ (ls.length - 1) := pow_le (by omega) (by omega)
        omega
  have := norm_eq 4294967296 (by omega) h1
  rw [hno] at this
  rw [this]
  exact congrArg (dg 4294967296) e

/-- A carry that runs on has its place. -/
theorem carry_place (b : Int) (hb : 1 < b) (xs zs ys : List Int) (i k : Nat) (c : Int) (hx : Dig b xs) (hz : Dig b zs) (hy : Dig b ys) (hc : 0 < c) (hi : i < xs.length)
    (E : val b ys + c * b ^ k = val b (xs.take (i + 1)) * val b zs) : k < i + 1 + zs.length := by
  rcases Nat.lt_or_ge k (i + 1 + zs.length) with h | h
  · exact h
  · exfalso
    have h1 := val_lt (by omega) (hx.take (i + 1))
    have h2 := val_lt (by omega) hz
    have h3 := val_nonneg (by omega) (hx.take (i + 1))
    have h4 := val_nonneg (by omega) hz
    have h5 := val_nonneg (by omega) hy
    rw [List.length_take, Nat.min_eq_left (by omega)] at h1
    have h6 : b ^ (i + 1 + zs.length) ≤ b ^ k := pow_le (by omega) h
    have h7 : b ^ k ≤ c * b ^ k := by
      have : 1 * b ^ k ≤ c * b ^ k := Int.mul_le_mul_of_nonneg_right (by omega) (Int.le_of_lt (Int.pow_pos (by omega)))
      omega
    have h8 : val b (xs.take (i + 1)) * val b zs < b ^ (i + 1) * b ^ zs.length := by
      have a1 : val b (xs.take (i + 1)) * val b zs ≤ val b (xs.take (i + 1)) * b ^ zs.length := Int.mul_le_mul_of_nonneg_left (by omega) h3
      have a2 : val b (xs.take (i + 1)) * b ^ zs.length < b ^ (i + 1) * b ^ zs.length := Int.mul_lt_mul_of_pos_right h1 (Int.pow_pos (by omega))
      omega
    rw [← Int.pow_add] at h8
    omega

theorem mul_outer_carry (B : Int) (xs zs ys : List Int) (i n : Nat) (hi : i < xs.length) (hn : n = zs.length) (c : Int)
    (E : val B ys + c * B ^ (i + n) = val B (xs.take i) * val B zs + xs[i]?.getD 0 * B ^ i * val B (zs.take n)) :
    val B ys + c * B ^ (i + n) = val B (xs.take (i + 1)) * val B zs := by
  rw [E, val_take_succ B xs i hi, hn, List.take_length]
  generalize xs[i]?.getD 0 = x at *
  generalize val B (xs.take i) = X at *
  generalize val B zs = Z at *
  generalize B ^ i = P at *
  grind
end Go.Proofs.YtoimhjcpeifegaaGreatDoor

/- nat.cut: what the call answers. -/
namespace Go.Proofs.YtoimhjcpeifegaaGreatDoor
open Go.RowKit

theorem info_limb : (Tryz.prog.info? 23).map (fun i => (i.zero, i.size, i.bytes)) = some (some (.int .u32 0), 1, 4) := by kernel_rfl

/-- nat.cut: the list without noughts at its end, and without room behind it. -/
theorem cut_calls (ad : Option Addr) (n c : Nat) (xs : List Int) (w : World) (hn : n ≤ 9223372036854775807) (hnc : n ≤ c) (hr : Rds w .u32 ad n xs) :
    Calls Tryz.prog 124 #[.slice ad n c] w fun e w' => e = .returned (.slice ad (norm xs).length (norm xs).length) ∧ w = w' := by
  have HL := Lib.hid hr.len
  go_enter Tryz.func124, Tryz.ntmps124
  go_wp2
  go_loop [3] (fun i => ∃ k : Nat, k ≤ n ∧ i = .int .i64 k ∧ Hid (∀ j, k ≤ j → xs[j]?.getD 0 = 0)) (fun i => (intOf i).toNat)
  case atStart => exact ⟨n, Nat.le_refl _, rfl, fun j hj => by rw [List.getElem?_eq_none (by rw [HL.out]; exact hj)]; rfl⟩
  case round =>
    obtain ⟨k, hk, rfl, hz⟩ := hrel
    have hkc : k ≤ c := by omega
    by_cases h0 : 0 < k
    · obtain ⟨a, rfl, hcell⟩ := hr.cell (k - 1) (by omega)
      clear hr
      go_wp2
      · rename_i hb
        go_round
        case rel =>
          refine ⟨k - 1, by omega, by congr 1; omega, fun j hj => ?_⟩
          by_cases e : j = k - 1
          · subst e; simpa using hb
          · exact hz.out j (by omega)
        case measure => simp [intOf]; omega
      · have hb : (xs[k - 1]?.getD 0 == 0) = false := by assumption
        have e := norm_stop xs k (by rw [HL.out]; omega) hz.out (.inr (by simpa using hb))
        have e2 : (norm xs).length = k := by rw [e, List.length_take, HL.out]; omega
        go_ret
        rw [e2]
        exact ⟨rfl, rfl⟩
    · obtain rfl : k = 0 := by omega
      have E := Lib.hid (show (norm xs).length = 0 by rw [norm_stop xs 0 (Nat.zero_le _) hz.out (.inl rfl)]; rfl)
      go_wp2
      go_ret
      rw [E.out]
      exact ⟨rfl, rfl⟩

end Go.Proofs.YtoimhjcpeifegaaGreatDoor

/- math/bits.Add32: the sum and what is carried. -/
namespace Go.Proofs.YtoimhjcpeifegaaGreatDoor
open Go.RowKit
theorem add32_calls (x y c : Int) (w : World) (hx : 0 ≤ x ∧ x < 4294967296) (hy : 0 ≤ y ∧ y < 4294967296) (hc : 0 ≤ c ∧ c < 4294967296) :
    Calls Tryz.prog 165 #[.int .u32 x, .int .u32 y, .int .u32 c] w fun e w' => e = .returned (.tuple #[.int .u32 ((x + y + c) % 4294967296), .int .u32 ((x + y + c) / 4294967296)]) ∧ w = w' := by
  obtain ⟨hx0, hx1⟩ := hx
  obtain ⟨hy0, hy1⟩ := hy
  obtain ⟨hc0, hc1⟩ := hc
  go_enter Tryz.func165, Tryz.ntmps165
  go_wp2
  go_ret2
  exact ⟨rfl, rfl⟩
end Go.Proofs.YtoimhjcpeifegaaGreatDoor

/- cmp.Compare of ints and of limbs. -/
namespace Go.Proofs.YtoimhjcpeifegaaGreatDoor
open Go.RowKit
theorem compare_int (x y : Int) (w : World) :
    Calls Tryz.prog 162 #[.int .i64 x, .int .i64 y] w fun e w' => e = .returned (.int .i64 (cmpI x y)) ∧ w = w' := by
  rcases Int.lt_trichotomy x y with h | h | h
  · have H := Lib.hid (cmpI_lt h)
    go_enter Tryz.func162, Tryz.ntmps162
    go_wp2
    go_ret
    rw [H.out]
    exact ⟨rfl, rfl⟩
  · have H := Lib.hid (cmpI_eq h)
    subst h
    go_enter Tryz.func162, Tryz.ntmps162
    go_wp2
    go_ret
    rw [H.out]
    exact ⟨rfl, rfl⟩
  · have H := Lib.hid (cmpI_gt h)
    have h2 : ¬ x < y := by omega
    go_enter Tryz.func162, Tryz.ntmps162
    go_wp2
    go_ret
    rw [H.out]
    exact ⟨rfl, rfl⟩
theorem compare_u32 (x y : Int) (w : World) :
    Calls Tryz.prog 163 #[.int .u32 x, .int .u32 y] w fun e w' => e = .returned (.int .i64 (cmpI x y)) ∧ w = w' := by
  rcases Int.lt_trichotomy x y with h | h | h
  · have H := Lib.hid (cmpI_lt h)
    go_enter Tryz.func163, Tryz.ntmps163
    go_wp2
    go_ret
    rw [H.out]
    exact ⟨rfl, rfl⟩
  · have H := Lib.hid (cmpI_eq h)
    subst h
    go_enter Tryz.func163, Tryz.ntmps163
    go_wp2
    go_ret
    rw [H.out]
    exact ⟨rfl, rfl⟩
  · have H := Lib.hid (cmpI_gt h)
    have h2 : ¬ x < y := by omega
    go_enter Tryz.func163, Tryz.ntmps163
    go_wp2
    go_ret
    rw [H.out]
    exact ⟨rfl, rfl⟩
end Go.Proofs.YtoimhjcpeifegaaGreatDoor

/- math/bits.Sub32: the difference and what is borrowed. -/
namespace Go.Proofs.YtoimhjcpeifegaaGreatDoor
open Go.RowKit

theorem bv_lit (x : BitVec 32) : x.msb = decide (2147483648 ≤ x.toNat) := by
  rw [BitVec.msb_eq_decide]
theorem sub32_borrow (x y b : Nat) (hx : x < 4294967296) (hy : y < 4294967296) (hb : b ≤ 1) (D : BitVec 32) (hD : (D.toNat : Int) = ((x : Int) - y - b) % 4294967296) :
    ((~~~ (BitVec.ofNat 32 x) &&& BitVec.ofNat 32 y) ||| (~~~ (BitVec.ofNat 32 x ^^^ BitVec.ofNat 32 y) &&& D)).msb = decide (x < y + b) := by
  simp only [BitVec.msb_or, BitVec.msb_and, BitVec.msb_not, BitVec.msb_xor]
  simp only [bv_lit, BitVec.toNat_ofNat, Nat.mod_eq_of_lt (show x < 2 ^ 32 by omega), Nat.mod_eq_of_lt (show y < 2 ^ 32 by omega)]
  have hd : D.toNat < 4294967296 := D.isLt
  generalize D.toNat = d at *
  by_cases h1 : 2147483648 ≤ x <;> by_cases h2 : 2147483648 ≤ y <;> by_cases h3 : 2147483648 ≤ d <;> simp [h1, h2, h3] <;> omega

/-- What is borrowed. -/
def brw (x y b : Int) : Int := if x < y + b then 1 else 0

theorem bits_bv (op : BinOp) (X Y : BitVec 32) (f : BitVec 32 → BitVec 32 → BitVec 32) (h : ∀ a b : Int, bits op .u32 a b = IntKind.u32.wrap ((f (BitVec.ofInt 32 a) (BitVec.ofInt 32 b)).toNat : Int)) :
    bits op .u32 (X.toNat : Int) (Y.toNat : Int) = ((f X Y).toNat : Int) := by
  have e1 : BitVec.ofInt 32 (X.toNat : Int) = X := by simp
  have e2 : BitVec.ofInt 32 (Y.toNat : Int) = Y := by simp
  rw [h, e1, e2, IntKind.wrap_u32]
  have := (f X Y).isLt
  omega

theorem sub32_bits (x y b : Int) (hx0 : 0 ≤ x) (hx1 : x < 4294967296) (hy0 : 0 ≤ y) (hy1 : y < 4294967296) (hb0 : 0 ≤ b) (hb1 : b ≤ 1) :
    bits .or .u32 (bits .and .u32 (bits .xor .u32 IntKind.u32.max x) y) (bits .and .u32 (bits .xor .u32 IntKind.u32.max (bits .xor .u32 x y)) ((x - y - b) % 4294967296)) / 2147483648 = brw x y b := by
  obtain ⟨x, rfl⟩ := Int.eq_ofNat_of_zero_le hx0
  obtain ⟨y, rfl⟩ := Int.eq_ofNat_of_zero_le hy0
  obtain ⟨b, rfl⟩ := Int.eq_ofNat_of_zero_le hb0
  obtain ⟨d, hd⟩ := Int.eq_ofNat_of_zero_le (show 0 ≤ ((x : Int) - y - b) % 4294967296 by omega)
  have hdl : d < 4294967296 := by omega
  have ex : ((BitVec.ofNat 32 x).toNat : Int) = x := by rw [BitVec.toNat_ofNat]; omega
  have ey : ((BitVec.ofNat 32 y).toNat : Int) = y := by rw [BitVec.toNat_ofNat]; omega
  have ed : ((BitVec.ofNat 32 d).toNat : Int) = d := by rw [BitVec.toNat_ofNat]; omega
  have em : (((BitVec.allOnes 32).toNat : Nat) : Int) = IntKind.u32.max := by decide
  have B := sub32_borrow x y b (by omega) (by omega) (by omega) (BitVec.ofNat 32 d) (by rw [ed, ← hd])
  rw [hd, ← ex, ← ey, ← ed, ← em]
  rw [bits_bv .xor _ _ (· ^^^ ·) (fun _ _ => rfl), bits_bv .xor _ _ (· ^^^ ·) (fun _ _ => rfl), bits_bv .and _ _ (· &&& ·) (fun _ _ => rfl), bits_bv .xor _ _ (· ^^^ ·) (fun _ _ => rfl), bits_bv .and _ _ (· &&& ·) (fun _ _ => rfl),
    bits_bv .or _ _ (· ||| ·) (fun _ _ => rfl)]
  simp only [BitVec.allOnes_xor]
  rw [bv_lit] at B
  have hlt := (~~~BitVec.ofNat 32 x &&& BitVec.ofNat 32 y ||| ~~~(BitVec.ofNat 32 x ^^^ BitVec.ofNat 32 y) &&& BitVec.ofNat 32 d).isLt
  generalize (~~~BitVec.ofNat 32 x &&& BitVec.ofNat 32 y ||| ~~~(BitVec.ofNat 32 x ^^^ BitVec.ofNat 32 y) &&& BitVec.ofNat 32 d).toNat = v at *
  unfold brw
  rw [ex, ey]
  have B' := decide_eq_decide.1 B
  split <;> omega

theorem sub32_calls (x y b : Int) (w : World) (hx : 0 ≤ x ∧ x < 4294967296) (hy : 0 ≤ y ∧ y < 4294967296) (hb : 0 ≤ b ∧ b ≤ 1) :
    Calls Tryz.prog 184 #[.int .u32 x, .int .u32 y, .int .u32 b] w fun e w' => e = .returned (.tuple #[.int .u32 ((x - y - b) % 4294967296), .int .u32 (brw x y b)]) ∧ w = w' := by
  obtain ⟨hx0, hx1⟩ := hx
  obtain ⟨hy0, hy1⟩ := hy
  obtain ⟨hb0, hb1⟩ := hb
  have HB := Lib.hid (sub32_bits x y b hx0 hx1 hy0 hy1 hb0 hb1)
  go_enter Tryz.func184, Tryz.ntmps184
  go_wp2
  go_ret2
  refine ⟨?_, rfl⟩
  rw [← HB.out]
  rfl
end Go.Proofs.YtoimhjcpeifegaaGreatDoor

/- math/bits.Len32: how many bits a limb has. -/
namespace Go.Proofs.YtoimhjcpeifegaaGreatDoor
open Go.RowKit
set_option maxHeartbeats 4000000 in
set_option maxRecDepth 100000 in
theorem len32_calls (x : Int) (w : World) (h0 : 0 ≤ x) (h1 : x ≤ 4294967295) :
    Calls Tryz.prog 138 #[.int .u32 x] w fun e w' => e = .returned (.int .i64 (Lib.bitLen x.toNat)) ∧ w = w' := by
  have u9 := Tryz.underlying9
  have hx : ∀ i : Int, 0 ≤ i → i ≤ 255 → ∀ w : World, (Instr.index 9 (.string Lib.len8tab) (.int .u8 i)).run Tryz.prog w = .ok (.int .u8 (Lib.len8 i)) w := fun i h0 h1 w => Lib.run_index_len8tab _ _ _ _ u9 h0 h1
  have x1 := hx (x / 65536 / 256) (by omega) (by omega)
  have x2 : x / 65536 < 256 → _ := fun h => hx (x / 65536) (by omega) (by omega)
  have x3 : x < 65536 → _ := fun h => hx (x / 256) (by omega) (by omega)
  have x4 : x < 256 → _ := fun h => hx x (by omega) (by omega)
  clear hx
  go_enter Tryz.func138, Tryz.ntmps138
  go_wp2
  all_goals (go_ret; refine ⟨congrArg Ending.returned (congrArg (Value.int IntKind.i64) ?_), rfl⟩)
  all_goals first
    | (rw [Lib.len8_of (x / 65536 / 256) (by omega) (by omega)]
       have e : (x / 65536 / 256).toNat = x.toNat / 16777216 := by omega
       have l := Lib.bitLen_le8' (x / 65536 / 256) (by omega) (by omega)
       have s := Lib.bitLen_shift24 x.toNat (by omega) (by omega)
       rw [e] at l ⊢
       unfold wrap64
       omega)
    | (rw [Lib.len8_of (x / 65536) (by omega) (by omega)]
       have e : (x / 65536).toNat = x.toNat / 65536 := by omega
       have l := Lib.bitLen_le8' (x / 65536) (by omega) (by omega)
       have s := Lib.bitLen_shift16 x.toNat (by omega) (by omega)
       rw [e] at l ⊢
       unfold wrap64
       omega)
    | (rw [Lib.len8_of (x / 256) (by omega) (by omega)]
       have e : (x / 256).toNat = x.toNat / 256 := by omega
       have l := Lib.bitLen_le8' (x / 256) (by omega) (by omega)
       have s := Lib.bitLen_shift8 x.toNat (by omega) (by omega)
       rw [e] at l ⊢
       unfold wrap64
       omega)
    | (rw [Lib.len8_of x (by omega) (by omega)]
       have l := Lib.bitLen_le8' x (by omega) (by omega)
       unfold wrap64
       omega)
end Go.Proofs.YtoimhjcpeifegaaGreatDoor

/- crucibleref01.power: 2 to the n. -/
namespace Go.Proofs.YtoimhjcpeifegaaGreatDoor
open Go.RowKit

theorem power_calls (n : Nat) (h : n < 8) (w : World) :
    Calls Tryz.prog 175 #[.int .i64 n] w fun e w' => e = .returned (.int .i64 (2 ^ n)) ∧ w = w' := by
  have hix : ∀ w, (Instr.index 221 (.agg #[.int .i64 1, .int .i64 2, .int .i64 4, .int .i64 8, .int .i64 16, .int .i64 32, .int .i64 64, .int .i64 128]) (.int .i64 n)).run Tryz.prog w = .ok (.int .i64 (2 ^ n)) w := by
    intro w
    rcases (show n = 0 ∨ n = 1 ∨ n = 2 ∨ n = 3 ∨ n = 4 ∨ n = 5 ∨ n = 6 ∨ n = 7 by omega) with rfl | rfl | rfl | rfl | rfl | rfl | rfl | rfl <;> kernel_rfl
  go_enter Tryz.func175, Tryz.ntmps175
  go_wp2
  go_ret
  exact ⟨rfl, rfl⟩
end Go.Proofs.YtoimhjcpeifegaaGreatDoor

/- Printed by ieee2.py. -/
namespace Go.Proofs.YtoimhjcpeifegaaGreatDoor
open Go.RowKit

theorem compare_T64 (x y : Int) (w : World) :
    Calls Tryz.prog 160 #[.int .u64 x, .int .u64 y] w fun e w' => e = .returned (.int .i64 (cmpI x y)) ∧ w = w' := by
  rcases Int.lt_trichotomy x y with h | h | h
  · skip
    have H := Lib.hid (cmpI_lt h)
    go_enter Tryz.func160, Tryz.ntmps160
    go_wp2
    go_ret
    rw [H.out]
    exact ⟨rfl, rfl⟩
  · skip
    have H := Lib.hid (cmpI_eq h)
    subst h
    go_enter Tryz.func160, Tryz.ntmps160
    go_wp2
    go_ret
    rw [H.out]
    exact ⟨rfl, rfl⟩
  · skip
    have H := Lib.hid (cmpI_gt h)
    have h2 : ¬ x < y := by omega
    go_enter Tryz.func160, Tryz.ntmps160
    go_wp2
    go_ret
    rw [H.out]
    exact ⟨rfl, rfl⟩
end Go.Proofs.YtoimhjcpeifegaaGreatDoor
