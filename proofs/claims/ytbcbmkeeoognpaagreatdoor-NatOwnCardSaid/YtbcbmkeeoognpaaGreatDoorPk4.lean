/- Contracts of functions, and plain facts, part 4. -/
import Derived.Test.YtbcbmkeeoognpaaGreatDoorProg
import Derived.Deep.QuietTactic
import Derived.BigQuiet
import Derived.Lib.BitFns
import Derived.Lib.Strings
import Derived.Lib.Slices
import Derived.Lib.Small
import Derived.Lib.Walk
import Derived.Laws.IdiomStrings
import Derived.Laws.BytesArg
import Derived.Lib.AppendZerosOnto
import Derived.Laws.AppendOwnNone
import Derived.Maps.AppendAt
import Derived.Lib.TrailingZeros
import Derived.Laws.Bits64b
import Derived.Laws.BitsAllLaws
import Derived.Test.YtbcbmkeeoognpaaGreatDoorPk1
set_option linter.unusedVariables false
set_option linter.unusedSimpArgs false
/- What is kept of memory. -/
namespace Go.Proofs.YtbcbmkeeoognpaaGreatDoor
open Go.RowKit

theorem below_cell {w w1 : World} {B : Nat} (hb : Below B w w1) (hB : w.heap.size ≤ B) {a : Addr} {v : Value} (h : w.cell? a = some v) : w1.cell? a = some v := by
  have hl := World.block_lt_of_cell? w a h
  rw [World.cell?_of_block (hb.block a.block (Nat.lt_of_lt_of_le hl hB))]
  exact h

end Go.Proofs.YtbcbmkeeoognpaaGreatDoor


/- What the calls hand back, in words. -/
namespace Go.Proofs.YtbcbmkeeoognpaaGreatDoor
open Go.RowKit
/-- A list and a bool are handed back. -/
def RetLB (t : TypeId) (k : IntKind) (zs : List Int) (ok : Bool) (w : World) (e : Ending) (w' : World) : Prop :=
  ∃ ad n c, e = .returned (.tuple #[.slice ad n c, .bool ok]) ∧ Own w.heap.size w' t k ad n c zs ∧ Below w.heap.size w w'

/-- A list, a small number and a bool are handed back. -/
def RetLNB (t : TypeId) (k k2 : IntKind) (zs : List Int) (r : Int) (ok : Bool) (w : World) (e : Ending) (w' : World) : Prop :=
  ∃ ad n c, e = .returned (.tuple #[.slice ad n c, .int k2 r, .bool ok]) ∧ Own w.heap.size w' t k ad n c zs ∧ Below w.heap.size w w'

/-- An int is answered, some orders having been drawn. -/
def RetI (v : Int) (w : World) (e : Ending) (w' : World) : Prop := e = .returned (.int .i64 v) ∧ ∃ q, w' = w.drewN q

/-- A list and two bools are handed back. -/
def RetLBB (t : TypeId) (k : IntKind) (zs : List Int) (b1 b2 : Bool) (w : World) (e : Ending) (w' : World) : Prop :=
  ∃ ad n c, e = .returned (.tuple #[.slice ad n c, .bool b1, .bool b2]) ∧ Own w.heap.size w' t k ad n c zs ∧ Below w.heap.size w w'
end Go.Proofs.YtbcbmkeeoognpaaGreatDoor


/- Bytes and limbs of one number; long multiplication with a carry that runs on: plain facts on lists. -/
namespace Go.Proofs.YtbcbmkeeoognpaaGreatDoor

theorem getD_replicate (n j : Nat) : ((List.replicate n (0 : Int))[j]?).getD 0 = 0 := by
  rw [List.getElem?_replicate]
  split <;> rfl

theorem val_ge {b : Int} (hb : 0 < b) : ∀ {xs : List Int}, Dig b xs → norm xs = xs → xs ≠ [] → b ^ (xs.length - 1) ≤ val b xs
  | [x], h, hn, _ => by
    have h0 := h.head
    have : x ≠ 0 := by
      rintro rfl
      simp [norm] at hn
    simp [val]
    omega
  | x :: y :: ys, h, hn, _ => by
    have h0 := h.head
    have hn' : norm (y :: ys) = y :: ys := by
      have hn1 := hn
      rw [norm] at hn1
      split at hn1
      · cases hn1
      · simpa using hn1
    have ih := val_ge hb h.tail hn' (by simp)
    have : b * b ^ ((y :: ys).length - 1) ≤ b * val b (y :: ys) := Int.mul_le_mul_of_nonneg_left ih (Int.le_of_lt hb)
    rw [val]
    have e : b ^ ((x :: y :: ys).length - 1) = b * b ^ ((y :: ys).length - 1) := by
      simp only [List.length_cons, Nat.add_sub_cancel]
      rw [Int.pow_succ, Int.mul_comm]
    rw [e]
    omega

end Go.Proofs.YtbcbmkeeoognpaaGreatDoor


/- nat.cut: what the call answers. -/
namespace Go.Proofs.YtbcbmkeeoognpaaGreatDoor
open Go.RowKit

theorem info_limb : (Tryz.prog.info? 44).map (fun i => (i.zero, i.size, i.bytes)) = some (some (.int .u32 0), 1, 4) := by kernel_rfl

/-- nat.cut: the list without noughts at its end, and without room behind it. -/
theorem cut_calls (ad : Option Addr) (n c : Nat) (xs : List Int) (w : World) (hn : n ≤ 9223372036854775807) (hnc : n ≤ c) (hr : Rds w .u32 ad n xs) :
    Calls Tryz.prog 159 #[.slice ad n c] w fun e w' => e = .returned (.slice ad (norm xs).length (norm xs).length) ∧ w = w' := by
  have HL := Lib.hid hr.len
  go_enter Tryz.func159, Tryz.ntmps159
  go_wp2
  go_loop [3] (fun i => ∃ k : Nat, k ≤ n ∧ i = .int .i64 k ∧ Hid (∀ j, k ≤ j → xs[j]?.getD 0 = 0)) (fun i => (intOf i).toNat)
  case atStart => exact ⟨n, Nat.le_refl _, rfl, fun j hj => by rw [List.getElem?_eq_none (by rw [HL.out]; exact hj)]; rfl⟩
  case round =>
    obtain ⟨k, hk, rfl, hz⟩ := hrel
    have hkc : k ≤ c := by omega
    by_cases h0 : 0 < k
    · obtain ⟨a, rfl, hcell⟩ := hr.cell (k - 1) (by omega)
      clear hr
      go_wp2
      · rename_i hb
        go_round
        case rel =>
          refine ⟨k - 1, by omega, by congr 1; omega, fun j hj => ?_⟩
          by_cases e : j = k - 1
          · subst e; simpa using hb
          · exact hz.out j (by omega)
        case measure => simp [intOf]; omega
      · have hb : (xs[k - 1]?.getD 0 == 0) = false := by assumption
        have e := norm_stop xs k (by rw [HL.out]; omega) hz.out (.inr (by simpa using hb))
        have e2 : (norm xs).length = k := by rw [e, List.length_take, HL.out]; omega
        go_ret
        rw [e2]
        exact ⟨rfl, rfl⟩
    · obtain rfl : k = 0 := by omega
      have E := Lib.hid (show (norm xs).length = 0 by rw [norm_stop xs 0 (Nat.zero_le _) hz.out (.inl rfl)]; rfl)
      go_wp2
      go_ret
      rw [E.out]
      exact ⟨rfl, rfl⟩

end Go.Proofs.YtbcbmkeeoognpaaGreatDoor


/- math/bits.Div32: two limbs divided by one that is greater than the high one. -/
namespace Go.Proofs.YtbcbmkeeoognpaaGreatDoor
open Go.RowKit
theorem or_low (h l : Int) (hh : 0 ≤ h ∧ h < 4294967296) (hl : 0 ≤ l ∧ l < 4294967296) : bits .or .u64 (h * 4294967296) l = h * 4294967296 + l := by
  obtain ⟨h, rfl⟩ := Int.eq_ofNat_of_zero_le hh.1
  obtain ⟨l, rfl⟩ := Int.eq_ofNat_of_zero_le hl.1
  have e : ((h : Int) * 4294967296) = ((h * 4294967296 : Nat) : Int) := by simp
  rw [e, bits_or_u64_nat _ _ (by omega) (by omega), nat_join 32 _ _ (by omega) (by omega)]
  omega

theorem div32_calls (x y d : Int) (w : World) (hx : 0 ≤ x ∧ x < d) (hy : 0 ≤ y ∧ y < 4294967296) (hd : 0 < d ∧ d < 4294967296) :
    Calls Tryz.prog 163 #[.int .u32 x, .int .u32 y, .int .u32 d] w fun e w' =>
      e = .returned (.tuple #[.int .u32 ((x * 4294967296 + y) / d), .int .u32 ((x * 4294967296 + y) % d)]) ∧ ∃ q, w' = w.drewN q := by
  obtain ⟨hx0, hx1⟩ := hx
  obtain ⟨hy0, hy1⟩ := hy
  obtain ⟨hd0, hd1⟩ := hd
  have H := Lib.hid (or_low x y (by omega) (by omega))
  have Q1 : 0 ≤ (x * 4294967296 + y) / d := Int.ediv_nonneg (by omega) (by omega)
  have Q2 : (x * 4294967296 + y) / d < 4294967296 := by
    refine Int.ediv_lt_of_lt_mul hd0 ?_
    have : x * 4294967296 + y < (x + 1) * 4294967296 := by omega
    have h2 : (x + 1) * 4294967296 ≤ d * 4294967296 := Int.mul_le_mul_of_nonneg_right (by omega) (by omega)
    rw [Int.mul_comm] at h2
    omega
  have Q3 : 0 ≤ (x * 4294967296 + y) % d := Int.emod_nonneg _ (by omega)
  have Q4 : (x * 4294967296 + y) % d < 4294967296 := by
    have := Int.emod_lt_of_pos (x * 4294967296 + y) hd0
    omega
  have hdx : (d ≤ x) = False := by simp; omega
  have hd00 : (d != 0) = true := by simp; omega
  go_enter Tryz.func163, Tryz.ntmps163
  go_wp2
  rw [H.out]
  have V0 : 0 ≤ x * 4294967296 + y := by omega
  have V1 : x * 4294967296 + y ≤ 18446744073709551615 := by omega
  generalize hv : x * 4294967296 + y = v at *
  have HV := Lib.hid hv
  clear hv
  have hd3 : (d == 0) = false := by simp; omega
  have hd4 : ¬ d = 0 := by omega
  have W1 : IntKind.u64.wrap (v.tdiv d) = v / d := IntWalk.u64_quo _ _ (by omega)
  have W2 : v.tmod d = v % d := IntWalk.rem_in _ _ (by omega)
  have W3 : IntKind.u32.wrap (v / d) = v / d := IntWalk.u32_in _ (by omega)
  have W4 : IntKind.u32.wrap (v % d) = v % d := IntWalk.u32_in _ (by omega)
  have W5 : IntKind.u64.wrap (v % d) = v % d := IntWalk.u64_in _ (by omega)
  have W6 : IntKind.u64.wrap d = d := IntWalk.u64_in _ (by omega)
  go_quiet (fail)
  clear W1 W2 W3 W4 W5 W6
  go_wp2
  go_ret2
  rw [HV.out]
  exact ⟨rfl, _, rfl⟩
end Go.Proofs.YtbcbmkeeoognpaaGreatDoor


/- math/bits.Len32: how many bits a limb has. -/
namespace Go.Proofs.YtbcbmkeeoognpaaGreatDoor
open Go.RowKit
set_option maxHeartbeats 4000000 in
set_option maxRecDepth 100000 in
theorem len32_calls (x : Int) (w : World) (h0 : 0 ≤ x) (h1 : x ≤ 4294967295) :
    Calls Tryz.prog 120 #[.int .u32 x] w fun e w' => e = .returned (.int .i64 (Lib.bitLen x.toNat)) ∧ w = w' := by
  have u9 := Tryz.underlying9
  have hx : ∀ i : Int, 0 ≤ i → i ≤ 255 → ∀ w : World, (Instr.index 9 (.string Lib.len8tab) (.int .u8 i)).run Tryz.prog w = .ok (.int .u8 (Lib.len8 i)) w := fun i h0 h1 w => Lib.run_index_len8tab _ _ _ _ u9 h0 h1
  have x1 := hx (x / 65536 / 256) (by omega) (by omega)
  have x2 : x / 65536 < 256 → _ := fun h => hx (x / 65536) (by omega) (by omega)
  have x3 : x < 65536 → _ := fun h => hx (x / 256) (by omega) (by omega)
  have x4 : x < 256 → _ := fun h => hx x (by omega) (by omega)
  clear hx
  go_enter Tryz.func120, Tryz.ntmps120
  go_wp2
  all_goals (go_ret; refine ⟨congrArg Ending.returned (congrArg (Value.int IntKind.i64) ?_), rfl⟩)
  all_goals first
    | (rw [Lib.len8_of (x / 65536 / 256) (by omega) (by omega)]
       have e : (x / 65536 / 256).toNat = x.toNat / 16777216 := by omega
       have l := Lib.bitLen_le8' (x / 65536 / 256) (by omega) (by omega)
       have s := Lib.bitLen_shift24 x.toNat (by omega) (by omega)
       rw [e] at l ⊢
       unfold wrap64
       omega)
    | (rw [Lib.len8_of (x / 65536) (by omega) (by omega)]
       have e : (x / 65536).toNat = x.toNat / 65536 := by omega
       have l := Lib.bitLen_le8' (x / 65536) (by omega) (by omega)
       have s := Lib.bitLen_shift16 x.toNat (by omega) (by omega)
       rw [e] at l ⊢
       unfold wrap64
       omega)
    | (rw [Lib.len8_of (x / 256) (by omega) (by omega)]
       have e : (x / 256).toNat = x.toNat / 256 := by omega
       have l := Lib.bitLen_le8' (x / 256) (by omega) (by omega)
       have s := Lib.bitLen_shift8 x.toNat (by omega) (by omega)
       rw [e] at l ⊢
       unfold wrap64
       omega)
    | (rw [Lib.len8_of x (by omega) (by omega)]
       have l := Lib.bitLen_le8' x (by omega) (by omega)
       unfold wrap64
       omega)
end Go.Proofs.YtbcbmkeeoognpaaGreatDoor


/- cmp.Compare of ints and of limbs. -/
namespace Go.Proofs.YtbcbmkeeoognpaaGreatDoor
open Go.RowKit
theorem compare_int (x y : Int) (w : World) :
    Calls Tryz.prog 231 #[.int .i64 x, .int .i64 y] w fun e w' => e = .returned (.int .i64 (cmpI x y)) ∧ w = w' := by
  rcases Int.lt_trichotomy x y with h | h | h
  · have H := Lib.hid (cmpI_lt h)
    go_enter Tryz.func231, Tryz.ntmps231
    go_wp2
    go_ret
    rw [H.out]
    exact ⟨rfl, rfl⟩
  · have H := Lib.hid (cmpI_eq h)
    subst h
    go_enter Tryz.func231, Tryz.ntmps231
    go_wp2
    go_ret
    rw [H.out]
    exact ⟨rfl, rfl⟩
  · have H := Lib.hid (cmpI_gt h)
    have h2 : ¬ x < y := by omega
    go_enter Tryz.func231, Tryz.ntmps231
    go_wp2
    go_ret
    rw [H.out]
    exact ⟨rfl, rfl⟩
theorem compare_u32 (x y : Int) (w : World) :
    Calls Tryz.prog 232 #[.int .u32 x, .int .u32 y] w fun e w' => e = .returned (.int .i64 (cmpI x y)) ∧ w = w' := by
  rcases Int.lt_trichotomy x y with h | h | h
  · have H := Lib.hid (cmpI_lt h)
    go_enter Tryz.func232, Tryz.ntmps232
    go_wp2
    go_ret
    rw [H.out]
    exact ⟨rfl, rfl⟩
  · have H := Lib.hid (cmpI_eq h)
    subst h
    go_enter Tryz.func232, Tryz.ntmps232
    go_wp2
    go_ret
    rw [H.out]
    exact ⟨rfl, rfl⟩
  · have H := Lib.hid (cmpI_gt h)
    have h2 : ¬ x < y := by omega
    go_enter Tryz.func232, Tryz.ntmps232
    go_wp2
    go_ret
    rw [H.out]
    exact ⟨rfl, rfl⟩
end Go.Proofs.YtbcbmkeeoognpaaGreatDoor


/- Texts as lists of bytes; a list of bytes in memory as a text. Nothing here speaks of a program. -/
namespace Go.Proofs.YtbcbmkeeoognpaaGreatDoor
open Go.RowKit

end Go.Proofs.YtbcbmkeeoognpaaGreatDoor


/- math/bits.Add32: the sum and what is carried. -/
namespace Go.Proofs.YtbcbmkeeoognpaaGreatDoor
open Go.RowKit
theorem add32_calls (x y c : Int) (w : World) (hx : 0 ≤ x ∧ x < 4294967296) (hy : 0 ≤ y ∧ y < 4294967296) (hc : 0 ≤ c ∧ c < 4294967296) :
    Calls Tryz.prog 158 #[.int .u32 x, .int .u32 y, .int .u32 c] w fun e w' => e = .returned (.tuple #[.int .u32 ((x + y + c) % 4294967296), .int .u32 ((x + y + c) / 4294967296)]) ∧ w = w' := by
  obtain ⟨hx0, hx1⟩ := hx
  obtain ⟨hy0, hy1⟩ := hy
  obtain ⟨hc0, hc1⟩ := hc
  go_enter Tryz.func158, Tryz.ntmps158
  go_wp2
  go_ret2
  exact ⟨rfl, rfl⟩
end Go.Proofs.YtbcbmkeeoognpaaGreatDoor


/- math/bits.Sub32: the difference and what is borrowed. -/
namespace Go.Proofs.YtbcbmkeeoognpaaGreatDoor
open Go.RowKit

theorem bv_lit (x : BitVec 32) : x.msb = decide (2147483648 ≤ x.toNat) := by
  rw [BitVec.msb_eq_decide]
theorem sub32_borrow (x y b : Nat) (hx : x < 4294967296) (hy : y < 4294967296) (hb : b ≤ 1) (D : BitVec 32) (hD : (D.toNat : Int) = ((x : Int) - y - b) % 4294967296) :
    ((~~~ (BitVec.ofNat 32 x) &&& BitVec.ofNat 32 y) ||| (~~~ (BitVec.ofNat 32 x ^^^ BitVec.ofNat 32 y) &&& D)).msb = decide (x < y + b) := by
  simp only [BitVec.msb_or, BitVec.msb_and, BitVec.msb_not, BitVec.msb_xor]
  simp only [bv_lit, BitVec.toNat_ofNat, Nat.mod_eq_of_lt (show x < 2 ^ 32 by omega), Nat.mod_eq_of_lt (show y < 2 ^ 32 by omega)]
  have hd : D.toNat < 4294967296 := D.isLt
  generalize D.toNat = d at *
  by_cases h1 : 2147483648 ≤ x <;> by_cases h2 : 2147483648 ≤ y <;> by_cases h3 : 2147483648 ≤ d <;> simp [h1, h2, h3] <;> omega

/-- What is borrowed. -/
def brw (x y b : Int) : Int := if x < y + b then 1 else 0

theorem bits_bv (op : BinOp) (X Y : BitVec 32) (f : BitVec 32 → BitVec 32 → BitVec 32) (h : ∀ a b : Int, bits op .u32 a b = IntKind.u32.wrap ((f (BitVec.ofInt 32 a) (BitVec.ofInt 32 b)).toNat : Int)) :
    bits op .u32 (X.toNat : Int) (Y.toNat : Int) = ((f X Y).toNat : Int) := by
  have e1 : BitVec.ofInt 32 (X.toNat : Int) = X := by simp
  have e2 : BitVec.ofInt 32 (Y.toNat : Int) = Y := by simp
  rw [h, e1, e2, IntKind.wrap_u32]
  have := (f X Y).isLt
  omega

theorem sub32_bits (x y b : Int) (hx0 : 0 ≤ x) (hx1 : x < 4294967296) (hy0 : 0 ≤ y) (hy1 : y < 4294967296) (hb0 : 0 ≤ b) (hb1 : b ≤ 1) :
    bits .or .u32 (bits .and .u32 (bits .xor .u32 IntKind.u32.max x) y) (bits .and .u32 (bits .xor .u32 IntKind.u32.max (bits .xor .u32 x y)) ((x - y - b) % 4294967296)) / 2147483648 = brw x y b := by
  obtain ⟨x, rfl⟩ := Int.eq_ofNat_of_zero_le hx0
  obtain ⟨y, rfl⟩ := Int.eq_ofNat_of_zero_le hy0
  obtain ⟨b, rfl⟩ := Int.eq_ofNat_of_zero_le hb0
  obtain ⟨d, hd⟩ := Int.eq_ofNat_of_zero_le (show 0 ≤ ((x : Int) - y - b) % 4294967296 by omega)
  have hdl : d < 4294967296 := by omega
  have ex : ((BitVec.ofNat 32 x).toNat : Int) = x := by rw [BitVec.toNat_ofNat]; omega
  have ey : ((BitVec.ofNat 32 y).toNat : Int) = y := by rw [BitVec.toNat_ofNat]; omega
  have ed : ((BitVec.ofNat 32 d).toNat : Int) = d := by rw [BitVec.toNat_ofNat]; omega
  have em : (((BitVec.allOnes 32).toNat : Nat) : Int) = IntKind.u32.max := by decide
  have B := sub32_borrow x y b (by omega) (by omega) (by omega) (BitVec.ofNat 32 d) (by rw [ed, ← hd])
  rw [hd, ← ex, ← ey, ← ed, ← em]
  rw [bits_bv .xor _ _ (· ^^^ ·) (fun _ _ => rfl), bits_bv .xor _ _ (· ^^^ ·) (fun _ _ => rfl), bits_bv .and _ _ (· &&& ·) (fun _ _ => rfl), bits_bv .xor _ _ (· ^^^ ·) (fun _ _ => rfl), bits_bv .and _ _ (· &&& ·) (fun _ _ => rfl),
    bits_bv .or _ _ (· ||| ·) (fun _ _ => rfl)]
  simp only [BitVec.allOnes_xor]
  rw [bv_lit] at B
  have hlt := (~~~BitVec.ofNat 32 x &&& BitVec.ofNat 32 y ||| ~~~(BitVec.ofNat 32 x ^^^ BitVec.ofNat 32 y) &&& BitVec.ofNat 32 d).isLt
  generalize (~~~BitVec.ofNat 32 x &&& BitVec.ofNat 32 y ||| ~~~(BitVec.ofNat 32 x ^^^ BitVec.ofNat 32 y) &&& BitVec.ofNat 32 d).toNat = v at *
  unfold brw
  rw [ex, ey]
  have B' := decide_eq_decide.1 B
  split <;> omega

theorem sub32_calls (x y b : Int) (w : World) (hx : 0 ≤ x ∧ x < 4294967296) (hy : 0 ≤ y ∧ y < 4294967296) (hb : 0 ≤ b ∧ b ≤ 1) :
    Calls Tryz.prog 161 #[.int .u32 x, .int .u32 y, .int .u32 b] w fun e w' => e = .returned (.tuple #[.int .u32 ((x - y - b) % 4294967296), .int .u32 (brw x y b)]) ∧ w = w' := by
  obtain ⟨hx0, hx1⟩ := hx
  obtain ⟨hy0, hy1⟩ := hy
  obtain ⟨hb0, hb1⟩ := hb
  have HB := Lib.hid (sub32_bits x y b hx0 hx1 hy0 hy1 hb0 hb1)
  go_enter Tryz.func161, Tryz.ntmps161
  go_wp2
  go_ret2
  refine ⟨?_, rfl⟩
  rw [← HB.out]
  rfl
end Go.Proofs.YtbcbmkeeoognpaaGreatDoor


/- crucibleref01.power: 2 to the n. -/
namespace Go.Proofs.YtbcbmkeeoognpaaGreatDoor
open Go.RowKit

end Go.Proofs.YtbcbmkeeoognpaaGreatDoor


/- append(v, xs...) of a whole list; append(v, make([]T, m)...). -/
namespace Go.Proofs.YtbcbmkeeoognpaaGreatDoor
open Go.RowKit

section
variable {P : Program} {ops : Array Oper} {rest : List Oper} {o : Oper} {a : Act} {Q : Exit → Act → World → Prop}
end
end Go.Proofs.YtbcbmkeeoognpaaGreatDoor


/- math/bits.TrailingZeros32: a number's odd part. -/
namespace Go.Proofs.YtbcbmkeeoognpaaGreatDoor
open Go.RowKit

/-- The table of places as its initialiser lays it. -/
def Tab32 (w : World) : Prop := ∀ j, j < 32 → w.cell? ⟨0, j, none⟩ = some (.int .u8 ((Lib.deBruijn32tab.getD j 0 : Nat) : Int))
theorem Tab32.below {w w1 : World} (h : Tab32 w) {B : Nat} (hb : Below B w w1) (hB : w.heap.size ≤ B) : Tab32 w1 := fun j hj => by
  have h1 := h j hj
  rw [← h1]
  exact hb.cell (Nat.lt_of_lt_of_le (World.block_lt_of_cell? w _ h1) hB)

end Go.Proofs.YtbcbmkeeoognpaaGreatDoor

