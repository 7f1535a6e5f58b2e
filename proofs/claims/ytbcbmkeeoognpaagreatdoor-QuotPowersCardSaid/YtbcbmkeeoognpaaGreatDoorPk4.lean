/- Contracts of functions, and plain facts, part 4. -/
import Derived.Test.YtbcbmkeeoognpaaGreatDoorProg
import Derived.Deep.QuietTactic
import Derived.BigQuiet
import Derived.Lib.BitFns
import Derived.Lib.Strings
import Derived.Lib.Slices
import Derived.Lib.Small
import Derived.Lib.Walk
import Derived.Laws.IdiomStrings
import Derived.Laws.BytesArg
import Derived.Lib.AppendZerosOnto
import Derived.Laws.AppendOwnNone
import Derived.Maps.AppendAt
import Derived.Lib.TrailingZeros
import Derived.Laws.Bits64b
import Derived.Laws.BitsAllLaws
import Derived.Test.YtbcbmkeeoognpaaGreatDoorPk1
set_option linter.unusedVariables false
set_option linter.unusedSimpArgs false
/- What is kept of memory. -/
namespace Go.Proofs.YtbcbmkeeoognpaaGreatDoor
open Go.RowKit

end Go.Proofs.YtbcbmkeeoognpaaGreatDoor


/- What the calls hand back, in words. -/
namespace Go.Proofs.YtbcbmkeeoognpaaGreatDoor
open Go.RowKit
/-- A list and a bool are handed back. -/
def RetLB (t : TypeId) (k : IntKind) (zs : List Int) (ok : Bool) (w : World) (e : Ending) (w' : World) : Prop :=
  ∃ ad n c, e = .returned (.tuple #[.slice ad n c, .bool ok]) ∧ Own w.heap.size w' t k ad n c zs ∧ Below w.heap.size w w'

/-- A list, a small number and a bool are handed back. -/
def RetLNB (t : TypeId) (k k2 : IntKind) (zs : List Int) (r : Int) (ok : Bool) (w : World) (e : Ending) (w' : World) : Prop :=
  ∃ ad n c, e = .returned (.tuple #[.slice ad n c, .int k2 r, .bool ok]) ∧ Own w.heap.size w' t k ad n c zs ∧ Below w.heap.size w w'

/-- An int is answered, some orders having been drawn. -/
def RetI (v : Int) (w : World) (e : Ending) (w' : World) : Prop := e = .returned (.int .i64 v) ∧ ∃ q, w' = w.drewN q

/-- A list and two bools are handed back. -/
def RetLBB (t : TypeId) (k : IntKind) (zs : List Int) (b1 b2 : Bool) (w : World) (e : Ending) (w' : World) : Prop :=
  ∃ ad n c, e = .returned (.tuple #[.slice ad n c, .bool b1, .bool b2]) ∧ Own w.heap.size w' t k ad n c zs ∧ Below w.heap.size w w'
end Go.Proofs.YtbcbmkeeoognpaaGreatDoor


/- Bytes and limbs of one number; long multiplication with a carry that runs on: plain facts on lists. -/
namespace Go.Proofs.YtbcbmkeeoognpaaGreatDoor

theorem pow4 (i : Nat) : (256 : Int) ^ (4 * i) = 4294967296 ^ i := by
  rw [Int.pow_mul]
  rfl

theorem val_snoc (b : Int) (xs : List Int) (y : Int) : val b (xs ++ [y]) = val b xs + b ^ xs.length * y := by
  rw [val_append]
  simp [val]

/-- A limb's bytes: k of them told, x is what is left. -/
theorem bytes_step (ds : List Int) (N : Nat) (hN : ds.length = N) (x V : Int) (hx : 0 ≤ x) (h : val 256 ds + 256 ^ N * x = V) :
    val 256 (ds ++ [x % 256]) + 256 ^ (N + 1) * (x / 256) = V := by
  rw [val_snoc, hN, Int.pow_succ]
  have := Int.emod_add_mul_ediv x 256
  generalize x / 256 = q at *
  generalize x % 256 = r at *
  generalize (256 : Int) ^ N = P at *
  generalize val 256 ds = v at *
  subst this
  grind

/-- limbs: the state behind the places from j on. -/
def LimbSt (ls out : List Int) (j : Nat) : Prop :=
  Dig 4294967296 out ∧ out.length = (ls.length + 3) / 4 ∧ (∀ q, q < j / 4 → out[q]?.getD 0 = 0) ∧ out[j / 4]?.getD 0 < 256 ^ (4 - j % 4) ∧
    val 256 (ls.drop j) = out[j / 4]?.getD 0 + 256 ^ (4 - j % 4) * val 4294967296 (out.drop (j / 4 + 1))

theorem getD_replicate (n j : Nat) : ((List.replicate n (0 : Int))[j]?).getD 0 = 0 := by
  rw [List.getElem?_replicate]
  split <;> rfl

theorem pow256_pos (n : Nat) : (0 : Int) < 256 ^ n := Int.pow_pos (by omega)

theorem limb_start (ls : List Int) : LimbSt ls (List.replicate ((ls.length + 3) / 4) 0) ls.length := by
  refine ⟨Dig.replicate _ (by omega) _, by simp, fun q _ => getD_replicate _ _, ?_, ?_⟩
  · rw [getD_replicate]
    exact pow256_pos _
  · rw [getD_replicate, List.drop_length, List.drop_replicate, val_replicate]
    simp [val]

theorem drop_ge (b : Int) (xs : List Int) (q : Nat) : val b (xs.drop q) = xs[q]?.getD 0 + b * val b (xs.drop (q + 1)) := by
  rcases Nat.lt_or_ge q xs.length with h | h
  · exact val_drop b xs q h
  · rw [List.drop_of_length_le h, List.drop_of_length_le (by omega), List.getElem?_eq_none h]
    simp [val]

theorem limb_step (ls out : List Int) (j : Nat) (hj : j < ls.length) (hl : Dig 256 ls) (h : LimbSt ls out (j + 1)) :
    0 ≤ out[j / 4]?.getD 0 * 256 ∧ out[j / 4]?.getD 0 * 256 + ls[j]?.getD 0 ≤ 4294967295 ∧ j / 4 < out.length ∧ LimbSt ls (out.set (j / 4) (out[j / 4]?.getD 0 * 256 + ls[j]?.getD 0)) j := by
  obtain ⟨h1, h2, h3, h4, h5⟩ := h
  have hd := hl.get (by omega) j
  have ho := h1.get (by omega) (j / 4)
  have hq : j / 4 < out.length := by omega
  have hv := val_drop 256 ls j hj
  rw [h5] at hv
  generalize hD : ls[j]?.getD 0 = d at *
  have key : out[j / 4]?.getD 0 * 256 + d < 256 ^ (4 - j % 4) ∧ val 256 (ls.drop j) = (out[j / 4]?.getD 0 * 256 + d) + 256 ^ (4 - j % 4) * val 4294967296 (out.drop (j / 4 + 1)) := by
    by_cases hr : j % 4 = 3
    · have e1 : (j + 1) / 4 = j / 4 + 1 := by omega
      have e2 : (j + 1) % 4 = 0 := by omega
      have hz := h3 (j / 4) (by omega)
      rw [e1, e2] at hv
      have e3 := drop_ge 4294967296 out (j / 4 + 1)
      rw [hz, hr]
      refine ⟨by simp; omega, ?_⟩
      rw [hv, e3]
      simp
    · have e1 : (j + 1) / 4 = j / 4 := by omega
      have e2 : 4 - j % 4 = (4 - (j + 1) % 4) + 1 := by omega
      rw [e1] at hv h4
      rw [e2, Int.pow_succ]
      generalize 4 - (j + 1) % 4 = s at *
      generalize out[j / 4]?.getD 0 = o at *
      generalize val 4294967296 (out.drop (j / 4 + 1)) = R at *
      generalize (256 : Int) ^ s = P at *
      refine ⟨by omega, ?_⟩
      rw [hv]
      grind
  have hP : (256 : Int) ^ (4 - j % 4) ≤ 4294967296 := by
    have : ∀ s : Nat, s < 4 → (256 : Int) ^ (4 - s) ≤ 4294967296 := by decide
    exact this _ (by omega)
  refine ⟨by omega, by omega, hq, h1.set (by omega) (by omega) _, by simp [h2], fun q hq' => ?_, ?_, ?_⟩
  · rw [List.getElem?_set_ne (by omega)]
    exact h3 q (by omega)
  · rw [List.getElem?_set_self hq]
    exact key.1
  · rw [List.getElem?_set_self hq, List.drop_set_of_lt (by omega)]
    exact key.2

theorem val_ge {b : Int} (hb : 0 < b) : ∀ {xs : List Int}, Dig b xs → norm xs = xs → xs ≠ [] → b ^ (xs.length - 1) ≤ val b xs
  | [x], h, hn, _ => by
    have h0 := h.head
    have : x ≠ 0 := by
      rintro rfl
      simp [norm] at hn
    simp [val]
    omega
  | x :: y :: ys, h, hn, _ => by
    have h0 := h.head
    have hn' : norm (y :: ys) = y :: ys := by
      have hn1 := hn
      rw [norm] at hn1
      split at hn1
      · cases hn1
      · simpa using hn1
    have ih := val_ge hb h.tail hn' (by simp)
    have : b * b ^ ((y :: ys).length - 1) ≤ b * val b (y :: ys) := Int.mul_le_mul_of_nonneg_left ih (Int.le_of_lt hb)
    rw [val]
    have e : b ^ ((x :: y :: ys).length - 1) = b * b ^ ((y :: ys).length - 1) := by
      simp only [List.length_cons, Nat.add_sub_cancel]
      rw [Int.pow_succ, Int.mul_comm]
    rw [e]
    omega

theorem val_lt_norm {b : Int} (hb : 0 < b) {xs : List Int} (h : Dig b xs) (hn : norm xs ≠ xs) : val b xs < b ^ (xs.length - 1) := by
  have hl := norm_length_le xs
  have hne : (norm xs).length ≠ xs.length := fun e => hn (by rw [norm_take, e, List.take_length])
  have := val_lt hb (norm_dig h)
  rw [val_norm] at this
  exact Int.lt_of_lt_of_le this (pow_le (by omega) (by omega))

theorem limb_end (ls out : List Int) (hl : Dig 256 ls) (hn : norm ls = ls) (h : LimbSt ls out 0) : out = dg 4294967296 (val 256 ls) := by
  obtain ⟨h1, h2, _, _, h5⟩ := h
  have e : val 4294967296 out = val 256 ls := by
    have := drop_ge 4294967296 out 0
    simp only [List.drop_zero, Nat.zero_div, Nat.zero_mod, Nat.zero_add] at this h5
    rw [this, h5]
    rfl
  have hno : norm out = out := by
    by_cases hno : norm out = out
    · exact hno
    · exfalso
      have hlt := val_lt_norm (by omega) h1 hno
      by_cases h0 : ls = []
      · subst h0
        simp at h2
        subst h2
        exact hno rfl
      · have hge := val_ge (by omega) hl hn h0
        rw [e, h2, ← pow4] at hlt
        have hlen : 0 < ls.length := List.length_pos_iff.2 h0
        have : (256 : Int) ^ (4 * ((ls.length + 3) / 4 - 1)) ≤ 256 ^ (ls.length - 1) := pow_le (by omega) (by omega)
        omega
  have := norm_eq 4294967296 (by omega) h1
  rw [hno] at this
  rw [this]
  exact congrArg (dg 4294967296) e

/-- A carry that runs on has its place. -/
theorem carry_place (b : Int) (hb : 1 < b) (xs zs ys : List Int) (i k : Nat) (c : Int) (hx : Dig b xs) (hz : Dig b zs) (hy : Dig b ys) (hc : 0 < c) (hi : i < xs.length)
    (E : val b ys + c * b ^ k = val b (xs.take (i + 1)) * val b zs) : k < i + 1 + zs.length := by
  rcases Nat.lt_or_ge k (i + 1 + zs.length) with h | h
  · exact h
  · exfalso
    have h1 := val_lt (by omega) (hx.take (i + 1))
    have h2 := val_lt (by omega) hz
    have h3 := val_nonneg (by omega) (hx.take (i + 1))
    have h4 := val_nonneg (by omega) hz
    have h5 := val_nonneg (by omega) hy
    rw [List.length_take, Nat.min_eq_left (by omega)] at h1
    have h6 : b ^ (i + 1 + zs.length) ≤ b ^ k := pow_le (by omega) h
    have h7 : b ^ k ≤ c * b ^ k := by
      have : 1 * b ^ k ≤ c * b ^ k := Int.mul_le_mul_of_nonneg_right (by omega) (Int.le_of_lt (Int.pow_pos (by omega)))
      omega
    have h8 : val b (xs.take (i + 1)) * val b zs < b ^ (i + 1) * b ^ zs.length := by
      have a1 : val b (xs.take (i + 1)) * val b zs ≤ val b (xs.take (i + 1)) * b ^ zs.length := Int.mul_le_mul_of_nonneg_left (by omega) h3
      have a2 : val b (xs.take (i + 1)) * b ^ zs.length < b ^ (i + 1) * b ^ zs.length := Int.mul_lt_mul_of_pos_right h1 (Int.pow_pos (by omega))
      omega
    rw [← Int.pow_add] at h8
    omega

theorem mul_outer_carry (B : Int) (xs zs ys : List Int) (i n : Nat) (hi : i < xs.length) (hn : n = zs.length) (c : Int)
    (E : val B ys + c * B ^ (i + n) = val B (xs.take i) * val B zs + xs[i]?.getD 0 * B ^ i * val B (zs.take n)) :
    val B ys + c * B ^ (i + n) = val B (xs.take (i + 1)) * val B zs := by
  rw [E, val_take_succ B xs i hi, hn, List.take_length]
  generalize xs[i]?.getD 0 = x at *
  generalize val B (xs.take i) = X at *
  generalize val B zs = Z at *
  generalize B ^ i = P at *
  grind
end Go.Proofs.YtbcbmkeeoognpaaGreatDoor


/- nat.cut: what the call answers. -/
namespace Go.Proofs.YtbcbmkeeoognpaaGreatDoor
open Go.RowKit

theorem info_limb : (Tryz.prog.info? 44).map (fun i => (i.zero, i.size, i.bytes)) = some (some (.int .u32 0), 1, 4) := by kernel_rfl

/-- nat.cut: the list without noughts at its end, and without room behind it. -/
theorem cut_calls (ad : Option Addr) (n c : Nat) (xs : List Int) (w : World) (hn : n ≤ 9223372036854775807) (hnc : n ≤ c) (hr : Rds w .u32 ad n xs) :
    Calls Tryz.prog 159 #[.slice ad n c] w fun e w' => e = .returned (.slice ad (norm xs).length (norm xs).length) ∧ w = w' := by
  have HL := Lib.hid hr.len
  go_enter Tryz.func159, Tryz.ntmps159
  go_wp2
  go_loop [3] (fun i => ∃ k : Nat, k ≤ n ∧ i = .int .i64 k ∧ Hid (∀ j, k ≤ j → xs[j]?.getD 0 = 0)) (fun i => (intOf i).toNat)
  case atStart => exact ⟨n, Nat.le_refl _, rfl, fun j hj => by rw [List.getElem?_eq_none (by rw [HL.out]; exact hj)]; rfl⟩
  case round =>
    obtain ⟨k, hk, rfl, hz⟩ := hrel
    have hkc : k ≤ c := by omega
    by_cases h0 : 0 < k
    · obtain ⟨a, rfl, hcell⟩ := hr.cell (k - 1) (by omega)
      clear hr
      go_wp2
      · rename_i hb
        go_round
        case rel =>
          refine ⟨k - 1, by omega, by congr 1; omega, fun j hj => ?_⟩
          by_cases e : j = k - 1
          · subst e; simpa using hb
          · exact hz.out j (by omega)
        case measure => simp [intOf]; omega
      · have hb : (xs[k - 1]?.getD 0 == 0) = false := by assumption
        have e := norm_stop xs k (by rw [HL.out]; omega) hz.out (.inr (by simpa using hb))
        have e2 : (norm xs).length = k := by rw [e, List.length_take, HL.out]; omega
        go_ret
        rw [e2]
        exact ⟨rfl, rfl⟩
    · obtain rfl : k = 0 := by omega
      have E := Lib.hid (show (norm xs).length = 0 by rw [norm_stop xs 0 (Nat.zero_le _) hz.out (.inl rfl)]; rfl)
      go_wp2
      go_ret
      rw [E.out]
      exact ⟨rfl, rfl⟩

end Go.Proofs.YtbcbmkeeoognpaaGreatDoor


/- math/bits.Div32: two limbs divided by one that is greater than the high one. -/
namespace Go.Proofs.YtbcbmkeeoognpaaGreatDoor
open Go.RowKit
theorem or_low (h l : Int) (hh : 0 ≤ h ∧ h < 4294967296) (hl : 0 ≤ l ∧ l < 4294967296) : bits .or .u64 (h * 4294967296) l = h * 4294967296 + l := by
  obtain ⟨h, rfl⟩ := Int.eq_ofNat_of_zero_le hh.1
  obtain ⟨l, rfl⟩ := Int.eq_ofNat_of_zero_le hl.1
  have e : ((h : Int) * 4294967296) = ((h * 4294967296 : Nat) : Int) := by simp
  rw [e, bits_or_u64_nat _ _ (by omega) (by omega), nat_join 32 _ _ (by omega) (by omega)]
  omega

theorem div32_calls (x y d : Int) (w : World) (hx : 0 ≤ x ∧ x < d) (hy : 0 ≤ y ∧ y < 4294967296) (hd : 0 < d ∧ d < 4294967296) :
    Calls Tryz.prog 163 #[.int .u32 x, .int .u32 y, .int .u32 d] w fun e w' =>
      e = .returned (.tuple #[.int .u32 ((x * 4294967296 + y) / d), .int .u32 ((x * 4294967296 + y) % d)]) ∧ ∃ q, w' = w.drewN q := by
  obtain ⟨hx0, hx1⟩ := hx
  obtain ⟨hy0, hy1⟩ := hy
  obtain ⟨hd0, hd1⟩ := hd
  have H := Lib.hid (or_low x y (by omega) (by omega))
  have Q1 : 0 ≤ (x * 4294967296 + y) / d := Int.ediv_nonneg (by omega) (by omega)
  have Q2 : (x * 4294967296 + y) / d < 4294967296 := by
    refine Int.ediv_lt_of_lt_mul hd0 ?_
    have : x * 4294967296 + y < (x + 1) * 4294967296 := by omega
    have h2 : (x + 1) * 4294967296 ≤ d * 4294967296 := Int.mul_le_mul_of_nonneg_right (by omega) (by omega)
    rw [Int.mul_comm] at h2
    omega
  have Q3 : 0 ≤ (x * 4294967296 + y) % d := Int.emod_nonneg _ (by omega)
  have Q4 : (x * 4294967296 + y) % d < 4294967296 := by
    have := Int.emod_lt_of_pos (x * 4294967296 + y) hd0
    omega
  have hdx : (d ≤ x) = False := by simp; omega
  have hd00 : (d != 0) = true := by simp; omega
  go_enter Tryz.func163, Tryz.ntmps163
  go_wp2
  rw [H.out]
  have V0 : 0 ≤ x * 4294967296 + y := by omega
  have V1 : x * 4294967296 + y ≤ 18446744073709551615 := by omega
  generalize hv : x * 4294967296 + y = v at *
  have HV := Lib.hid hv
  clear hv
  have hd3 : (d == 0) = false := by simp; omega
  have hd4 : ¬ d = 0 := by omega
  have W1 : IntKind.u64.wrap (v.tdiv d) = v / d := IntWalk.u64_quo _ _ (by omega)
  have W2 : v.tmod d = v % d := IntWalk.rem_in _ _ (by omega)
  have W3 : IntKind.u32.wrap (v / d) = v / d := IntWalk.u32_in _ (by omega)
  have W4 : IntKind.u32.wrap (v % d) = v % d := IntWalk.u32_in _ (by omega)
  have W5 : IntKind.u64.wrap (v % d) = v % d := IntWalk.u64_in _ (by omega)
  have W6 : IntKind.u64.wrap d = d := IntWalk.u64_in _ (by omega)
  go_quiet (fail)
  clear W1 W2 W3 W4 W5 W6
  go_wp2
  go_ret2
  rw [HV.out]
  exact ⟨rfl, _, rfl⟩
end Go.Proofs.YtbcbmkeeoognpaaGreatDoor


/- math/bits.Len32: how many bits a limb has. -/
namespace Go.Proofs.YtbcbmkeeoognpaaGreatDoor
open Go.RowKit
set_option maxHeartbeats 4000000 in
set_option maxRecDepth 100000 in
theorem len32_calls (x : Int) (w : World) (h0 : 0 ≤ x) (h1 : x ≤ 4294967295) :
    Calls Tryz.prog 120 #[.int .u32 x] w fun e w' => e = .returned (.int .i64 (Lib.bitLen x.toNat)) ∧ w = w' := by
  have u9 := Tryz.underlying9
  have hx : ∀ i : Int, 0 ≤ i → i ≤ 255 → ∀ w : World, (Instr.index 9 (.string Lib.len8tab) (.int .u8 i)).run Tryz.prog w = .ok (.int .u8 (Lib.len8 i)) w := fun i h0 h1 w => Lib.run_index_len8tab _ _ _ _ u9 h0 h1
  have x1 := hx (x / 65536 / 256) (by omega) (by omega)
  have x2 : x / 65536 < 256 → _ := fun h => hx (x / 65536) (by omega) (by omega)
  have x3 : x < 65536 → _ := fun h => hx (x / 256) (by omega) (by omega)
  have x4 : x < 256 → _ := fun h => hx x (by omega) (by omega)
  clear hx
  go_enter Tryz.func120, Tryz.ntmps120
  go_wp2
  all_goals (go_ret; refine ⟨congrArg Ending.returned (congrArg (Value.int IntKind.i64) ?_), rfl⟩)
  all_goals first
    | (rw [Lib.len8_of (x / 65536 / 256) (by omega) (by omega)]
       have e : (x / 65536 / 256).toNat = x.toNat / 16777216 := by omega
       have l := Lib.bitLen_le8' (x / 65536 / 256) (by omega) (by omega)
       have s := Lib.bitLen_shift24 x.toNat (by omega) (by omega)
       rw [e] at l ⊢
       unfold wrap64
       omega)
    | (rw [Lib.len8_of (x / 65536) (by omega) (by omega)]
       have e : (x / 65536).toNat = x.toNat / 65536 := by omega
       have l := Lib.bitLen_le8' (x / 65536) (by omega) (by omega)
       have s := Lib.bitLen_shift16 x.toNat (by omega) (by omega)
       rw [e] at l ⊢
       unfold wrap64
       omega)
    | (rw [Lib.len8_of (x / 256) (by omega) (by omega)]
       have e : (x / 256).toNat = x.toNat / 256 := by omega
       have l := Lib.bitLen_le8' (x / 256) (by omega) (by omega)
       have s := Lib.bitLen_shift8 x.toNat (by omega) (by omega)
       rw [e] at l ⊢
       unfold wrap64
       omega)
    | (rw [Lib.len8_of x (by omega) (by omega)]
       have l := Lib.bitLen_le8' x (by omega) (by omega)
       unfold wrap64
       omega)
end Go.Proofs.YtbcbmkeeoognpaaGreatDoor


/- cmp.Compare of ints and of limbs. -/
namespace Go.Proofs.YtbcbmkeeoognpaaGreatDoor
open Go.RowKit
theorem compare_int (x y : Int) (w : World) :
    Calls Tryz.prog 231 #[.int .i64 x, .int .i64 y] w fun e w' => e = .returned (.int .i64 (cmpI x y)) ∧ w = w' := by
  rcases Int.lt_trichotomy x y with h | h | h
  · have H := Lib.hid (cmpI_lt h)
    go_enter Tryz.func231, Tryz.ntmps231
    go_wp2
    go_ret
    rw [H.out]
    exact ⟨rfl, rfl⟩
  · have H := Lib.hid (cmpI_eq h)
    subst h
    go_enter Tryz.func231, Tryz.ntmps231
    go_wp2
    go_ret
    rw [H.out]
    exact ⟨rfl, rfl⟩
  · have H := Lib.hid (cmpI_gt h)
    have h2 : ¬ x < y := by omega
    go_enter Tryz.func231, Tryz.ntmps231
    go_wp2
    go_ret
    rw [H.out]
    exact ⟨rfl, rfl⟩
theorem compare_u32 (x y : Int) (w : World) :
    Calls Tryz.prog 232 #[.int .u32 x, .int .u32 y] w fun e w' => e = .returned (.int .i64 (cmpI x y)) ∧ w = w' := by
  rcases Int.lt_trichotomy x y with h | h | h
  · have H := Lib.hid (cmpI_lt h)
    go_enter Tryz.func232, Tryz.ntmps232
    go_wp2
    go_ret
    rw [H.out]
    exact ⟨rfl, rfl⟩
  · have H := Lib.hid (cmpI_eq h)
    subst h
    go_enter Tryz.func232, Tryz.ntmps232
    go_wp2
    go_ret
    rw [H.out]
    exact ⟨rfl, rfl⟩
  · have H := Lib.hid (cmpI_gt h)
    have h2 : ¬ x < y := by omega
    go_enter Tryz.func232, Tryz.ntmps232
    go_wp2
    go_ret
    rw [H.out]
    exact ⟨rfl, rfl⟩
end Go.Proofs.YtbcbmkeeoognpaaGreatDoor


/- Texts as lists of bytes; a list of bytes in memory as a text. Nothing here speaks of a program. -/
namespace Go.Proofs.YtbcbmkeeoognpaaGreatDoor
open Go.RowKit

/-- The text of a list of bytes. -/
def strB (xs : List Int) : ByteArray := ⟨(xs.map fun x => UInt8.ofNat x.toNat).toArray⟩
/-- A text's bytes. -/
def bytesI (s : ByteArray) : List Int := s.data.toList.map fun b => (b.toNat : Int)

theorem u8_back (x : Int) (h : 0 ≤ x ∧ x < 256) : ((UInt8.ofNat x.toNat).toNat : Int) = x := by
  rw [UInt8.toNat_ofNat_of_lt' (by show x.toNat < 256; omega)]
  omega
theorem strB_size (xs : List Int) : (strB xs).size = xs.length := by simp [strB, ByteArray.size]
theorem bytesI_dig (s : ByteArray) : Dig 256 (bytesI s) := fun x hx => by
  simp only [bytesI, List.mem_map] at hx
  obtain ⟨b, _, rfl⟩ := hx
  have := UInt8.toNat_lt b
  omega
theorem bytesI_length (s : ByteArray) : (bytesI s).length = s.size := by unfold bytesI; rw [List.length_map, Array.length_toList]; rfl
theorem bytesI_get (s : ByteArray) (j : Nat) (h : j < s.size) : (bytesI s)[j]?.getD 0 = (s[j].toNat : Int) := by
  have h2 : j < s.data.toList.length := by rw [Array.length_toList]; exact h
  unfold bytesI
  rw [List.getElem?_map, List.getElem?_eq_getElem h2]
  rfl
theorem toList_nil (s : ByteArray) : s.toList.isEmpty = decide (s.size = 0) := by
  rw [ByteArray.toList_eq]
  cases h : s.data.toList with
  | nil =>
    have : s.size = 0 := by rw [← bytesI_length, bytesI, h]; rfl
    simp [this]
  | cons a l =>
    have : s.size = l.length + 1 := by rw [← bytesI_length, bytesI, h]; simp
    simp [this]
/-- The text is this one. -/
theorem toList_eq_iff (s : ByteArray) (l : List UInt8) : s.toList = l ↔ bytesI s = l.map fun b => (b.toNat : Int) := by
  rw [ByteArray.toList_eq]
  unfold bytesI
  refine ⟨fun h => by rw [h], fun h => ?_⟩
  have hi : Function.Injective fun b : UInt8 => (b.toNat : Int) := fun a b e => by
    have e1 : ((a.toNat : Nat) : Int) = (b.toNat : Nat) := e
    have : a.toNat = b.toNat := by omega

    exact UInt8.toNat_inj.1 this
  exact (List.map_inj_right (fun a b e => hi e)).1 h

/-- string(b) of a list of bytes in memory. -/
theorem conv_str {P : Program} (src dst e : TypeId) (hs : P.underlying src = some (.slice e)) (he : P.underlying e = some (.int .u8)) (hd : P.underlying dst = some .string)
    (w : World) (ad : Option Addr) (n c : Nat) (xs : List Int) (h : Rds w .u8 ad n xs) (dx : Dig 256 xs) : (convert src dst (.slice ad n c)).run P w = .ok (.string (strB xs)) w := by
  have hl := h.len
  rcases ad with _ | a
  · have h0 : n = 0 := by
      rcases Nat.eq_zero_or_pos n with h0 | h0
      · exact h0
      · obtain ⟨_, e, _⟩ := h.cell 0 h0
        cases e
    subst h0
    have hx : xs = [] := List.length_eq_zero_iff.1 hl
    subst hx
    exact run_convert_bytes_nil w src e hs he 0 c dst hd

  · have k := run_convert_bytes_back (P := P) w src dst e a c (xs.map fun x => UInt8.ofNat x.toNat) hs he hd (fun j hj => by
      rw [List.length_map] at hj
      obtain ⟨a', e1, hc⟩ := h.cell j (by omega)
      injection e1 with e1
      subst e1
      rw [hc, List.getElem_map, List.getElem?_eq_getElem hj]
      have := dx.get (by omega) j
      rw [List.getElem?_eq_getElem hj] at this
      simp only [Option.getD_some] at this ⊢
      rw [u8_back _ this])
    rw [List.length_map, hl] at k
    exact k
end Go.Proofs.YtbcbmkeeoognpaaGreatDoor


/- math/bits.Add32: the sum and what is carried. -/
namespace Go.Proofs.YtbcbmkeeoognpaaGreatDoor
open Go.RowKit
end Go.Proofs.YtbcbmkeeoognpaaGreatDoor


/- math/bits.Sub32: the difference and what is borrowed. -/
namespace Go.Proofs.YtbcbmkeeoognpaaGreatDoor
open Go.RowKit

end Go.Proofs.YtbcbmkeeoognpaaGreatDoor


/- crucibleref01.power: 2 to the n. -/
namespace Go.Proofs.YtbcbmkeeoognpaaGreatDoor
open Go.RowKit

end Go.Proofs.YtbcbmkeeoognpaaGreatDoor


/- append(v, xs...) of a whole list; append(v, make([]T, m)...). -/
namespace Go.Proofs.YtbcbmkeeoognpaaGreatDoor
open Go.RowKit

section
variable {P : Program} {ops : Array Oper} {rest : List Oper} {o : Oper} {a : Act} {Q : Exit → Act → World → Prop}
end
end Go.Proofs.YtbcbmkeeoognpaaGreatDoor


/- math/bits.TrailingZeros32: a number's odd part. -/
namespace Go.Proofs.YtbcbmkeeoognpaaGreatDoor
open Go.RowKit

/-- The table of places as its initialiser lays it. -/
def Tab32 (w : World) : Prop := ∀ j, j < 32 → w.cell? ⟨0, j, none⟩ = some (.int .u8 ((Lib.deBruijn32tab.getD j 0 : Nat) : Int))
theorem Tab32.below {w w1 : World} (h : Tab32 w) {B : Nat} (hb : Below B w w1) (hB : w.heap.size ≤ B) : Tab32 w1 := fun j hj => by
  have h1 := h j hj
  rw [← h1]
  exact hb.cell (Nat.lt_of_lt_of_le (World.block_lt_of_cell? w _ h1) hB)

theorem tz32_key (x a : Nat) (hx : x < 2 ^ 32) (hx0 : x ≠ 0) (hlow : x &&& (2 ^ 32 - x) = a) :
    bits BinOp.and IntKind.u32 (x : Int) (-(x : Int) % 4294967296) * 125613361 % 4294967296 / 134217728 = ((a * 125613361 % 4294967296 / 134217728 : Nat) : Int) := by
  rw [show (2 : Nat) ^ 32 = 4294967296 from by decide] at hx hlow
  have e1 : -(x : Int) % 4294967296 = ((4294967296 - x : Nat) : Int) := by omega
  rw [e1, Go.u32_and_nat x _ hx (by omega), hlow]
  omega

theorem tz32_core (x : Int) (k idx : Nat) (w : World) (hx0 : (x == 0) = false)
    (key : bits BinOp.and IntKind.u32 x (-x % 4294967296) * 125613361 % 4294967296 / 134217728 = (idx : Int))
    (hi : idx < 32) (hk : k < 32) (hcell : w.cell? ⟨0, idx, none⟩ = some (.int .u8 k)) :
    Calls Tryz.prog 122 #[.int .u32 x] w fun e w' => e = .returned (.int .i64 k) ∧ w = w' := by
  go_enter Tryz.func122, Tryz.ntmps122
  go_wp2_with (simp only [key])
  go_ret
  exact ⟨rfl, rfl⟩

/-- So many noughts stand at a number's end. -/
def TzR (x : Int) (w : World) (e : Ending) (w' : World) : Prop := ∃ k m : Nat, e = .returned (.int .i64 k) ∧ w = w' ∧ k < 32 ∧ x = ((m * 2 ^ k : Nat) : Int) ∧ m % 2 = 1

theorem tz32_calls (x : Int) (hx : 0 < x ∧ x < 4294967296) (w : World) (hT : Tab32 w) :
    Calls Tryz.prog 122 #[.int .u32 x] w (TzR x w) := by
  obtain ⟨x, rfl⟩ := Int.eq_ofNat_of_zero_le (Int.le_of_lt hx.1)
  have hx1 : x < 2 ^ 32 := by rw [show (2 : Nat) ^ 32 = 4294967296 from by decide]; omega
  obtain ⟨hlow, hk⟩ := Lib.lowest_bit 32 x (by omega) hx1
  obtain ⟨hi, htab⟩ := Lib.deBruijn32_at _ hk
  have hcell := hT _ hi
  rw [htab] at hcell
  have hc0 : ((x : Int) == 0) = false := by simp; omega
  obtain ⟨j, hj, -⟩ := Lib.ctzFrom_spec 32 x (by omega) hx1
  have hc : Lib.ctz 32 x = Lib.ctzFrom 32 x := by unfold Lib.ctz; rw [if_neg (by omega)]
  rw [← hc] at hj
  refine (tz32_core x _ _ w hc0 (tz32_key x _ hx1 (by omega) hlow) hi hk hcell).mono fun e w' q => ⟨_, 2 * j + 1, q.1, q.2, hk, ?_, by omega⟩
  rw [Nat.mul_comm]
  exact congrArg Nat.cast hj

/-- i64's '&' of what is not below 0. -/
theorem i64_and_nat (a b : Nat) (ha : a < 9223372036854775808) (hb : b < 9223372036854775808) : bits .and .i64 (a : Int) (b : Int) = ((a &&& b : Nat) : Int) := by
  have hx : a &&& b < 2 ^ 63 := Nat.and_lt_two_pow _ (by omega)
  have h1 : (BitVec.ofInt 64 (a : Int)).toNat = a := by
    rw [BitVec.ofInt_natCast, BitVec.toNat_ofNat]; exact Nat.mod_eq_of_lt (by omega)
  have h2 : (BitVec.ofInt 64 (b : Int)).toNat = b := by
    rw [BitVec.ofInt_natCast, BitVec.toNat_ofNat]; exact Nat.mod_eq_of_lt (by omega)
  show IntKind.i64.wrap ((BitVec.ofInt 64 (a : Int) &&& BitVec.ofInt 64 (b : Int)).toNat : Int) = _
  rw [BitVec.toNat_and, h1, h2]
  exact IntWalk.i64_in _ (by omega)
theorem i64_and1 (a : Nat) (ha : a < 9223372036854775808) : bits .and .i64 (a : Int) 1 = ((a % 2 : Nat) : Int) := by
  have h := i64_and_nat a 1 ha (by omega)
  rw [Nat.and_one_is_mod] at h
  exact h
theorem i64_and1' (a : Int) (h0 : 0 ≤ a) (h1 : a < 9223372036854775808) : bits .and .i64 a 1 = a % 2 := by
  obtain ⟨n, rfl⟩ := Int.eq_ofNat_of_zero_le h0
  rw [i64_and1 n (by omega)]
  omega

end Go.Proofs.YtbcbmkeeoognpaaGreatDoor

