/- Contracts of functions, and plain facts, part 3. -/
import Derived.Test.YtgnophflogmmaaaDoorProg
import Derived.Lib.TrailingZeros
import Derived.Laws.Bits64b
import Derived.Laws.BitsAllLaws
import Derived.Deep.QuietTactic
import Derived.BigQuiet
import Derived.Lib.BitFns
import Derived.Test.YtgnophflogmmaaaDoorCards
import Derived.Lib.LaidTab
import Derived.Test.YtgnophflogmmaaaDoorPk1
import Derived.Test.YtgnophflogmmaaaDoorPk2
set_option linter.unusedVariables false
set_option linter.unusedSimpArgs false
/- math/bits.TrailingZeros32: a number's odd part. -/
namespace Go.Proofs.YtgnophflogmmaaaDoor
open Go.RowKit

/-- The table of places as its initialiser lays it. -/
def Tab32 (w : World) : Prop := ∀ j, j < 32 → w.cell? ⟨0, j, none⟩ = some (.int .u8 ((Lib.deBruijn32tab.getD j 0 : Nat) : Int))
theorem Tab32.below {w w1 : World} (h : Tab32 w) {B : Nat} (hb : Below B w w1) (hB : w.heap.size ≤ B) : Tab32 w1 := fun j hj => by
  have h1 := h j hj
  rw [← h1]
  exact hb.cell (Nat.lt_of_lt_of_le (World.block_lt_of_cell? w _ h1) hB)

theorem tz32_key (x a : Nat) (hx : x < 2 ^ 32) (hx0 : x ≠ 0) (hlow : x &&& (2 ^ 32 - x) = a) :
    bits BinOp.and IntKind.u32 (x : Int) (-(x : Int) % 4294967296) * 125613361 % 4294967296 / 134217728 = ((a * 125613361 % 4294967296 / 134217728 : Nat) : Int) := by
  rw [show (2 : Nat) ^ 32 = 4294967296 from by decide] at hx hlow
  have e1 : -(x : Int) % 4294967296 = ((4294967296 - x : Nat) : Int) := by omega
  rw [e1, Go.u32_and_nat x _ hx (by omega), hlow]
  omega

theorem tz32_core (x : Int) (k idx : Nat) (w : World) (hx0 : (x == 0) = false)
    (key : bits BinOp.and IntKind.u32 x (-x % 4294967296) * 125613361 % 4294967296 / 134217728 = (idx : Int))
    (hi : idx < 32) (hk : k < 32) (hcell : w.cell? ⟨0, idx, none⟩ = some (.int .u8 k)) :
    Calls Tryd.prog 34 #[.int .u32 x] w fun e w' => e = .returned (.int .i64 k) ∧ w = w' := by
  go_enter Tryd.func34, Tryd.ntmps34
  go_wp2_with (simp only [key])
  go_ret
  exact ⟨rfl, rfl⟩

/-- So many noughts stand at a number's end. -/
def TzR (x : Int) (w : World) (e : Ending) (w' : World) : Prop := ∃ k m : Nat, e = .returned (.int .i64 k) ∧ w = w' ∧ k < 32 ∧ x = ((m * 2 ^ k : Nat) : Int) ∧ m % 2 = 1

theorem tz32_calls (x : Int) (hx : 0 < x ∧ x < 4294967296) (w : World) (hT : Tab32 w) :
    Calls Tryd.prog 34 #[.int .u32 x] w (TzR x w) := by
  obtain ⟨x, rfl⟩ := Int.eq_ofNat_of_zero_le (Int.le_of_lt hx.1)
  have hx1 : x < 2 ^ 32 := by rw [show (2 : Nat) ^ 32 = 4294967296 from by decide]; omega
  obtain ⟨hlow, hk⟩ := Lib.lowest_bit 32 x (by omega) hx1
  obtain ⟨hi, htab⟩ := Lib.deBruijn32_at _ hk
  have hcell := hT _ hi
  rw [htab] at hcell
  have hc0 : ((x : Int) == 0) = false := by simp; omega
  obtain ⟨j, hj, -⟩ := Lib.ctzFrom_spec 32 x (by omega) hx1
  have hc : Lib.ctz 32 x = Lib.ctzFrom 32 x := by unfold Lib.ctz; rw [if_neg (by omega)]
  rw [← hc] at hj
  refine (tz32_core x _ _ w hc0 (tz32_key x _ hx1 (by omega) hlow) hi hk hcell).mono fun e w' q => ⟨_, 2 * j + 1, q.1, q.2, hk, ?_, by omega⟩
  rw [Nat.mul_comm]
  exact congrArg Nat.cast hj

/-- i64's '&' of what is not below 0. -/
theorem i64_and_nat (a b : Nat) (ha : a < 9223372036854775808) (hb : b < 9223372036854775808) : bits .and .i64 (a : Int) (b : Int) = ((a &&& b : Nat) : Int) := by
  have hx : a &&& b < 2 ^ 63 := Nat.and_lt_two_pow _ (by omega)
  have h1 : (BitVec.ofInt 64 (a : Int)).toNat = a := by
    rw [BitVec.ofInt_natCast, BitVec.toNat_ofNat]; exact Nat.mod_eq_of_lt (by omega)
  have h2 : (BitVec.ofInt 64 (b : Int)).toNat = b := by
    rw [BitVec.ofInt_natCast, BitVec.toNat_ofNat]; exact Nat.mod_eq_of_lt (by omega)
  show IntKind.i64.wrap ((BitVec.ofInt 64 (a : Int) &&& BitVec.ofInt 64 (b : Int)).toNat : Int) = _
  rw [BitVec.toNat_and, h1, h2]
  exact IntWalk.i64_in _ (by omega)
theorem i64_and1 (a : Nat) (ha : a < 9223372036854775808) : bits .and .i64 (a : Int) 1 = ((a % 2 : Nat) : Int) := by
  have h := i64_and_nat a 1 ha (by omega)
  rw [Nat.and_one_is_mod] at h
  exact h
theorem i64_and1' (a : Int) (h0 : 0 ≤ a) (h1 : a < 9223372036854775808) : bits .and .i64 a 1 = a % 2 := by
  obtain ⟨n, rfl⟩ := Int.eq_ofNat_of_zero_le h0
  rw [i64_and1 n (by omega)]
  omega

end Go.Proofs.YtgnophflogmmaaaDoor

/- math/bits.Add32: the sum and what is carried. -/
namespace Go.Proofs.YtgnophflogmmaaaDoor
open Go.RowKit
theorem add32_calls (x y c : Int) (w : World) (hx : 0 ≤ x ∧ x < 4294967296) (hy : 0 ≤ y ∧ y < 4294967296) (hc : 0 ≤ c ∧ c < 4294967296) :
    Calls Tryd.prog 36 #[.int .u32 x, .int .u32 y, .int .u32 c] w fun e w' => e = .returned (.tuple #[.int .u32 ((x + y + c) % 4294967296), .int .u32 ((x + y + c) / 4294967296)]) ∧ w = w' := by
  obtain ⟨hx0, hx1⟩ := hx
  obtain ⟨hy0, hy1⟩ := hy
  obtain ⟨hc0, hc1⟩ := hc
  go_enter Tryd.func36, Tryd.ntmps36
  go_wp2
  go_ret2
  exact ⟨rfl, rfl⟩
end Go.Proofs.YtgnophflogmmaaaDoor

/- cruciblelaw01: TwinNat, SameNat. -/
namespace Go.Proofs.YtgnophflogmmaaaDoor
open Go.RowKit

theorem info_limbL : (Tryd.prog.info? 32).map (fun i => (i.zero, i.size, i.bytes)) = some (some (.int .u32 0), 1, 4) := by kernel_rfl

/-- TwinNat: a copy, a mark behind it. -/
def Twin (xs : List Int) (w : World) (e : Ending) (w' : World) : Prop :=
  e = .returned (.slice (some ⟨w.heap.size, 0, none⟩) xs.length (xs.length + 1)) ∧ Blk w' w.heap.size 32 .u32 (xs ++ [2148261425]) ∧ Below w.heap.size w w'

def TwinR (w : World) (xs : List Int) (k : Nat) (wr : World) : Prop :=
  Blk wr w.heap.size 32 .u32 (xs.take k ++ List.replicate (xs.length + 1 - k) 0) ∧ Below w.heap.size w wr

theorem twin_set (xs : List Int) (k : Nat) (hk : k < xs.length) : (xs.take k ++ List.replicate (xs.length + 1 - k) 0).set k (xs[k]?.getD 0) = xs.take (k + 1) ++ List.replicate (xs.length + 1 - (k + 1)) 0 := by
  rw [List.set_append_right _ _ (by rw [List.length_take]; omega), List.length_take, Nat.min_eq_left (by omega), Nat.sub_self, show xs.length + 1 - k = (xs.length + 1 - (k + 1)) + 1 by omega, List.replicate_succ, List.set_cons_zero,
    List.take_add_one, List.getElem?_eq_getElem hk, List.append_assoc]
  rfl

theorem twin_last (xs : List Int) (m : Int) : (xs.take xs.length ++ List.replicate (xs.length + 1 - xs.length) 0).set xs.length m = xs ++ [m] := by
  rw [List.take_length, List.set_append_right _ _ (Nat.le_refl _), Nat.sub_self, show xs.length + 1 - xs.length = 0 + 1 by omega, List.replicate_succ, List.set_cons_zero]
  rfl

theorem twin_calls (ad : Option Addr) (n c : Nat) (xs : List Int) (w : World) (hn : n ≤ 70368744177663) (hr : Rds w .u32 ad n xs) :
    Calls Tryd.prog 9 #[.slice ad n c] w (Twin xs w) := by
  have HL := Lib.hid hr.len
  have hmk := make_rule (P := Tryd.prog) 23 32 .u32 4 Tryd.underlying23 info_limbL (by omega) (n + 1) (by omega) ((n : Int) + 1) (by omega)
  go_enter Tryd.func9, Tryd.ntmps9
  go_wp2
  clear hmk
  have hr0 : TwinR w xs 0 (w.alloc (.cells (nums .u32 (List.replicate (n + 1) 0)).toArray 32)) :=
    ⟨by rw [HL.out]; exact Blk.made _ _ _ _ _ rfl, (Below.refl _ _).alloc (Nat.le_refl _) _⟩
  go_loopw [4] (fun i wr => ∃ k : Nat, k ≤ n ∧ i = .int .i64 k ∧ TwinR w xs k wr) (fun i _ => n - (intOf i).toNat)
  case atStart => exact ⟨0, Nat.zero_le _, rfl, hr0⟩
  case round =>
    clear hr0
    obtain ⟨k, hk, rfl, h1, h2⟩ := hrel
    by_cases hkn : k < n
    · obtain ⟨a, rfl, hxl⟩ := (hr.below h2 (Nat.le_refl _)).cell k hkn
      have hy := h1.cell k (by rw [List.length_append, List.length_take, List.length_replicate, HL.out]; omega)
      have hf := h1.free k
      have HT := Lib.hid (twin_set xs k (by rw [HL.out]; exact hkn))
      have h3 := h1.set k (xs[k]?.getD 0)
      rw [HT.out] at h3
      clear h1
      go_wp2
      go_roundw
      case rel => exact ⟨k + 1, by omega, by go_num, h3, below_set h2 _ _ _ (Nat.le_refl _)⟩
      case measure => simp [intOf]; omega
    · obtain rfl : k = n := by omega
      have hy := h1.cell k (by rw [List.length_append, List.length_take, List.length_replicate, HL.out]; omega)
      have hf := h1.free k
      have h3 := h1.set k 2148261425
      have HT := twin_last xs 2148261425
      rw [HL.out] at HT
      rw [HL.out, HT] at h3
      clear h1 HT
      go_wp2
      go_ret
      refine ⟨by rw [HL.out]; rfl, h3, below_set h2 _ _ _ (Nat.le_refl _)⟩

/-- SameNat: element by element. -/
def Same (r : Bool) (w : World) (e : Ending) (w' : World) : Prop := e = .returned (.bool r) ∧ ∃ q, w' = w.drewN q

theorem eq_of_getD (xs zs : List Int) (h : xs.length = zs.length) (hk : ∀ j, j < xs.length → xs[j]?.getD 0 = zs[j]?.getD 0) : xs = zs := by
  apply List.ext_getElem h
  intro i h1 h2
  have := hk i h1
  rw [List.getElem?_eq_getElem h1, List.getElem?_eq_getElem h2] at this
  exact this

theorem same_calls (ad bd : Option Addr) (n m c d : Nat) (xs zs : List Int) (w : World) (hn : n ≤ 9223372036854775807) (hm : m ≤ 9223372036854775807) (ha : Rds w .u32 ad n xs) (hb : Rds w .u32 bd m zs) :
    Calls Tryd.prog 28 #[.slice ad n c, .slice bd m d] w (Same (decide (xs = zs)) w) := by
  have HL := Lib.hid ha.len
  have HM := Lib.hid hb.len
  by_cases hnm : n = m
  · subst hnm
    go_enter Tryd.func28, Tryd.ntmps28
    go_wp2
    go_loopw [5] (fun i wr => ∃ k : Nat, k ≤ n ∧ i = .int .i64 k ∧ Hid (∃ q, wr = w.drewN q) ∧ Hid (∀ j, j < k → xs[j]?.getD 0 = zs[j]?.getD 0)) (fun i _ => n - (intOf i).toNat)
    case atStart => exact ⟨0, Nat.zero_le _, rfl, ⟨0, rfl⟩, fun j hj => by omega⟩
    case round =>
      obtain ⟨k, hk, rfl, hq, hz⟩ := hrel
      obtain ⟨q, rfl⟩ := hq.out
      clear hq
      by_cases hkn : k < n
      · obtain ⟨a, rfl, hxl⟩ := ha.cell k hkn
        obtain ⟨b, rfl, hzl⟩ := hb.cell k hkn
        clear ha hb
        generalize hgx : xs[k]?.getD 0 = x at *
        have HX := Lib.hid hgx
        clear hgx
        generalize hgz : zs[k]?.getD 0 = z at *
        have HZ := Lib.hid hgz
        clear hgz
        have hk0 : (0 : Int) ≤ (k : Int) := by omega
        by_cases hxz : x = z
        · subst hxz
          have ht : (x != x) = false := by simp
          go_wp2_with fail
          go_quiet (fail)
          go_wp2
          go_roundw
          case rel =>
            refine ⟨k + 1, by omega, by go_num, ⟨_, rfl⟩, fun j hj => ?_⟩
            by_cases e : j = k
            · subst e; rw [HX.out, HZ.out]
            · exact hz.out j (by omega)
          case measure => simp [intOf]; omega
        · have ht : (x != z) = true := by simp [hxz]
          have HF : Hid (decide (xs = zs) = false) := by
            refine decide_eq_false fun e => hxz ?_
            rw [← HX.out, ← HZ.out, e]
          clear hxz
          go_wp2_with fail
          go_quiet (fail)
          go_wp2
          go_ret
          rw [HF.out]
          exact ⟨rfl, _, World.drewN_drewN ..⟩
      · obtain rfl : k = n := by omega
        have HT : Hid (decide (xs = zs) = true) := decide_eq_true (eq_of_getD xs zs (by rw [HL.out, HM.out]) (fun j hj => hz.out j (by rw [HL.out] at hj; exact hj)))
        go_wp2
        go_ret
        rw [HT.out]
        exact ⟨rfl, _, rfl⟩
  · have HF : Hid (decide (xs = zs) = false) := by
      refine decide_eq_false fun e => hnm ?_
      rw [← HL.out, ← HM.out, e]
    have ht : ((n : Int) != (m : Int)) = true := by simp; omega
    clear hnm
    go_enter Tryd.func28, Tryd.ntmps28
    go_wp2
    go_ret
    rw [HF.out]
    exact ⟨rfl, 0, rfl⟩

theorem same_true (ad bd : Option Addr) (n m c d : Nat) (xs zs : List Int) (w : World) (B B' : Nat) (t t' : TypeId) (ha : Own B w t .u32 ad n c xs) (hb : Own B' w t' .u32 bd m d zs) (h : xs = zs) :
    Calls Tryd.prog 28 #[.slice ad n c, .slice bd m d] w (Same true w) := by
  have := same_calls ad bd n m c d xs zs w (by have := ha.le; have := ha.big; omega) (by have := hb.le; have := hb.big; omega) ha.rds hb.rds
  rwa [decide_eq_true h] at this

theorem twin_rds {w : World} {b n : Nat} {xs : List Int} (ht : Blk w b 32 .u32 (xs ++ [2148261425])) (hl : xs.length = n) : Rds w .u32 (some ⟨b, 0, none⟩) n xs := by
  have := ht.rds.take n (by rw [List.length_append, hl]; simp)
  rwa [List.take_append_of_le_length (by rw [hl]; exact Nat.le_refl _), ← hl, List.take_length, hl] at this
end Go.Proofs.YtgnophflogmmaaaDoor

/- How many digits, how many bits a number has; which of two lists is the greater number: plain facts. -/
namespace Go.Proofs.YtgnophflogmmaaaDoor

theorem dg_lt_of_len (b : Nat) (hb : 2 ≤ b) (n : Nat) (V : Int) (hV : 0 ≤ V) (h : (dg b V).length ≤ n) : V < (b : Int) ^ n := by
  have h1 := val_lt (b := b) (by omega) (dg_dig b hb V.toNat)
  have e : val b (digs b V.toNat) = V := val_dg b hb V hV
  rw [e] at h1
  exact Int.lt_of_lt_of_le h1 (pow_le (by omega) h)

theorem dg_len_iff (b : Nat) (hb : 2 ≤ b) (n : Nat) (V : Int) (hV : 0 ≤ V) : (dg b V).length ≤ n ↔ V < (b : Int) ^ n :=
  ⟨dg_lt_of_len b hb n V hV, dg_length_le b hb n V⟩

/-- A number below 2 to the 64, else 0. -/
def low64 (V : Int) : Int := if V < 18446744073709551616 then V else 0
def fits64 (V : Int) : Bool := decide (V < 18446744073709551616)

/-- How many bits. -/
def blen (n : Nat) : Nat := if n = 0 then 0 else n.log2 + 1

theorem blen_eq (n k : Nat) (h0 : 2 ^ k ≤ n) (h1 : n < 2 ^ (k + 1)) : blen n = k + 1 := by
  have hn : n ≠ 0 := by
    have := Nat.two_pow_pos k
    omega
  unfold blen
  rw [if_neg hn]
  have a := (Nat.le_log2 hn).2 h0
  have b := (Nat.log2_lt hn).2 h1
  omega

theorem blen_lt (n : Nat) : n < 2 ^ blen n := by
  unfold blen
  split
  · omega
  · rename_i h
    exact (Nat.log2_lt h).1 (Nat.lt_succ_self _)
theorem blen_ge (n : Nat) (hn : n ≠ 0) : 2 ^ (blen n - 1) ≤ n := by
  unfold blen
  rw [if_neg hn]
  exact (Nat.le_log2 hn).1 (by omega)
theorem blen_zero : blen 0 = 0 := rfl
theorem blen_pos (n : Nat) (h : n ≠ 0) : 0 < blen n := by
  unfold blen
  rw [if_neg h]
  omega

theorem blen_half (n : Nat) (h : n ≠ 0) : blen n = blen (n / 2) + 1 := by
  by_cases h2 : n / 2 = 0
  · have : n = 1 := by omega
    subst this
    decide
  · have a := blen_ge (n / 2) h2
    have b := blen_lt (n / 2)
    have c := blen_pos (n / 2) h2
    refine blen_eq n (blen (n / 2)) ?_ ?_
    · have e : 2 ^ blen (n / 2) = 2 * 2 ^ (blen (n / 2) - 1) := by
        rw [show blen (n / 2) = (blen (n / 2) - 1) + 1 by omega, Nat.pow_succ, Nat.mul_comm]
        simp
      omega
    · rw [Nat.pow_succ]
      omega

theorem bitLen_blen (n : Nat) (h : n < 2 ^ 64) : Lib.bitLen n = blen n := by
  induction n using Nat.strongRecOn with
  | ind n ih =>
    by_cases h0 : n = 0
    · subst h0; rfl
    · rw [Lib.bitLen_half n h0 h, ih (n / 2) (by omega) (by omega), blen_half n h0]
      omega

/-- A number by its lowest places and the highest. -/
theorem blen_split (lo top e : Nat) (hl : lo < 2 ^ e) (ht : top ≠ 0) : blen (lo + 2 ^ e * top) = e + blen top := by
  have a := blen_ge top ht
  have b := blen_lt top
  have c := blen_pos top ht
  obtain ⟨t, hT⟩ : ∃ t, blen top = t + 1 := ⟨blen top - 1, by omega⟩
  rw [hT] at a b ⊢
  simp only [Nat.add_sub_cancel] at a
  refine (blen_eq _ (e + t) ?_ ?_).trans (by omega)
  · rw [Nat.pow_add]
    have := Nat.mul_le_mul_left (2 ^ e) a
    omega
  · rw [show e + t + 1 = e + (t + 1) by omega, Nat.pow_add]
    have := Nat.mul_le_mul_left (2 ^ e) (show top + 1 ≤ 2 ^ (t + 1) by omega)
    rw [Nat.mul_add] at this
    omega

theorem norm_last {b : Int} {xs : List Int} (hn : norm xs = xs) (m : Nat) (hm : xs.length = m + 1) : xs[m]?.getD 0 ≠ 0 := by
  intro h
  have hm' : m < xs.length := by omega
  have h1 : (norm xs).length ≤ m := by
    rcases Nat.lt_or_ge m (norm xs).length with h2 | h2
    · exfalso
      -- a list with 0 at its end is longer than its norm
      have e : xs = xs.take m ++ List.replicate 1 0 := by
        conv => lhs; rw [← List.take_append_drop m xs]
        rw [List.drop_eq_getElem_cons hm', List.drop_of_length_le (by omega)]
        rw [List.getElem?_eq_getElem hm'] at h
        simp at h
        simp [h]
      have h3 := norm_append_zeros (xs.take m) 1
      rw [← e] at h3
      have h4 := norm_length_le (xs.take m)
      have h5 : (xs.take m).length = m := by rw [List.length_take]; omega
      rw [h3] at h2
      omega
    · exact h2
  rw [hn] at h1
  omega

/-- The bits of a list of limbs (w bits to a limb) that has no nought at its end. -/
theorem blen_list (w : Nat) (b : Int) (hb : b = 2 ^ w) (xs : List Int) (hd : Dig b xs) (hn : norm xs = xs) (m : Nat) (hm : xs.length = m + 1) :
    blen (val b xs).toNat = w * m + blen (xs[m]?.getD 0).toNat := by
  have hbp : 0 < b := by rw [hb]; exact Int.pow_pos (by omega)
  have hsplit := val_split b xs m (by omega)
  have hdrop := val_drop b xs m (by omega)
  rw [List.drop_of_length_le (show xs.length ≤ m + 1 by omega)] at hdrop
  simp only [val, Int.mul_zero, Int.add_zero] at hdrop
  rw [hdrop] at hsplit
  have hlo := val_lt hbp (hd.take m)
  have hlo0 := val_nonneg hbp (hd.take m)
  rw [List.length_take, Nat.min_eq_left (by omega)] at hlo
  have ht := hd.get hbp m
  have ht0 := norm_last (b := b) hn m hm
  generalize xs[m]?.getD 0 = t at *
  generalize val b (xs.take m) = lo at *
  obtain ⟨lo, rfl⟩ := Int.eq_ofNat_of_zero_le hlo0
  obtain ⟨t, rfl⟩ := Int.eq_ofNat_of_zero_le ht.1
  have e : b ^ m = ((2 ^ (w * m) : Nat) : Int) := by
    rw [hb, Int.natCast_pow, ← Int.pow_mul]
    rfl
  rw [e] at hsplit hlo
  rw [hsplit]
  have e2 : ((lo : Int) + ((2 ^ (w * m) : Nat) : Int) * (t : Int)).toNat = lo + 2 ^ (w * m) * t := by
    rw [← Int.natCast_mul, ← Int.natCast_add, Int.toNat_natCast]
  rw [e2, blen_split lo t (w * m) (by omega) (by omega)]
  simp

/-- More digits, a greater number. -/
theorem lt_of_len {b : Int} (hb : 0 < b) {xs zs : List Int} (hx : Dig b xs) (hz : Dig b zs) (hn : norm zs = zs) (h : xs.length < zs.length) : val b xs < val b zs := by
  have h1 := val_lt hb hx
  have h2 := val_ge hb hz hn (by intro e; rw [e] at h; simp at h)
  exact Int.lt_of_lt_of_le (Int.lt_of_lt_of_le h1 (pow_le (by omega) (by omega))) h2

/-- The highest place that differs decides. -/
theorem lt_at {b : Int} (hb : 0 < b) {xs zs : List Int} (hx : Dig b xs) (hz : Dig b zs) (k : Nat) (h1 : k < xs.length) (h2 : k < zs.length) (he : val b (xs.drop (k + 1)) = val b (zs.drop (k + 1))) (h : xs[k]?.getD 0 < zs[k]?.getD 0) :
    val b xs < val b zs := by
  have s1 := val_split b xs k (by omega)
  have s2 := val_split b zs k (by omega)
  rw [val_drop b xs k h1] at s1
  rw [val_drop b zs k h2, ← he] at s2
  have l1 := val_lt hb (hx.take k)
  have l2 := val_nonneg hb (hz.take k)
  rw [List.length_take, Nat.min_eq_left (by omega)] at l1
  rw [s1, s2]
  have hp : 0 < b ^ k := Int.pow_pos hb
  generalize b ^ k = P at *
  generalize xs[k]?.getD 0 = x at *
  generalize zs[k]?.getD 0 = z at *
  generalize val b (xs.take k) = A at *
  generalize val b (zs.take k) = C at *
  generalize b * val b (xs.drop (k + 1)) = R at *
  have : P * (x + R + 1) ≤ P * (z + R) := Int.mul_le_mul_of_nonneg_left (by omega) (Int.le_of_lt hp)
  rw [Int.mul_add P (x + R) 1] at this
  omega
end Go.Proofs.YtgnophflogmmaaaDoor

/- nat.Norm: the number without noughts at its end. -/
namespace Go.Proofs.YtgnophflogmmaaaDoor
open Go.RowKit
theorem size_limb : (Tryd.prog.info? 32).map (·.size) = some 1 := by kernel_rfl

theorem norm_calls (ad : Option Addr) (n c : Nat) (xs : List Int) (w : World) (hn : n ≤ 70368744177664) (hnc : n ≤ c) (hr : Rds w .u32 ad n xs) (dx : Dig 4294967296 xs) :
    Calls Tryd.prog 24 #[.slice ad n c] w (RetL 32 .u32 (dg 4294967296 (val 4294967296 xs)) w) := by
  have hc := Lib.hid (cut_calls ad n c xs w (by omega) hnc hr)
  have rx := hr.norm
  have hl := norm_length_le xs
  rw [hr.len] at hl
  have E := Lib.hid (norm_eq 4294967296 (by omega) dx)
  clear hr
  generalize norm xs = ls at *
  obtain ⟨m, hm⟩ : ∃ m, ls.length = m := ⟨_, rfl⟩
  rw [hm] at hc rx hl
  have HM := Lib.hid hm
  clear hm
  have hmk := make_rule (P := Tryd.prog) 23 32 .u32 4 Tryd.underlying23 info_limb (by omega) m (by omega) (m : Int) rfl
  go_enter Tryd.func24, Tryd.ntmps24
  go_wp2_with fail
  refine (hc.out).mono ?_
  rintro e w' ⟨rfl, rfl⟩
  have b0 : Below w.heap.size w (w.alloc (.cells (nums .u32 (List.replicate m 0)).toArray 32)) := (Below.refl _ _).alloc (Nat.le_refl _) _
  have r0 := rx.below b0 (Nat.le_refl _)
  have k0 := Blk.made w 32 .u32 (List.replicate m 0) w.heap.size rfl
  go_wp2_with (refine copy_law w.heap.size rfl (.tmp 9) (.tmp 10) 23 23 rfl 32 Tryd.underlying23 size_limb (some ⟨w.heap.size, 0, none⟩) ad m m m m rfl rfl w.heap.size 0 .u32 (List.replicate m 0) ls k0 r0 (Nat.le_refl _) (fun _ => rfl) (by simp) b0 (Nat.le_refl _) ?_; intro w2 k2 b2)
  go_ret
  have k3 : Blk w2 w.heap.size 32 .u32 ls := by simpa [List.drop_of_length_le] using k2
  have O := k3.own (Nat.le_refl _) m (by rw [HM.out]; exact Nat.le_refl _) (by rw [HM.out]; omega)
  rw [← HM.out, List.take_length] at O
  rw [HM.out] at O
  refine ⟨_, _, _, rfl, ?_, b2⟩
  have E' : ls = dg 4294967296 (val 4294967296 xs) := E.out
  rw [← E']
  exact O
end Go.Proofs.YtgnophflogmmaaaDoor

/- Two lists and a bool are handed back. -/
namespace Go.Proofs.YtgnophflogmmaaaDoor
open Go.RowKit
def RetLLB (t : TypeId) (k : IntKind) (zs rs : List Int) (ok : Bool) (w : World) (e : Ending) (w' : World) : Prop :=
  ∃ ad n c ad2 n2 c2, e = .returned (.tuple #[.slice ad n c, .slice ad2 n2 c2, .bool ok]) ∧ Own w.heap.size w' t k ad n c zs ∧ Own w.heap.size w' t k ad2 n2 c2 rs ∧ Below w.heap.size w w' ∧
    (0 < c → 0 < c2 → ∀ a a2, ad = some a → ad2 = some a2 → a.block ≠ a2.block)
theorem RetLLB.after {t : TypeId} {k : IntKind} {zs rs : List Int} {ok : Bool} {w w1 : World} {e : Ending} {w2 : World} (h : RetLLB t k zs rs ok w1 e w2) (hb : Below w.heap.size w w1) : RetLLB t k zs rs ok w e w2 := by
  obtain ⟨ad, n, c, ad2, n2, c2, e1, h1, h2, h3, h4⟩ := h
  exact ⟨ad, n, c, ad2, n2, c2, e1, h1.mono hb.size, h2.mono hb.size, below_trans hb h3, h4⟩
end Go.Proofs.YtgnophflogmmaaaDoor

/- nat.From: a small number as a list. -/
namespace Go.Proofs.YtgnophflogmmaaaDoor
open Go.RowKit
theorem from_calls (x : Int) (w : World) (h0 : 0 ≤ x) (h1 : x < 18446744073709551616) :
    Calls Tryd.prog 30 #[.int .u64 x] w (RetL 32 .u32 (dg 4294967296 x) w) := by
  have k0 : Blk (w.alloc (.cells #[.int .u32 (x % 4294967296), .int .u32 (x / 4294967296)] 32)) w.heap.size 32 .u32 [x % 4294967296, x / 4294967296] := Blk.made w 32 .u32 [x % 4294967296, x / 4294967296] _ rfl
  have b0 : Below w.heap.size w (w.alloc (.cells #[.int .u32 (x % 4294967296), .int .u32 (x / 4294967296)] 32)) := (Below.refl _ _).alloc (Nat.le_refl _) _
  have hd : Dig 4294967296 [x % 4294967296, x / 4294967296] := Dig.cons (by omega) (by omega) (Dig.cons (by omega) (by omega) (Dig.nil _))
  have hv : val 4294967296 [x % 4294967296, x / 4294967296] = x := by simp [val]; omega
  have hc := Lib.hid (cut_calls (some ⟨w.heap.size, 0, none⟩) 2 2 _ _ (by omega) (Nat.le_refl _) k0.rds)
  have R := Lib.hid (k0.ret (Nat.le_refl _) (by simp) hd _ hv b0)
  clear k0 b0 hd hv
  go_enter Tryd.func30, Tryd.ntmps30
  go_wp2_with fail
  refine (hc.out).mono ?_
  rintro e w' ⟨rfl, rfl⟩
  go_wp2_with fail
  go_ret
  exact R.out
end Go.Proofs.YtgnophflogmmaaaDoor

/- Numbers in decimal: plain. -/
namespace Go.Proofs.YtgnophflogmmaaaDoor

/-- Digits as they are written. -/
def asc (xs : List Int) : List Int := xs.map (· + 48)
theorem asc_length (xs : List Int) : (asc xs).length = xs.length := by simp [asc]
theorem asc_append (xs ys : List Int) : asc (xs ++ ys) = asc xs ++ asc ys := by simp [asc]
theorem asc_dig {xs : List Int} (h : Dig 10 xs) : Dig 256 (asc xs) := fun x hx => by
  simp only [asc, List.mem_map] at hx
  obtain ⟨y, hy, rfl⟩ := hx
  have := h y hy
  omega
/-- A number in decimal, the highest digit first. -/
def decL (V : Int) : List Int := if V = 0 then [48] else (asc (dg 10 V)).reverse
theorem Dig.reverse {b : Int} {xs : List Int} (h : Dig b xs) : Dig b xs.reverse := fun x hx => h x (List.mem_reverse.1 hx)
theorem decL_dig (V : Int) : Dig 256 (decL V) := by
  unfold decL
  split
  · intro x hx; simp at hx; omega
  · exact (asc_dig (dg_dig 10 (by omega) _)).reverse

theorem norm_snoc (xs : List Int) (d : Int) (h : d ≠ 0) : norm (xs ++ [d]) = xs ++ [d] := by
  have e := norm_stop (xs ++ [d]) (xs.length + 1) (by simp) (fun j hj => by rw [List.getElem?_eq_none (by simp; omega)]; rfl) (.inr (by simp; exact h))
  rw [e, List.take_of_length_le (by simp)]

/-- One digit is told: behind it n / 10 and what stands above. -/
theorem dec_step (xs : List Int) (n R V : Int) (k : Nat) (hk : k < 9) (h : val 10 xs + 10 ^ xs.length * (n + 10 ^ (9 - k) * R) = V) :
    val 10 (xs ++ [n % 10]) + 10 ^ (xs ++ [n % 10]).length * (n / 10 + 10 ^ (9 - (k + 1)) * R) = V := by
  have e1 : 9 - k = (9 - (k + 1)) + 1 := by omega
  rw [val_snoc, List.length_append, List.length_singleton, Int.pow_succ, ← h, e1, Int.pow_succ]
  generalize (10 : Int) ^ (9 - (k + 1)) = P
  generalize (10 : Int) ^ xs.length = L
  have hn : n = 10 * (n / 10) + n % 10 := by omega
  generalize n / 10 = q at *
  generalize n % 10 = r at *
  subst hn
  grind
theorem dec_lt (n : Int) (k : Nat) (hk : k < 9) (hn : n < 10 ^ (9 - k)) : n / 10 < 10 ^ (9 - (k + 1)) := by
  have e1 : 9 - k = (9 - (k + 1)) + 1 := by omega
  rw [e1, Int.pow_succ] at hn
  generalize (10 : Int) ^ (9 - (k + 1)) = P at *
  omega
theorem dec_end (xs : List Int) (V : Int) (d : Dig 10 xs) (hn : norm xs = xs) (h : val 10 xs + 10 ^ xs.length * 0 = V) : xs = dg 10 V := by
  rw [Int.mul_zero, Int.add_zero] at h
  have := norm_eq 10 (by omega) d
  rw [hn, show ((10 : Nat) : Int) = 10 from rfl, h] at this
  exact this
/-- So many digits at most. -/
theorem dec_len (V T v : Int) (len na : Nat) (h : v + 10 ^ len * T = V) (hv : 0 ≤ v) (hT : 0 < T) (hV : V < 4294967296 ^ na) : len + 1 ≤ 32 * na := by
  have h1 : (10 : Int) ^ len * 1 ≤ 10 ^ len * T := Int.mul_le_mul_of_nonneg_left (by omega) (Int.le_of_lt (Int.pow_pos (by omega)))
  have h2 : (2 : Int) ^ len ≤ 10 ^ len := by
    have : ∀ k : Nat, (2 : Int) ^ k ≤ 10 ^ k := by
      intro k
      induction k with
      | zero => simp
      | succ k ih =>
        rw [Int.pow_succ, Int.pow_succ]
        have := Int.pow_pos (n := 2) (show (0 : Int) < 2 by omega) (m := k)
        omega
    exact this len
  have h3 : (4294967296 : Int) ^ na = 2 ^ (32 * na) := by rw [show (4294967296 : Int) = 2 ^ 32 from by decide, ← Int.pow_mul]
  rcases Nat.lt_or_ge len (32 * na) with h4 | h4
  · omega
  · have := pow_le (b := 2) (by omega) h4
    omega
end Go.Proofs.YtgnophflogmmaaaDoor

/- nat.Mul: what the call answers. -/
namespace Go.Proofs.YtgnophflogmmaaaDoor
open Go.RowKit

/-- The row behind i places of the first number. -/
def MulR (w : World) (t : TypeId) (xs zs : List Int) (m n i : Nat) (wr : World) : Prop :=
  ∃ ys, Blk wr w.heap.size t .u32 ys ∧ ys.length = m + n ∧ Dig 4294967296 ys ∧ Below w.heap.size w wr ∧ val 4294967296 ys = val 4294967296 (xs.take i) * val 4294967296 zs ∧ ∀ j, i + n ≤ j → ys[j]?.getD 0 = 0
/-- The row behind k places of the second one, c carried. -/
def MulI (w : World) (t : TypeId) (xs zs : List Int) (m n i k : Nat) (c : Int) (wr : World) : Prop :=
  ∃ ys, Blk wr w.heap.size t .u32 ys ∧ ys.length = m + n ∧ Dig 4294967296 ys ∧ Below w.heap.size w wr ∧ 0 ≤ c ∧ c < 4294967296 ∧
    val 4294967296 ys + c * 4294967296 ^ (i + k) = val 4294967296 (xs.take i) * val 4294967296 zs + xs[i]?.getD 0 * 4294967296 ^ i * val 4294967296 (zs.take k) ∧ ∀ j, i + n ≤ j → ys[j]?.getD 0 = 0

/-- nat.Mul: the product. -/
theorem mul_calls (ad bd : Option Addr) (na nb ca cb : Nat) (la lb : List Int) (w : World) (hl : (na + nb) * 4 ≤ 281474976710656) (hac : na ≤ ca) (hbc : nb ≤ cb)
    (ha : Rds w .u32 ad na la) (hb : Rds w .u32 bd nb lb) (da : Dig 4294967296 la) (db : Dig 4294967296 lb) :
    Calls Tryd.prog 15 #[.slice ad na ca, .slice bd nb cb] w (RetL 32 .u32 (dg 4294967296 (val 4294967296 la * val 4294967296 lb)) w) := by
  have rx := ha.norm
  have rz := hb.norm
  have dx := norm_dig da
  have dz := norm_dig db
  have hma := norm_length_le la
  have hnb := norm_length_le lb
  rw [ha.len] at hma
  rw [hb.len] at hnb
  have HV : Hid (val 4294967296 (norm la) * val 4294967296 (norm lb) = val 4294967296 la * val 4294967296 lb) := by rw [val_norm, val_norm]; rfl
  have c1 := cut_calls ad na ca la w (by omega) hac ha
  have c2 := cut_calls bd nb cb lb w (by omega) hbc hb
  have C1 := Lib.hid c1
  have C2 := Lib.hid c2
  clear c1 c2 ha hb
  generalize norm la = xs at *
  generalize norm lb = zs at *
  obtain ⟨m, hm⟩ : ∃ m, xs.length = m := ⟨_, rfl⟩
  obtain ⟨n, hn⟩ : ∃ n, zs.length = n := ⟨_, rfl⟩
  rw [hm] at rx hma C1
  rw [hn] at rz hnb C2
  have HM := Lib.hid hm
  have HN := Lib.hid hn
  clear hm hn
  have hmk := make_rule (P := Tryd.prog) 23 32 .u32 4 Tryd.underlying23 info_limb (by omega) (m + n) (by omega) ((m : Int) + n) (by omega)
  go_enter Tryd.func15, Tryd.ntmps15
  go_wp2_with fail
  refine (C1.out).mono ?_
  rintro e w' ⟨rfl, rfl⟩
  go_wp2_with fail
  refine (C2.out).mono ?_
  rintro e w' ⟨rfl, rfl⟩
  go_wp2_with fail
  clear hmk
  have hr0 : MulR w 32 xs zs m n 0 (w.alloc (.cells (nums .u32 (List.replicate (m + n) 0)).toArray 32)) :=
    ⟨_, Blk.made _ _ _ _ _ rfl, by simp, Dig.replicate _ (by omega) _, (Below.refl _ _).alloc (Nat.le_refl _) _, by simp [val, val_replicate], fun j _ => by simp [List.getElem?_replicate]; split <;> rfl⟩
  go_loopw [21] (fun i wr => ∃ k : Nat, k ≤ m ∧ i = .int .i64 k ∧ MulR w 32 xs zs m n k wr) (fun i _ => m - (intOf i).toNat)
  case atStart => exact ⟨0, Nat.zero_le _, rfl, hr0⟩
  case round =>
    obtain ⟨i, hi, rfl, hR⟩ := hrel
    clear hr0
    by_cases him : i < m
    · have hI0 : MulI w 32 xs zs m n i 0 0 wr := by
        obtain ⟨ys, h1, h2, h3, h4, h5, h6⟩ := hR
        exact ⟨ys, h1, h2, h3, h4, by omega, by omega, by simp [h5, val], h6⟩
      clear hR
      go_wp2
      go_loopw [26, 7] (fun j cy wr => ∃ k : Nat, ∃ c : Int, k ≤ n ∧ j = .int .i64 k ∧ cy = .int .u64 c ∧ MulI w 32 xs zs m n i k c wr) (fun j _ _ => n - (intOf j).toNat)
      case atStart => exact ⟨0, 0, Nat.zero_le _, rfl, rfl, hI0⟩
      case round =>
        clear hI0
        obtain ⟨k, c, hk, rfl, rfl, ys, h1, h2, h3, h4, hc0, hc1, h5, h6⟩ := hrel
        have H2 := Lib.hid h2
        have H5 := Lib.hid h5
        have H6 := Lib.hid h6
        clear h2 h5 h6
        by_cases hkn : k < n
        · obtain ⟨a, rfl, hx⟩ := rx.cell i him
          obtain ⟨b, rfl, hz⟩ := rz.cell k hkn
          have hxl : wr.cell? (a.add i) = some (.int .u32 (xs[i]?.getD 0)) := (h4.cell (by simpa [Addr.add] using World.block_lt_of_cell? w _ hx)).trans hx
          have hzl : wr.cell? (b.add k) = some (.int .u32 (zs[k]?.getD 0)) := (h4.cell (by simpa [Addr.add] using World.block_lt_of_cell? w _ hz)).trans hz
          have hy := h1.cell (i + k) (by rw [H2.out]; omega)
          have hf := h1.free (i + k)
          clear hx hz
          have S := mul_step 4294967296 ys (i + k) (by rw [H2.out]; omega) _ c (xs[i]?.getD 0 * zs[k]?.getD 0) rfl
          have bx := dx.get (by omega) i
          have bz := dz.get (by omega) k
          have bo := h3.get (by omega) (i + k)
          have bb := mul_bound (o := ys[i + k]?.getD 0) rfl bx.1 bx.2 bz.1 bz.2 bo.1 bo.2 hc0 hc1
          have N := mul_inner 4294967296 _ _ zs ys _ i k (by rw [HN.out]; exact hkn) c _ H5.out S
          have HS := Lib.hid N
          clear S N H5
          generalize hgx : xs[i]?.getD 0 = x at *
          have HX := Lib.hid hgx
          clear hgx
          generalize zs[k]?.getD 0 = z at *
          generalize hgy : ys[i + k]?.getD 0 = y at *
          have HY := Lib.hid hgy
          clear hgy
          generalize ht : x * z = t at *
          have HT := Lib.hid ht
          clear ht
          obtain ⟨bt0, bt1, bs0, bs1⟩ := bb
          have W1 : IntKind.i64.wrap ((i : Int) + k) = (i : Int) + k := IntWalk.i64_in _ (by omega)
          have W2 : IntKind.u64.wrap (x * z) = t := by rw [HT.out]; exact IntWalk.u64_in _ (by omega)
          have W3 : IntKind.u64.wrap (t + y) = t + y := IntWalk.u64_in _ (by omega)
          have W4 : IntKind.u64.wrap (c + (t + y)) = c + (t + y) := IntWalk.u64_in _ (by omega)
          have W5 : ((i : Int) + k).toNat = i + k := by omega
          have W6 : (0 : Int) ≤ (i : Int) + k := by omega
          go_wp2_with fail
          go_quiet (fail)
          clear W1 W2 W3 W4 W5 W6
          go_wp2
          go_roundw
          case rel =>
            refine ⟨k + 1, _, by omega, by go_num, rfl, _, (h1.drewN nq).set (i + k) _, by simp [H2.out], h3.set (by omega) (by omega) _, below_set (below_drewN h4 nq) _ _ _ (Nat.le_refl _), by omega, by omega, by rw [HX.out]; exact HS.out, fun j hj => ?_⟩
            rw [List.getElem?_set_ne (by omega)]
            exact H6.out j (by omega)
          case measure => simp [intOf]; omega
        · obtain rfl : k = n := by omega
          have hy := h1.cell (i + k) (by rw [H2.out]; omega)
          have hf := h1.free (i + k)
          have bo := h3.get (by omega) (i + k)
          have E := mul_outer 4294967296 xs zs ys i k (by rw [HM.out]; exact him) HN.out.symm (by rw [H2.out]; omega) c (H6.out _ (Nat.le_refl _)) H5.out
          have HE := Lib.hid E
          clear E
          go_wp2
          go_roundw
          case rel =>
            refine ⟨i + 1, by omega, by go_num, _, h1.set (i + k) c, by simp [H2.out], h3.set hc0 hc1 _, below_set h4 _ _ _ (Nat.le_refl _), HE.out, fun j hj => ?_⟩
            rw [List.getElem?_set_ne (by omega)]
            exact H6.out j (by omega)
          case measure => simp [intOf]; omega
    · obtain rfl : i = m := by omega
      obtain ⟨ys, h1, h2, h3, h4, h5, h6⟩ := hR
      have H2 := Lib.hid h2
      have H5 := Lib.hid h5
      have H6 := Lib.hid h6
      clear h2 h5 h6
      have hk := cut_calls (some ⟨w.heap.size, 0, none⟩) (i + n) (i + n) ys wr (by omega) (Nat.le_refl _) (by have := h1.rds; rwa [H2.out] at this)
      go_wp2_with fail
      refine hk.mono ?_
      rintro e w' ⟨rfl, rfl⟩
      go_wp2_with fail
      go_ret
      refine h1.ret (Nat.le_refl _) (by rw [H2.out]; omega) h3 _ ?_ h4
      rw [← HV.out, H5.out, ← HM.out, List.take_length]
end Go.Proofs.YtgnophflogmmaaaDoor

/- The table of places out of a row's list. -/
namespace Go.Proofs.YtgnophflogmmaaaDoor
open Go.RowKit

theorem gTz32 : Tryd.prog.globalNamed "math/bits.deBruijn32tab" = some 0 := by kernel_rfl
theorem gTz32Type : (Tryd.prog.globals[0]?).map (·.type) = some 67 := by kernel_rfl
theorem cellsTz32 : Tryd.prog.cellsOf 67 = 32 := by kernel_rfl
theorem cellsU8t : Tryd.prog.cellsOf 5 = 1 := by kernel_rfl
theorem tz32_get : ∀ j, j < 32 → (Lib.deBruijn32tab.map (fun n : Nat => (n : Int))).getD j 0 = ((Lib.deBruijn32tab.getD j 0 : Nat) : Int) := by decide

theorem tab32_of_laid {W : World} {rest : List (String × DataW Unit)} (h : laidMet Tryd.prog (("math/bits.deBruijn32tab", Rows.laid_math_bits_deBruijn32tab) :: rest) W) : Tab32 W := by
  have ht : Lib.TabIs Tryd.prog W "math/bits.deBruijn32tab" .u8 (Lib.deBruijn32tab.map (fun n : Nat => (n : Int))) :=
    Lib.tabIs_of_head (rest := rest) gTz32 gTz32Type Tryd.underlying67 Tryd.underlying5 cellsU8t cellsTz32 h
  intro j hj
  rw [← tz32_get j hj]
  exact ht.cell gTz32 j (by decide +revert)
end Go.Proofs.YtgnophflogmmaaaDoor
