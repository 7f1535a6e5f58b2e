/- Contracts of functions, and plain facts, part 6. -/
import Derived.Test.YtoimhjcpeifegaaGreatDoorProg
import Derived.Deep.QuietTactic
import Derived.BigQuiet
import Derived.Lib.BitFns
import Derived.BigRegion
import Derived.Test.YtoimhjcpeifegaaGreatDoorPk2
import Derived.Test.YtoimhjcpeifegaaGreatDoorPk4
set_option linter.unusedVariables false
set_option linter.unusedSimpArgs false
/- cruciblelaw01: TwinNat, SameNat. -/
namespace Go.Proofs.YtoimhjcpeifegaaGreatDoor
open Go.RowKit

/-- SameNat: element by element. -/
def Same (r : Bool) (w : World) (e : Ending) (w' : World) : Prop := e = .returned (.bool r) ∧ ∃ q, w' = w.drewN q

theorem eq_of_getD (xs zs : List Int) (h : xs.length = zs.length) (hk : ∀ j, j < xs.length → xs[j]?.getD 0 = zs[j]?.getD 0) : xs = zs := by
  apply List.ext_getElem h
  intro i h1 h2
  have := hk i h1
  rw [List.getElem?_eq_getElem h1, List.getElem?_eq_getElem h2] at this
  exact this

theorem same_calls (ad bd : Option Addr) (n m c d : Nat) (xs zs : List Int) (w : World) (hn : n ≤ 9223372036854775807) (hm : m ≤ 9223372036854775807) (ha : Rds w .u32 ad n xs) (hb : Rds w .u32 bd m zs) :
    Calls Tryz.prog 125 #[.slice ad n c, .slice bd m d] w (Same (decide (xs = zs)) w) := by
  have HL := Lib.hid ha.len
  have HM := Lib.hid hb.len
  by_cases hnm : n = m
  · subst hnm
    go_enter Tryz.func125, Tryz.ntmps125
    go_wp2
    go_loopw [5] (fun i wr => ∃ k : Nat, k ≤ n ∧ i = .int .i64 k ∧ Hid (∃ q, wr = w.drewN q) ∧ Hid (∀ j, j < k → xs[j]?.getD 0 = zs[j]?.getD 0)) (fun i _ => n - (intOf i).toNat)
    case atStart => exact ⟨0, Nat.zero_le _, rfl, ⟨0, rfl⟩, fun j hj => by omega⟩
    case round =>
      obtain ⟨k, hk, rfl, hq, hz⟩ := hrel
      obtain ⟨q, rfl⟩ := hq.out
      clear hq
      by_cases hkn : k < n
      · obtain ⟨a, rfl, hxl⟩ := ha.cell k hkn
        obtain ⟨b, rfl, hzl⟩ := hb.cell k hkn
        clear ha hb
        generalize hgx : xs[k]?.getD 0 = x at *
        have HX := Lib.hid hgx
        clear hgx
        generalize hgz : zs[k]?.getD 0 = z at *
        have HZ := Lib.hid hgz
        clear hgz
        have hk0 : (0 : Int) ≤ (k : Int) := by omega
        by_cases hxz : x = z
        · subst hxz
          have ht : (x != x) = false := by simp
          go_wp2_with fail
          go_quiet (fail)
          go_wp2
          go_roundw
          case rel =>
            refine ⟨k + 1, by omega, by go_num, ⟨_, rfl⟩, fun j hj => ?_⟩
            by_cases e : j = k
            · subst e; rw [HX.out, HZ.out]
            · exact hz.out j (by omega)
          case measure => simp [intOf]; omega
        · have ht : (x != z) = true := by simp [hxz]
          have HF : Hid (decide (xs = zs) = false) := by
            refine decide_eq_false fun e => hxz ?_
            rw [← HX.out, ← HZ.out, e]
          clear hxz
          go_wp2_with fail
          go_quiet (fail)
          go_wp2
          go_ret
          rw [HF.out]
          exact ⟨rfl, _, World.drewN_drewN ..⟩
      · obtain rfl : k = n := by omega
        have HT : Hid (decide (xs = zs) = true) := decide_eq_true (eq_of_getD xs zs (by rw [HL.out, HM.out]) (fun j hj => hz.out j (by rw [HL.out] at hj; exact hj)))
        go_wp2
        go_ret
        rw [HT.out]
        exact ⟨rfl, _, rfl⟩
  · have HF : Hid (decide (xs = zs) = false) := by
      refine decide_eq_false fun e => hnm ?_
      rw [← HL.out, ← HM.out, e]
    have ht : ((n : Int) != (m : Int)) = true := by simp; omega
    clear hnm
    go_enter Tryz.func125, Tryz.ntmps125
    go_wp2
    go_ret
    rw [HF.out]
    exact ⟨rfl, 0, rfl⟩

theorem twin_rds {w : World} {b n : Nat} {xs : List Int} (ht : Blk w b 23 .u32 (xs ++ [2148261425])) (hl : xs.length = n) : Rds w .u32 (some ⟨b, 0, none⟩) n xs := by
  have := ht.rds.take n (by rw [List.length_append, hl]; simp)
  rwa [List.take_append_of_le_length (by rw [hl]; exact Nat.le_refl _), ← hl, List.take_length, hl] at this
end Go.Proofs.YtoimhjcpeifegaaGreatDoor


/- nat.Norm: the number without noughts at its end. -/
namespace Go.Proofs.YtoimhjcpeifegaaGreatDoor
open Go.RowKit
theorem size_limb : (Tryz.prog.info? 23).map (·.size) = some 1 := by kernel_rfl

theorem norm_calls (ad : Option Addr) (n c : Nat) (xs : List Int) (w : World) (hn : n ≤ 70368744177664) (hnc : n ≤ c) (hr : Rds w .u32 ad n xs) (dx : Dig 4294967296 xs) :
    Calls Tryz.prog 161 #[.slice ad n c] w (RetL 23 .u32 (dg 4294967296 (val 4294967296 xs)) w) := by
  have hc := Lib.hid (cut_calls ad n c xs w (by omega) hnc hr)
  have rx := hr.norm
  have hl := norm_length_le xs
  rw [hr.len] at hl
  have E := Lib.hid (norm_eq 4294967296 (by omega) dx)
  clear hr
  generalize norm xs = ls at *
  obtain ⟨m, hm⟩ : ∃ m, ls.length = m := ⟨_, rfl⟩
  rw [hm] at hc rx hl
  have HM := Lib.hid hm
  clear hm
  have hmk := make_rule (P := Tryz.prog) 32 23 .u32 4 Tryz.underlying32 info_limb (by omega) m (by omega) (m : Int) rfl
  go_enter Tryz.func161, Tryz.ntmps161
  go_wp2_with fail
  refine (hc.out).mono ?_
  rintro e w' ⟨rfl, rfl⟩
  have b0 : Below w.heap.size w (w.alloc (.cells (nums .u32 (List.replicate m 0)).toArray 23)) := (Below.refl _ _).alloc (Nat.le_refl _) _
  have r0 := rx.below b0 (Nat.le_refl _)
  have k0 := Blk.made w 23 .u32 (List.replicate m 0) w.heap.size rfl
  go_wp2_with (refine copy_law w.heap.size rfl (.tmp 9) (.tmp 10) 32 32 rfl 23 Tryz.underlying32 size_limb (some ⟨w.heap.size, 0, none⟩) ad m m m m rfl rfl w.heap.size 0 .u32 (List.replicate m 0) ls k0 r0 (Nat.le_refl _) (fun _ => rfl) (by simp) b0 (Nat.le_refl _) ?_; intro w2 k2 b2)
  go_ret
  have k3 : Blk w2 w.heap.size 23 .u32 ls := by simpa [List.drop_of_length_le] using k2
  have O := k3.own (Nat.le_refl _) m (by rw [HM.out]; exact Nat.le_refl _) (by rw [HM.out]; omega)
  rw [← HM.out, List.take_length] at O
  rw [HM.out] at O
  refine ⟨_, _, _, rfl, ?_, b2⟩
  have E' : ls = dg 4294967296 (val 4294967296 xs) := E.out
  rw [← E']
  exact O
end Go.Proofs.YtoimhjcpeifegaaGreatDoor


/- nat.From: a small number as a list. -/
namespace Go.Proofs.YtoimhjcpeifegaaGreatDoor
open Go.RowKit
theorem from_calls (x : Int) (w : World) (h0 : 0 ≤ x) (h1 : x < 18446744073709551616) :
    Calls Tryz.prog 63 #[.int .u64 x] w (RetL 23 .u32 (dg 4294967296 x) w) := by
  have k0 : Blk (w.alloc (.cells #[.int .u32 (x % 4294967296), .int .u32 (x / 4294967296)] 23)) w.heap.size 23 .u32 [x % 4294967296, x / 4294967296] := Blk.made w 23 .u32 [x % 4294967296, x / 4294967296] _ rfl
  have b0 : Below w.heap.size w (w.alloc (.cells #[.int .u32 (x % 4294967296), .int .u32 (x / 4294967296)] 23)) := (Below.refl _ _).alloc (Nat.le_refl _) _
  have hd : Dig 4294967296 [x % 4294967296, x / 4294967296] := Dig.cons (by omega) (by omega) (Dig.cons (by omega) (by omega) (Dig.nil _))
  have hv : val 4294967296 [x % 4294967296, x / 4294967296] = x := by simp [val]; omega
  have hc := Lib.hid (cut_calls (some ⟨w.heap.size, 0, none⟩) 2 2 _ _ (by omega) (Nat.le_refl _) k0.rds)
  have R := Lib.hid (k0.ret (Nat.le_refl _) (by simp) hd _ hv b0)
  clear k0 b0 hd hv
  go_enter Tryz.func63, Tryz.ntmps63
  go_wp2_with fail
  refine (hc.out).mono ?_
  rintro e w' ⟨rfl, rfl⟩
  go_wp2_with fail
  go_ret
  exact R.out
end Go.Proofs.YtoimhjcpeifegaaGreatDoor


/- How many digits, how many bits a number has; which of two lists is the greater number: plain facts. -/
namespace Go.Proofs.YtoimhjcpeifegaaGreatDoor

theorem dg_lt_of_len (b : Nat) (hb : 2 ≤ b) (n : Nat) (V : Int) (hV : 0 ≤ V) (h : (dg b V).length ≤ n) : V < (b : Int) ^ n := by
  have h1 := val_lt (b := b) (by omega) (dg_dig b hb V.toNat)
  have e : val b (digs b V.toNat) = V := val_dg b hb V hV
  rw [e] at h1
  exact Int.lt_of_lt_of_le h1 (pow_le (by omega) h)

theorem dg_len_iff (b : Nat) (hb : 2 ≤ b) (n : Nat) (V : Int) (hV : 0 ≤ V) : (dg b V).length ≤ n ↔ V < (b : Int) ^ n :=
  ⟨dg_lt_of_len b hb n V hV, dg_length_le b hb n V⟩

/-- A number below 2 to the 64, else 0. -/
def low64 (V : Int) : Int := if V < 18446744073709551616 then V else 0
def fits64 (V : Int) : Bool := decide (V < 18446744073709551616)

/-- How many bits. -/
def blen (n : Nat) : Nat := if n = 0 then 0 else n.log2 + 1

theorem blen_eq (n k : Nat) (h0 : 2 ^ k ≤ n) (h1 : n < 2 ^ (k + 1)) : blen n = k + 1 := by
  have hn : n ≠ 0 := by
    have := Nat.two_pow_pos k
    omega
  unfold blen
  rw [if_neg hn]
  have a := (Nat.le_log2 hn).2 h0
  have b := (Nat.log2_lt hn).2 h1
  omega

theorem blen_lt (n : Nat) : n < 2 ^ blen n := by
  unfold blen
  split
  · omega
  · rename_i h
    exact (Nat.log2_lt h).1 (Nat.lt_succ_self _)
theorem blen_ge (n : Nat) (hn : n ≠ 0) : 2 ^ (blen n - 1) ≤ n := by
  unfold blen
  rw [if_neg hn]
  exact (Nat.le_log2 hn).1 (by omega)
theorem blen_zero : blen 0 = 0 := rfl
theorem blen_pos (n : Nat) (h : n ≠ 0) : 0 < blen n := by
  unfold blen
  rw [if_neg h]
  omega

theorem blen_half (n : Nat) (h : n ≠ 0) : blen n = blen (n / 2) + 1 := by
  by_cases h2 : n / 2 = 0
  · have : n = 1 := by omega
    subst this
    decide
  · have a := blen_ge (n / 2) h2
    have b := blen_lt (n / 2)
    have c := blen_pos (n / 2) h2
    refine blen_eq n (blen (n / 2)) ?_ ?_
    · have e : 2 ^ blen (n / 2) = 2 * 2 ^ (blen (n / 2) - 1) := by
        rw [show blen (n / 2) = (blen (n / 2) - 1) + 1 by omega, Nat.pow_succ, Nat.mul_comm]
        simp
      omega
    · rw [Nat.pow_succ]
      omega

theorem bitLen_blen (n : Nat) (h : n < 2 ^ 64) : Lib.bitLen n = blen n := by
  induction n using Nat.strongRecOn with
  | ind n ih =>
    by_cases h0 : n = 0
    · subst h0; rfl
    · rw [Lib.bitLen_half n h0 h, ih (n / 2) (by omega) (by omega), blen_half n h0]
      omega

/-- A number by its lowest places and the highest. -/
theorem blen_split (lo top e : Nat) (hl : lo < 2 ^ e) (ht : top ≠ 0) : blen (lo + 2 ^ e * top) = e + blen top := by
  have a := blen_ge top ht
  have b := blen_lt top
  have c := blen_pos top ht
  obtain ⟨t, hT⟩ : ∃ t, blen top = t + 1 := ⟨blen top - 1, by omega⟩
  rw [hT] at a b ⊢
  simp only [Nat.add_sub_cancel] at a
  refine (blen_eq _ (e + t) ?_ ?_).trans (by omega)
  · rw [Nat.pow_add]
    have := Nat.mul_le_mul_left (2 ^ e) a
    omega
  · rw [show e + t + 1 = e + (t + 1) by omega, Nat.pow_add]
    have := Nat.mul_le_mul_left (2 ^ e) (show top + 1 ≤ 2 ^ (t + 1) by omega)
    rw [Nat.mul_add] at this
    omega

theorem norm_last {b : Int} {xs : List Int} (hn : norm xs = xs) (m : Nat) (hm : xs.length = m + 1) : xs[m]?.getD 0 ≠ 0 := by
  intro h
  have hm' : m < xs.length := by omega
  have h1 : (norm xs).length ≤ m := by
    rcases Nat.lt_or_ge m (norm xs).length with h2 | h2
    · exfalso
      -- a list with 0 at its end is longer than its norm
      have e : xs = xs.take m ++ List.replicate 1 0 := by
        conv => lhs; rw [← List.take_append_drop m xs]
        rw [List.drop_eq_getElem_cons hm', List.drop_of_length_le (by omega)]
        rw [List.getElem?_eq_getElem hm'] at h
        simp at h
        simp [h]
      have h3 := norm_append_zeros (xs.take m) 1
      rw [← e] at h3
      have h4 := norm_length_le (xs.take m)
      have h5 : (xs.take m).length = m := by rw [List.length_take]; omega
      rw [h3] at h2
      omega
    · exact h2
  rw [hn] at h1
  omega

/-- The bits of a list of limbs (w bits to a limb) that has no nought at its end. -/
theorem blen_list (w : Nat) (b : Int) (hb : b = 2 ^ w) (xs : List Int) (hd : Dig b xs) (hn : norm xs = xs) (m : Nat) (hm : xs.length = m + 1) :
    blen (val b xs).toNat = w * m + blen (xs[m]?.getD 0).toNat := by
  have hbp : 0 < b := by rw [hb]; exact Int.pow_pos (by omega)
  have hsplit := val_split b xs m (by omega)
  have hdrop := val_drop b xs m (by omega)
  rw [List.drop_of_length_le (show xs.length ≤ m + 1 by omega)] at hdrop
  simp only [val, Int.mul_zero, Int.add_zero] at hdrop
  rw [hdrop] at hsplit
  have hlo := val_lt hbp (hd.take m)
  have hlo0 := val_nonneg hbp (hd.take m)
  rw [List.length_take, Nat.min_eq_left (by omega)] at hlo
  have ht := hd.get hbp m
  have ht0 := norm_last (b := b) hn m hm
  generalize xs[m]?.getD 0 = t at *
  generalize val b (xs.take m) = lo at *
  obtain ⟨lo, rfl⟩ := Int.eq_ofNat_of_zero_le hlo0
  obtain ⟨t, rfl⟩ := Int.eq_ofNat_of_zero_le ht.1
  have e : b ^ m = ((2 ^ (w * m) : Nat) : Int) := by
    rw [hb, Int.natCast_pow, ← Int.pow_mul]
    rfl
  rw [e] at hsplit hlo
  rw [hsplit]
  have e2 : ((lo : Int) + ((2 ^ (w * m) : Nat) : Int) * (t : Int)).toNat = lo + 2 ^ (w * m) * t := by
    rw [← Int.natCast_mul, ← Int.natCast_add, Int.toNat_natCast]
  rw [e2, blen_split lo t (w * m) (by omega) (by omega)]
  simp

/-- More digits, a greater number. -/
theorem lt_of_len {b : Int} (hb : 0 < b) {xs zs : List Int} (hx : Dig b xs) (hz : Dig b zs) (hn : norm zs = zs) (h : xs.length < zs.length) : val b xs < val b zs := by
  have h1 := val_lt hb hx
  have h2 := val_ge hb hz hn (by intro e; rw [e] at h; simp at h)
  exact Int.lt_of_lt_of_le (Int.lt_of_lt_of_le h1 (pow_le (by omega) (by omega))) h2

/-- The highest place that differs decides. -/
theorem lt_at {b : Int} (hb : 0 < b) {xs zs : List Int} (hx : Dig b xs) (hz : Dig b zs) (k : Nat) (h1 : k < xs.length) (h2 : k < zs.length) (he : val b (xs.drop (k + 1)) = val b (zs.drop (k + 1))) (h : xs[k]?.getD 0 < zs[k]?.getD 0) :
    val b xs < val b zs := by
  have s1 := val_split b xs k (by omega)
  have s2 := val_split b zs k (by omega)
  rw [val_drop b xs k h1] at s1
  rw [val_drop b zs k h2, ← he] at s2
  have l1 := val_lt hb (hx.take k)
  have l2 := val_nonneg hb (hz.take k)
  rw [List.length_take, Nat.min_eq_left (by omega)] at l1
  rw [s1, s2]
  have hp : 0 < b ^ k := Int.pow_pos hb
  generalize b ^ k = P at *
  generalize xs[k]?.getD 0 = x at *
  generalize zs[k]?.getD 0 = z at *
  generalize val b (xs.take k) = A at *
  generalize val b (zs.take k) = C at *
  generalize b * val b (xs.drop (k + 1)) = R at *
  have : P * (x + R + 1) ≤ P * (z + R) := Int.mul_le_mul_of_nonneg_left (by omega) (Int.le_of_lt hp)
  rw [Int.mul_add P (x + R) 1] at this
  omega
end Go.Proofs.YtoimhjcpeifegaaGreatDoor


/- crucibleref01: trim, bytes, limbs: what the calls answer. -/
namespace Go.Proofs.YtoimhjcpeifegaaGreatDoor
open Go.RowKit

end Go.Proofs.YtoimhjcpeifegaaGreatDoor


/- Numbers in memory, by their worth alone: for the walks of the laws of layer 1. -/
namespace Go.Proofs.YtoimhjcpeifegaaGreatDoor
open Go.RowKit

/-- A list of limbs, of worth V. -/
structure Num (w : World) (ad : Option Addr) (n c : Nat) (V : Int) : Prop where
  le : n ≤ c
  row : ∃ xs, Rds w .u32 ad n xs ∧ Dig 4294967296 xs ∧ val 4294967296 xs = V

/-- The list of the number V. -/
structure Can (w : World) (ad : Option Addr) (n c : Nat) (V : Int) : Prop where
  le : n ≤ c
  rds : Rds w .u32 ad n (dg 4294967296 V)

/-- What was handed in. -/
structure Arg (w : World) (ad : Option Addr) (n c : Nat) (xs : List Int) : Prop where
  le : n ≤ c
  rds : Rds w .u32 ad n xs
  dig : Dig 4294967296 xs

/-- A copy of it, a mark behind it. -/
structure Tw (w : World) (b n : Nat) (xs : List Int) : Prop where
  len : xs.length = n
  blk : Blk w b 23 .u32 (xs ++ [2148261425])
  dig : Dig 4294967296 xs

theorem Num.below {w w1 : World} {ad : Option Addr} {n c : Nat} {V : Int} (h : Num w ad n c V) {B : Nat} (hb : Below B w w1) (hB : w.heap.size ≤ B) : Num w1 ad n c V := by
  obtain ⟨xs, h1, h2, h3⟩ := h.row
  exact ⟨h.le, xs, h1.below hb hB, h2, h3⟩
theorem Can.below {w w1 : World} {ad : Option Addr} {n c : Nat} {V : Int} (h : Can w ad n c V) {B : Nat} (hb : Below B w w1) (hB : w.heap.size ≤ B) : Can w1 ad n c V := ⟨h.le, h.rds.below hb hB⟩
theorem Arg.below {w w1 : World} {ad : Option Addr} {n c : Nat} {xs : List Int} (h : Arg w ad n c xs) {B : Nat} (hb : Below B w w1) (hB : w.heap.size ≤ B) : Arg w1 ad n c xs := ⟨h.le, h.rds.below hb hB, h.dig⟩
theorem Tw.below {w w1 : World} {b n : Nat} {xs : List Int} (h : Tw w b n xs) {B : Nat} (hb : Below B w w1) (hB : w.heap.size ≤ B) : Tw w1 b n xs :=
  ⟨h.len, h.blk.below hb (Nat.lt_of_lt_of_le h.blk.lt hB), h.dig⟩
theorem Arg.num {w : World} {ad : Option Addr} {n c : Nat} {xs : List Int} (h : Arg w ad n c xs) : Num w ad n c (val 4294967296 xs) := ⟨h.le, xs, h.rds, h.dig, rfl⟩
theorem Tw.num {w : World} {b n : Nat} {xs : List Int} (h : Tw w b n xs) : Num w (some ⟨b, 0, none⟩) n (n + 1) (val 4294967296 xs) := ⟨by omega, xs, twin_rds h.blk h.len, h.dig, rfl⟩
theorem Can.num {w : World} {ad : Option Addr} {n c : Nat} {V : Int} (h : Can w ad n c V) (hV : 0 ≤ V) : Num w ad n c V := ⟨h.le, _, h.rds, dg_dig 4294967296 (by omega) _, val_dg 4294967296 (by omega) V hV⟩
theorem Arg.nonneg {w : World} {ad : Option Addr} {n c : Nat} {xs : List Int} (h : Arg w ad n c xs) : 0 ≤ val 4294967296 xs := val_nonneg (by omega) h.dig
theorem Arg.lt {w : World} {ad : Option Addr} {n c : Nat} {xs : List Int} (h : Arg w ad n c xs) : val 4294967296 xs < 4294967296 ^ n := by
  have := val_lt (by omega) h.dig
  rwa [h.rds.len] at this
theorem Can.len_le {w : World} {ad : Option Addr} {n c : Nat} {V : Int} (h : Can w ad n c V) (L : Nat) (hV : V < 4294967296 ^ L) : n ≤ L := by
  rw [← h.rds.len]
  exact dg_length_le 4294967296 (by omega) L V hV
theorem Can.zero {w : World} {ad : Option Addr} {n c : Nat} (h : Can w ad n c 0) : n = 0 := by
  have := h.rds.len
  rw [dg_zero] at this
  exact this.symm
theorem Can.zero_iff {w : World} {ad : Option Addr} {n c : Nat} {V : Int} (h : Can w ad n c V) (hV : 0 ≤ V) : n = 0 ↔ V = 0 := by
  have h1 := h.rds.len
  have h2 := dg_nil 4294967296 V (by omega) hV
  constructor
  · intro e
    exact h2.1 (List.eq_nil_of_length_eq_zero (by omega))
  · intro e
    rw [h2.2 e] at h1
    exact h1.symm

theorem pow_add_lt (a b : Int) (n m : Nat) (ha : a < 4294967296 ^ n) (hb : b < 4294967296 ^ m) : a + b < 4294967296 ^ (n + m + 1) := by
  have h1 := pow_le (b := 4294967296) (by omega) (show n ≤ n + m by omega)
  have h2 := pow_le (b := 4294967296) (by omega) (show m ≤ n + m by omega)
  have h3 : (0 : Int) < 4294967296 ^ (n + m) := Int.pow_pos (by omega)
  rw [Int.pow_succ]
  omega

theorem pow_mul_lt (a b : Int) (n m : Nat) (ha0 : 0 ≤ a) (hb0 : 0 ≤ b) (ha : a < 4294967296 ^ n) (hb : b < 4294967296 ^ m) : a * b < 4294967296 ^ (n + m) := by
  rw [Int.pow_add]
  exact Int.lt_of_le_of_lt (Int.mul_le_mul_of_nonneg_left (Int.le_of_lt hb) ha0) (Int.mul_lt_mul_of_pos_right ha (Int.pow_pos (by omega)))

/-- A number's list is told. -/
def RetC (V : Int) (w : World) (e : Ending) (w' : World) : Prop :=
  ∃ ad n c, e = .returned (.slice ad n c) ∧ Can w' ad n c V ∧ Below w.heap.size w w'
def RetCB (V : Int) (ok : Bool) (w : World) (e : Ending) (w' : World) : Prop :=
  ∃ ad n c, e = .returned (.tuple #[.slice ad n c, .bool ok]) ∧ Can w' ad n c V ∧ Below w.heap.size w w'
def RetCNB (V : Int) (r : Int) (ok : Bool) (w : World) (e : Ending) (w' : World) : Prop :=
  ∃ ad n c, e = .returned (.tuple #[.slice ad n c, .int .u32 r, .bool ok]) ∧ Can w' ad n c V ∧ Below w.heap.size w w'
def RetCBB (V : Int) (b1 b2 : Bool) (w : World) (e : Ending) (w' : World) : Prop :=
  ∃ ad n c, e = .returned (.tuple #[.slice ad n c, .bool b1, .bool b2]) ∧ Can w' ad n c V ∧ Below w.heap.size w w'

theorem RetL.can {V : Int} {w : World} {e : Ending} {w' : World} (h : RetL 23 .u32 (dg 4294967296 V) w e w') : RetC V w e w' := by
  obtain ⟨ad, n, c, rfl, h1, h2⟩ := h
  exact ⟨ad, n, c, rfl, ⟨h1.le, h1.rds⟩, h2⟩
theorem RetLB.can {V : Int} {ok : Bool} {w : World} {e : Ending} {w' : World} (h : RetLB 23 .u32 (dg 4294967296 V) ok w e w') : RetCB V ok w e w' := by
  obtain ⟨ad, n, c, rfl, h1, h2⟩ := h
  exact ⟨ad, n, c, rfl, ⟨h1.le, h1.rds⟩, h2⟩
theorem RetLNB.can {V r : Int} {ok : Bool} {w : World} {e : Ending} {w' : World} (h : RetLNB 23 .u32 .u32 (dg 4294967296 V) r ok w e w') : RetCNB V r ok w e w' := by
  obtain ⟨ad, n, c, rfl, h1, h2⟩ := h
  exact ⟨ad, n, c, rfl, ⟨h1.le, h1.rds⟩, h2⟩
theorem RetLBB.can {V : Int} {b1 b2 : Bool} {w : World} {e : Ending} {w' : World} (h : RetLBB 23 .u32 (dg 4294967296 V) b1 b2 w e w') : RetCBB V b1 b2 w e w' := by
  obtain ⟨ad, n, c, rfl, h1, h2⟩ := h
  exact ⟨ad, n, c, rfl, ⟨h1.le, h1.rds⟩, h2⟩

theorem num_same (ad bd : Option Addr) (n m c d : Nat) (V U : Int) (w : World) (ha : Can w ad n c V) (hb : Can w bd m d U) (hV : 0 ≤ V) (hU : 0 ≤ U) (hn : n ≤ 1000000000000) (hm : m ≤ 1000000000000) :
    Calls Tryz.prog 125 #[.slice ad n c, .slice bd m d] w (Same (decide (V = U)) w) := by
  have h := same_calls ad bd n m c d _ _ w (by omega) (by omega) ha.rds hb.rds
  have e : (dg 4294967296 V = dg 4294967296 U) ↔ V = U := by
    constructor
    · intro e
      rw [← val_dg 4294967296 (by omega) V hV, e, val_dg 4294967296 (by omega) U hU]
    · intro e; rw [e]
  simpa only [e] using h

end Go.Proofs.YtoimhjcpeifegaaGreatDoor


/- Sums, differences and short division, place by place: plain facts on lists. -/
namespace Go.Proofs.YtoimhjcpeifegaaGreatDoor

theorem val_set_take (B : Int) (ys : List Int) (i : Nat) (v : Int) (h : i < ys.length) : val B ((ys.set i v).take (i + 1)) = val B (ys.take i) + B ^ i * v := by
  rw [take_set_succ ys i v h, val_append]
  simp [val, List.length_take, Nat.min_eq_left (Nat.le_of_lt h)]

theorem add_step (B : Int) (xs zs ys : List Int) (i : Nat) (hi : i < ys.length) (c T : Int) (hT : T = xs[i]?.getD 0 + zs[i]?.getD 0 + c)
    (E : val B (ys.take i) + c * B ^ i = val B (xs.take i) + val B (zs.take i)) :
    val B ((ys.set i (T % B)).take (i + 1)) + (T / B) * B ^ (i + 1) = val B (xs.take (i + 1)) + val B (zs.take (i + 1)) := by
  rw [val_set_take B ys i _ hi, val_take_succ', val_take_succ', Int.pow_succ]
  have h := Int.emod_add_mul_ediv T B
  generalize xs[i]?.getD 0 = x at *
  generalize zs[i]?.getD 0 = z at *
  generalize T / B = q at *
  generalize T % B = r at *
  generalize B ^ i = P at *
  generalize val B (ys.take i) = Y at *
  generalize val B (xs.take i) = X at *
  generalize val B (zs.take i) = Z at *
  have e : r = x + z + c - B * q := by omega
  subst e
  grind

theorem add_end (B : Int) (xs zs ys : List Int) (n : Nat) (hx : xs.length = n) (hz : zs.length ≤ n) (hy : ys.length = n + 1) (c : Int)
    (E : val B (ys.take n) + c * B ^ n = val B (xs.take n) + val B (zs.take n)) : val B (ys.set n c) = val B xs + val B zs := by
  have h := val_set_take B ys n c (by omega)
  rw [List.take_of_length_le (by rw [List.length_set]; omega)] at h
  rw [List.take_of_length_le (show xs.length ≤ n by omega), List.take_of_length_le hz] at E
  rw [h, ← E, Int.mul_comm]

end Go.Proofs.YtoimhjcpeifegaaGreatDoor

