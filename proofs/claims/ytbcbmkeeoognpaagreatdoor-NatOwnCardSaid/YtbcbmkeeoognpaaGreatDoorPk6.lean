/- Contracts of functions, and plain facts, part 6. -/
import Derived.Test.YtbcbmkeeoognpaaGreatDoorProg
import Derived.Deep.QuietTactic
import Derived.BigQuiet
import Derived.BigRegion
import Derived.Test.YtbcbmkeeoognpaaGreatDoorRows
import Derived.Test.YtbcbmkeeoognpaaGreatDoorCards
import Derived.Lib.LaidTab
import Derived.Test.YtbcbmkeeoognpaaGreatDoorPk1
import Derived.Test.YtbcbmkeeoognpaaGreatDoorPk2
import Derived.Test.YtbcbmkeeoognpaaGreatDoorPk4
import Derived.Test.YtbcbmkeeoognpaaGreatDoorPk5
set_option linter.unusedVariables false
set_option linter.unusedSimpArgs false
/- Two lists and a bool are handed back. -/
namespace Go.Proofs.YtbcbmkeeoognpaaGreatDoor
open Go.RowKit
def RetLLB (t : TypeId) (k : IntKind) (zs rs : List Int) (ok : Bool) (w : World) (e : Ending) (w' : World) : Prop :=
  ∃ ad n c ad2 n2 c2, e = .returned (.tuple #[.slice ad n c, .slice ad2 n2 c2, .bool ok]) ∧ Own w.heap.size w' t k ad n c zs ∧ Own w.heap.size w' t k ad2 n2 c2 rs ∧ Below w.heap.size w w' ∧
    (0 < c → 0 < c2 → ∀ a a2, ad = some a → ad2 = some a2 → a.block ≠ a2.block)
theorem RetLLB.after {t : TypeId} {k : IntKind} {zs rs : List Int} {ok : Bool} {w w1 : World} {e : Ending} {w2 : World} (h : RetLLB t k zs rs ok w1 e w2) (hb : Below w.heap.size w w1) : RetLLB t k zs rs ok w e w2 := by
  obtain ⟨ad, n, c, ad2, n2, c2, e1, h1, h2, h3, h4⟩ := h
  exact ⟨ad, n, c, ad2, n2, c2, e1, h1.mono hb.size, h2.mono hb.size, below_trans hb h3, h4⟩
end Go.Proofs.YtbcbmkeeoognpaaGreatDoor


/- nat.From: a small number as a list. -/
namespace Go.Proofs.YtbcbmkeeoognpaaGreatDoor
open Go.RowKit
end Go.Proofs.YtbcbmkeeoognpaaGreatDoor


/- Numbers in decimal: plain. -/
namespace Go.Proofs.YtbcbmkeeoognpaaGreatDoor

/-- Digits as they are written. -/
def asc (xs : List Int) : List Int := xs.map (· + 48)
theorem asc_append (xs ys : List Int) : asc (xs ++ ys) = asc xs ++ asc ys := by simp [asc]
theorem Dig.reverse {b : Int} {xs : List Int} (h : Dig b xs) : Dig b xs.reverse := fun x hx => h x (List.mem_reverse.1 hx)
end Go.Proofs.YtbcbmkeeoognpaaGreatDoor


/- nat.Mul: what the call answers. -/
namespace Go.Proofs.YtbcbmkeeoognpaaGreatDoor
open Go.RowKit

/-- The row behind i places of the first number. -/
def MulR (w : World) (t : TypeId) (xs zs : List Int) (m n i : Nat) (wr : World) : Prop :=
  ∃ ys, Blk wr w.heap.size t .u32 ys ∧ ys.length = m + n ∧ Dig 4294967296 ys ∧ Below w.heap.size w wr ∧ val 4294967296 ys = val 4294967296 (xs.take i) * val 4294967296 zs ∧ ∀ j, i + n ≤ j → ys[j]?.getD 0 = 0
/-- The row behind k places of the second one, c carried. -/
def MulI (w : World) (t : TypeId) (xs zs : List Int) (m n i k : Nat) (c : Int) (wr : World) : Prop :=
  ∃ ys, Blk wr w.heap.size t .u32 ys ∧ ys.length = m + n ∧ Dig 4294967296 ys ∧ Below w.heap.size w wr ∧ 0 ≤ c ∧ c < 4294967296 ∧
    val 4294967296 ys + c * 4294967296 ^ (i + k) = val 4294967296 (xs.take i) * val 4294967296 zs + xs[i]?.getD 0 * 4294967296 ^ i * val 4294967296 (zs.take k) ∧ ∀ j, i + n ≤ j → ys[j]?.getD 0 = 0

/-- nat.Mul: the product. -/
theorem mul_calls (ad bd : Option Addr) (na nb ca cb : Nat) (la lb : List Int) (w : World) (hl : (na + nb) * 4 ≤ 281474976710656) (hac : na ≤ ca) (hbc : nb ≤ cb)
    (ha : Rds w .u32 ad na la) (hb : Rds w .u32 bd nb lb) (da : Dig 4294967296 la) (db : Dig 4294967296 lb) :
    Calls Tryz.prog 56 #[.slice ad na ca, .slice bd nb cb] w (RetL 44 .u32 (dg 4294967296 (val 4294967296 la * val 4294967296 lb)) w) := by
  have rx := ha.norm
  have rz := hb.norm
  have dx := norm_dig da
  have dz := norm_dig db
  have hma := norm_length_le la
  have hnb := norm_length_le lb
  rw [ha.len] at hma
  rw [hb.len] at hnb
  have HV : Hid (val 4294967296 (norm la) * val 4294967296 (norm lb) = val 4294967296 la * val 4294967296 lb) := by rw [val_norm, val_norm]; rfl
  have c1 := cut_calls ad na ca la w (by omega) hac ha
  have c2 := cut_calls bd nb cb lb w (by omega) hbc hb
  have C1 := Lib.hid c1
  have C2 := Lib.hid c2
  clear c1 c2 ha hb
  generalize norm la = xs at *
  generalize norm lb = zs at *
  obtain ⟨m, hm⟩ : ∃ m, xs.length = m := ⟨_, rfl⟩
  obtain ⟨n, hn⟩ : ∃ n, zs.length = n := ⟨_, rfl⟩
  rw [hm] at rx hma C1
  rw [hn] at rz hnb C2
  have HM := Lib.hid hm
  have HN := Lib.hid hn
  clear hm hn
  have hmk := make_rule (P := Tryz.prog) 23 44 .u32 4 Tryz.underlying23 info_limb (by omega) (m + n) (by omega) ((m : Int) + n) (by omega)
  go_enter Tryz.func56, Tryz.ntmps56
  go_wp2_with fail
  refine (C1.out).mono ?_
  rintro e w' ⟨rfl, rfl⟩
  go_wp2_with fail
  refine (C2.out).mono ?_
  rintro e w' ⟨rfl, rfl⟩
  go_wp2_with fail
  clear hmk
  have hr0 : MulR w 44 xs zs m n 0 (w.alloc (.cells (nums .u32 (List.replicate (m + n) 0)).toArray 44)) :=
    ⟨_, Blk.made _ _ _ _ _ rfl, by simp, Dig.replicate _ (by omega) _, (Below.refl _ _).alloc (Nat.le_refl _) _, by simp [val, val_replicate], fun j _ => by simp [List.getElem?_replicate]; split <;> rfl⟩
  go_loopw [21] (fun i wr => ∃ k : Nat, k ≤ m ∧ i = .int .i64 k ∧ MulR w 44 xs zs m n k wr) (fun i _ => m - (intOf i).toNat)
  case atStart => exact ⟨0, Nat.zero_le _, rfl, hr0⟩
  case round =>
    obtain ⟨i, hi, rfl, hR⟩ := hrel
    clear hr0
    by_cases him : i < m
    · have hI0 : MulI w 44 xs zs m n i 0 0 wr := by
        obtain ⟨ys, h1, h2, h3, h4, h5, h6⟩ := hR
        exact ⟨ys, h1, h2, h3, h4, by omega, by omega, by simp [h5, val], h6⟩
      clear hR
      go_wp2
      go_loopw [26, 7] (fun j cy wr => ∃ k : Nat, ∃ c : Int, k ≤ n ∧ j = .int .i64 k ∧ cy = .int .u64 c ∧ MulI w 44 xs zs m n i k c wr) (fun j _ _ => n - (intOf j).toNat)
      case atStart => exact ⟨0, 0, Nat.zero_le _, rfl, rfl, hI0⟩
      case round =>
        clear hI0
        obtain ⟨k, c, hk, rfl, rfl, ys, h1, h2, h3, h4, hc0, hc1, h5, h6⟩ := hrel
        have H2 := Lib.hid h2
        have H5 := Lib.hid h5
        have H6 := Lib.hid h6
        clear h2 h5 h6
        by_cases hkn : k < n
        · obtain ⟨a, rfl, hx⟩ := rx.cell i him
          obtain ⟨b, rfl, hz⟩ := rz.cell k hkn
          have hxl : wr.cell? (a.add i) = some (.int .u32 (xs[i]?.getD 0)) := (h4.cell (by simpa [Addr.add] using World.block_lt_of_cell? w _ hx)).trans hx
          have hzl : wr.cell? (b.add k) = some (.int .u32 (zs[k]?.getD 0)) := (h4.cell (by simpa [Addr.add] using World.block_lt_of_cell? w _ hz)).trans hz
          have hy := h1.cell (i + k) (by rw [H2.out]; omega)
          have hf := h1.free (i + k)
          clear hx hz
          have S := mul_step 4294967296 ys (i + k) (by rw [H2.out]; omega) _ c (xs[i]?.getD 0 * zs[k]?.getD 0) rfl
          have bx := dx.get (by omega) i
          have bz := dz.get (by omega) k
          have bo := h3.get (by omega) (i + k)
          have bb := mul_bound (o := ys[i + k]?.getD 0) rfl bx.1 bx.2 bz.1 bz.2 bo.1 bo.2 hc0 hc1
          have N := mul_inner 4294967296 _ _ zs ys _ i k (by rw [HN.out]; exact hkn) c _ H5.out S
          have HS := Lib.hid N
          clear S N H5
          generalize hgx : xs[i]?.getD 0 = x at *
          have HX := Lib.hid hgx
          clear hgx
          generalize zs[k]?.getD 0 = z at *
          generalize hgy : ys[i + k]?.getD 0 = y at *
          have HY := Lib.hid hgy
          clear hgy
          generalize ht : x * z = t at *
          have HT := Lib.hid ht
          clear ht
          obtain ⟨bt0, bt1, bs0, bs1⟩ := bb
          have W1 : IntKind.i64.wrap ((i : Int) + k) = (i : Int) + k := IntWalk.i64_in _ (by omega)
          have W2 : IntKind.u64.wrap (x * z) = t := by rw [HT.out]; exact IntWalk.u64_in _ (by omega)
          have W3 : IntKind.u64.wrap (t + y) = t + y := IntWalk.u64_in _ (by omega)
          have W4 : IntKind.u64.wrap (c + (t + y)) = c + (t + y) := IntWalk.u64_in _ (by omega)
          have W5 : ((i : Int) + k).toNat = i + k := by omega
          have W6 : (0 : Int) ≤ (i : Int) + k := by omega
          go_wp2_with fail
          go_quiet (fail)
          clear W1 W2 W3 W4 W5 W6
          go_wp2
          go_roundw
          case rel =>
            refine ⟨k + 1, _, by omega, by go_num, rfl, _, (h1.drewN nq).set (i + k) _, by simp [H2.out], h3.set (by omega) (by omega) _, below_set (below_drewN h4 nq) _ _ _ (Nat.le_refl _), by omega, by omega, by rw [HX.out]; exact HS.out, fun j hj => ?_⟩
            rw [List.getElem?_set_ne (by omega)]
            exact H6.out j (by omega)
          case measure => simp [intOf]; omega
        · obtain rfl : k = n := by omega
          have hy := h1.cell (i + k) (by rw [H2.out]; omega)
          have hf := h1.free (i + k)
          have bo := h3.get (by omega) (i + k)
          have E := mul_outer 4294967296 xs zs ys i k (by rw [HM.out]; exact him) HN.out.symm (by rw [H2.out]; omega) c (H6.out _ (Nat.le_refl _)) H5.out
          have HE := Lib.hid E
          clear E
          go_wp2
          go_roundw
          case rel =>
            refine ⟨i + 1, by omega, by go_num, _, h1.set (i + k) c, by simp [H2.out], h3.set hc0 hc1 _, below_set h4 _ _ _ (Nat.le_refl _), HE.out, fun j hj => ?_⟩
            rw [List.getElem?_set_ne (by omega)]
            exact H6.out j (by omega)
          case measure => simp [intOf]; omega
    · obtain rfl : i = m := by omega
      obtain ⟨ys, h1, h2, h3, h4, h5, h6⟩ := hR
      have H2 := Lib.hid h2
      have H5 := Lib.hid h5
      have H6 := Lib.hid h6
      clear h2 h5 h6
      have hk := cut_calls (some ⟨w.heap.size, 0, none⟩) (i + n) (i + n) ys wr (by omega) (Nat.le_refl _) (by have := h1.rds; rwa [H2.out] at this)
      go_wp2_with fail
      refine hk.mono ?_
      rintro e w' ⟨rfl, rfl⟩
      go_wp2_with fail
      go_ret
      refine h1.ret (Nat.le_refl _) (by rw [H2.out]; omega) h3 _ ?_ h4
      rw [← HV.out, H5.out, ← HM.out, List.take_length]
end Go.Proofs.YtbcbmkeeoognpaaGreatDoor


/- crucibleref01: trim, bytes, limbs: what the calls answer. -/
namespace Go.Proofs.YtbcbmkeeoognpaaGreatDoor
open Go.RowKit

end Go.Proofs.YtbcbmkeeoognpaaGreatDoor




/- Numbers in memory, by their worth alone: for the walks of the laws of layer 1. -/
namespace Go.Proofs.YtbcbmkeeoognpaaGreatDoor
open Go.RowKit

/-- A list of limbs, of worth V. -/
structure Num (w : World) (ad : Option Addr) (n c : Nat) (V : Int) : Prop where
  le : n ≤ c
  row : ∃ xs, Rds w .u32 ad n xs ∧ Dig 4294967296 xs ∧ val 4294967296 xs = V

/-- The list of the number V. -/
structure Can (w : World) (ad : Option Addr) (n c : Nat) (V : Int) : Prop where
  le : n ≤ c
  rds : Rds w .u32 ad n (dg 4294967296 V)

/-- What was handed in. -/
structure Arg (w : World) (ad : Option Addr) (n c : Nat) (xs : List Int) : Prop where
  le : n ≤ c
  rds : Rds w .u32 ad n xs
  dig : Dig 4294967296 xs

/-- A copy of it, a mark behind it. -/
structure Tw (w : World) (b n : Nat) (xs : List Int) : Prop where
  len : xs.length = n
  blk : Blk w b 44 .u32 (xs ++ [2148261425])
  dig : Dig 4294967296 xs

theorem Num.below {w w1 : World} {ad : Option Addr} {n c : Nat} {V : Int} (h : Num w ad n c V) {B : Nat} (hb : Below B w w1) (hB : w.heap.size ≤ B) : Num w1 ad n c V := by
  obtain ⟨xs, h1, h2, h3⟩ := h.row
  exact ⟨h.le, xs, h1.below hb hB, h2, h3⟩
theorem Can.below {w w1 : World} {ad : Option Addr} {n c : Nat} {V : Int} (h : Can w ad n c V) {B : Nat} (hb : Below B w w1) (hB : w.heap.size ≤ B) : Can w1 ad n c V := ⟨h.le, h.rds.below hb hB⟩
theorem Arg.below {w w1 : World} {ad : Option Addr} {n c : Nat} {xs : List Int} (h : Arg w ad n c xs) {B : Nat} (hb : Below B w w1) (hB : w.heap.size ≤ B) : Arg w1 ad n c xs := ⟨h.le, h.rds.below hb hB, h.dig⟩
theorem Tw.below {w w1 : World} {b n : Nat} {xs : List Int} (h : Tw w b n xs) {B : Nat} (hb : Below B w w1) (hB : w.heap.size ≤ B) : Tw w1 b n xs :=
  ⟨h.len, h.blk.below hb (Nat.lt_of_lt_of_le h.blk.lt hB), h.dig⟩
theorem Arg.num {w : World} {ad : Option Addr} {n c : Nat} {xs : List Int} (h : Arg w ad n c xs) : Num w ad n c (val 4294967296 xs) := ⟨h.le, xs, h.rds, h.dig, rfl⟩
theorem Tw.num {w : World} {b n : Nat} {xs : List Int} (h : Tw w b n xs) : Num w (some ⟨b, 0, none⟩) n (n + 1) (val 4294967296 xs) := ⟨by omega, xs, twin_rds h.blk h.len, h.dig, rfl⟩
theorem Can.num {w : World} {ad : Option Addr} {n c : Nat} {V : Int} (h : Can w ad n c V) (hV : 0 ≤ V) : Num w ad n c V := ⟨h.le, _, h.rds, dg_dig 4294967296 (by omega) _, val_dg 4294967296 (by omega) V hV⟩
theorem Arg.nonneg {w : World} {ad : Option Addr} {n c : Nat} {xs : List Int} (h : Arg w ad n c xs) : 0 ≤ val 4294967296 xs := val_nonneg (by omega) h.dig
theorem Arg.lt {w : World} {ad : Option Addr} {n c : Nat} {xs : List Int} (h : Arg w ad n c xs) : val 4294967296 xs < 4294967296 ^ n := by
  have := val_lt (by omega) h.dig
  rwa [h.rds.len] at this
theorem Can.len_le {w : World} {ad : Option Addr} {n c : Nat} {V : Int} (h : Can w ad n c V) (L : Nat) (hV : V < 4294967296 ^ L) : n ≤ L := by
  rw [← h.rds.len]
  exact dg_length_le 4294967296 (by omega) L V hV
theorem Can.zero {w : World} {ad : Option Addr} {n c : Nat} (h : Can w ad n c 0) : n = 0 := by
  have := h.rds.len
  rw [dg_zero] at this
  exact this.symm
theorem Can.zero_iff {w : World} {ad : Option Addr} {n c : Nat} {V : Int} (h : Can w ad n c V) (hV : 0 ≤ V) : n = 0 ↔ V = 0 := by
  have h1 := h.rds.len
  have h2 := dg_nil 4294967296 V (by omega) hV
  constructor
  · intro e
    exact h2.1 (List.eq_nil_of_length_eq_zero (by omega))
  · intro e
    rw [h2.2 e] at h1
    exact h1.symm

theorem pow_add_lt (a b : Int) (n m : Nat) (ha : a < 4294967296 ^ n) (hb : b < 4294967296 ^ m) : a + b < 4294967296 ^ (n + m + 1) := by
  have h1 := pow_le (b := 4294967296) (by omega) (show n ≤ n + m by omega)
  have h2 := pow_le (b := 4294967296) (by omega) (show m ≤ n + m by omega)
  have h3 : (0 : Int) < 4294967296 ^ (n + m) := Int.pow_pos (by omega)
  rw [Int.pow_succ]
  omega

theorem pow_mul_lt (a b : Int) (n m : Nat) (ha0 : 0 ≤ a) (hb0 : 0 ≤ b) (ha : a < 4294967296 ^ n) (hb : b < 4294967296 ^ m) : a * b < 4294967296 ^ (n + m) := by
  rw [Int.pow_add]
  exact Int.lt_of_le_of_lt (Int.mul_le_mul_of_nonneg_left (Int.le_of_lt hb) ha0) (Int.mul_lt_mul_of_pos_right ha (Int.pow_pos (by omega)))

/-- A number's list is told. -/
def RetC (V : Int) (w : World) (e : Ending) (w' : World) : Prop :=
  ∃ ad n c, e = .returned (.slice ad n c) ∧ Can w' ad n c V ∧ Below w.heap.size w w'
def RetCB (V : Int) (ok : Bool) (w : World) (e : Ending) (w' : World) : Prop :=
  ∃ ad n c, e = .returned (.tuple #[.slice ad n c, .bool ok]) ∧ Can w' ad n c V ∧ Below w.heap.size w w'
def RetCNB (V : Int) (r : Int) (ok : Bool) (w : World) (e : Ending) (w' : World) : Prop :=
  ∃ ad n c, e = .returned (.tuple #[.slice ad n c, .int .u32 r, .bool ok]) ∧ Can w' ad n c V ∧ Below w.heap.size w w'
def RetCBB (V : Int) (b1 b2 : Bool) (w : World) (e : Ending) (w' : World) : Prop :=
  ∃ ad n c, e = .returned (.tuple #[.slice ad n c, .bool b1, .bool b2]) ∧ Can w' ad n c V ∧ Below w.heap.size w w'

theorem RetL.can {V : Int} {w : World} {e : Ending} {w' : World} (h : RetL 44 .u32 (dg 4294967296 V) w e w') : RetC V w e w' := by
  obtain ⟨ad, n, c, rfl, h1, h2⟩ := h
  exact ⟨ad, n, c, rfl, ⟨h1.le, h1.rds⟩, h2⟩
theorem RetLB.can {V : Int} {ok : Bool} {w : World} {e : Ending} {w' : World} (h : RetLB 44 .u32 (dg 4294967296 V) ok w e w') : RetCB V ok w e w' := by
  obtain ⟨ad, n, c, rfl, h1, h2⟩ := h
  exact ⟨ad, n, c, rfl, ⟨h1.le, h1.rds⟩, h2⟩
theorem RetLNB.can {V r : Int} {ok : Bool} {w : World} {e : Ending} {w' : World} (h : RetLNB 44 .u32 .u32 (dg 4294967296 V) r ok w e w') : RetCNB V r ok w e w' := by
  obtain ⟨ad, n, c, rfl, h1, h2⟩ := h
  exact ⟨ad, n, c, rfl, ⟨h1.le, h1.rds⟩, h2⟩
theorem RetLBB.can {V : Int} {b1 b2 : Bool} {w : World} {e : Ending} {w' : World} (h : RetLBB 44 .u32 (dg 4294967296 V) b1 b2 w e w') : RetCBB V b1 b2 w e w' := by
  obtain ⟨ad, n, c, rfl, h1, h2⟩ := h
  exact ⟨ad, n, c, rfl, ⟨h1.le, h1.rds⟩, h2⟩

end Go.Proofs.YtbcbmkeeoognpaaGreatDoor


/- Sums, differences and short division, place by place: plain facts on lists. -/
namespace Go.Proofs.YtbcbmkeeoognpaaGreatDoor

theorem val_set_take (B : Int) (ys : List Int) (i : Nat) (v : Int) (h : i < ys.length) : val B ((ys.set i v).take (i + 1)) = val B (ys.take i) + B ^ i * v := by
  rw [take_set_succ ys i v h, val_append]
  simp [val, List.length_take, Nat.min_eq_left (Nat.le_of_lt h)]

theorem add_step (B : Int) (xs zs ys : List Int) (i : Nat) (hi : i < ys.length) (c T : Int) (hT : T = xs[i]?.getD 0 + zs[i]?.getD 0 + c)
    (E : val B (ys.take i) + c * B ^ i = val B (xs.take i) + val B (zs.take i)) :
    val B ((ys.set i (T % B)).take (i + 1)) + (T / B) * B ^ (i + 1) = val B (xs.take (i + 1)) + val B (zs.take (i + 1)) := by
  rw [val_set_take B ys i _ hi, val_take_succ', val_take_succ', Int.pow_succ]
  have h := Int.emod_add_mul_ediv T B
  generalize xs[i]?.getD 0 = x at *
  generalize zs[i]?.getD 0 = z at *
  generalize T / B = q at *
  generalize T % B = r at *
  generalize B ^ i = P at *
  generalize val B (ys.take i) = Y at *
  generalize val B (xs.take i) = X at *
  generalize val B (zs.take i) = Z at *
  have e : r = x + z + c - B * q := by omega
  subst e
  grind

theorem add_end (B : Int) (xs zs ys : List Int) (n : Nat) (hx : xs.length = n) (hz : zs.length ≤ n) (hy : ys.length = n + 1) (c : Int)
    (E : val B (ys.take n) + c * B ^ n = val B (xs.take n) + val B (zs.take n)) : val B (ys.set n c) = val B xs + val B zs := by
  have h := val_set_take B ys n c (by omega)
  rw [List.take_of_length_le (by rw [List.length_set]; omega)] at h
  rw [List.take_of_length_le (show xs.length ≤ n by omega), List.take_of_length_le hz] at E
  rw [h, ← E, Int.mul_comm]

theorem sub_step (B : Int) (xs zs ys : List Int) (i : Nat) (hi : i < ys.length) (c D c' : Int) (hD : D = xs[i]?.getD 0 - zs[i]?.getD 0 - c + c' * B)
    (E : val B (ys.take i) + val B (zs.take i) = val B (xs.take i) + c * B ^ i) :
    val B ((ys.set i D).take (i + 1)) + val B (zs.take (i + 1)) = val B (xs.take (i + 1)) + c' * B ^ (i + 1) := by
  rw [val_set_take B ys i _ hi, val_take_succ', val_take_succ', Int.pow_succ]
  generalize xs[i]?.getD 0 = x at *
  generalize zs[i]?.getD 0 = z at *
  generalize B ^ i = P at *
  generalize val B (ys.take i) = Y at *
  generalize val B (xs.take i) = X at *
  generalize val B (zs.take i) = Z at *
  subst hD
  grind

theorem sub_end (B : Int) (hB : 0 < B) (xs zs ys : List Int) (n : Nat) (dy : Dig B ys) (hx : xs.length = n) (hz : zs.length ≤ n) (hy : ys.length = n) (c : Int) (hc : 0 ≤ c)
    (hle : val B zs ≤ val B xs) (E : val B (ys.take n) + val B (zs.take n) = val B (xs.take n) + c * B ^ n) : val B ys = val B xs - val B zs := by
  rw [List.take_of_length_le (by omega), List.take_of_length_le (by omega), List.take_of_length_le (by omega)] at E
  have h := val_lt hB dy
  rw [hy] at h
  have hp : 0 < B ^ n := Int.pow_pos hB
  rcases Int.lt_or_eq_of_le hc with h1 | h1
  · have : 1 * B ^ n ≤ c * B ^ n := Int.mul_le_mul_of_nonneg_right (by omega) (Int.le_of_lt hp)
    omega
  · rw [← h1, Int.zero_mul] at E
    omega

theorem small_step (B : Int) (xs ys : List Int) (j : Nat) (hx : j < xs.length) (hy : j < ys.length) (d r T q r' : Int) (hT : T = r * B + xs[j]?.getD 0) (hq : T = d * q + r')
    (E : val B (xs.drop (j + 1)) = val B (ys.drop (j + 1)) * d + r) :
    val B (xs.drop j) = val B ((ys.set j q).drop j) * d + r' := by
  rw [val_drop B xs j hx, val_drop B (ys.set j q) j (by rw [List.length_set]; exact hy), List.getElem?_set_self hy, List.drop_set_of_lt (by omega), E]
  simp only [Option.getD_some]
  generalize xs[j]?.getD 0 = x at *
  generalize val B (ys.drop (j + 1)) = Y at *
  have : x = d * q + r' - r * B := by omega
  subst this
  grind
end Go.Proofs.YtbcbmkeeoognpaaGreatDoor


/- math/bits.LeadingZeros32. -/
namespace Go.Proofs.YtbcbmkeeoognpaaGreatDoor
open Go.RowKit
end Go.Proofs.YtbcbmkeeoognpaaGreatDoor

