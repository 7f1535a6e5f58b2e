/- Contracts of functions, and plain facts, part 13. -/
import Derived.Test.YtbcbmkeeoognpaaGreatDoorProg
import Derived.BigRegion
import Derived.BigQuiet
import Derived.Deep.QuietTactic
import Derived.Deep.LoopGhost
import Derived.Deep.DeepCutAuto
import Derived.Deep.RegionWith
import Derived.Deep.RegionHeld3
import Derived.Test.YtbcbmkeeoognpaaGreatDoorPk4
import Derived.Test.YtbcbmkeeoognpaaGreatDoorPk6
import Derived.Test.YtbcbmkeeoognpaaGreatDoorPk7
import Derived.Test.YtbcbmkeeoognpaaGreatDoorPk8
import Derived.Test.YtbcbmkeeoognpaaGreatDoorPk9
import Derived.Test.YtbcbmkeeoognpaaGreatDoorPk10
import Derived.Test.YtbcbmkeeoognpaaGreatDoorPk11
import Derived.Test.YtbcbmkeeoognpaaGreatDoorPk12
set_option linter.unusedVariables false
set_option linter.unusedSimpArgs false
/- A number's bytes, and the number of bytes: plain. -/
namespace Go.Proofs.YtbcbmkeeoognpaaGreatDoor

/-- A limb's four bytes, the lowest first. -/
def four (x : Int) : List Int := [x % 256, x / 256 % 256, x / 65536 % 256, x / 16777216 % 256]
theorem four_dig (x : Int) : Dig 256 (four x) := fun y hy => by
  simp only [four, List.mem_cons, List.not_mem_nil, or_false] at hy
  omega
theorem four_val (x : Int) (h : 0 ≤ x ∧ x < 4294967296) : val 256 (four x) = x := by
  simp only [four, val]
  omega
theorem four_step (xs ds : List Int) (k : Nat) (hk : k < xs.length) (hl : ds.length = 4 * k) (h : val 256 ds = val 4294967296 (xs.take k)) (hx : 0 ≤ xs[k]?.getD 0 ∧ xs[k]?.getD 0 < 4294967296) :
    (ds ++ four (xs[k]?.getD 0)).length = 4 * (k + 1) ∧ val 256 (ds ++ four (xs[k]?.getD 0)) = val 4294967296 (xs.take (k + 1)) := by
  refine ⟨by rw [List.length_append, hl]; simp [four]; omega, ?_⟩
  rw [val_append, hl, pow4, four_val _ hx, val_take_succ', h]

/-- What bytes tell, the highest first. -/
def byteV (cs : List Int) : Int := val 256 cs.reverse
theorem byteV_nonneg (cs : List Int) (h : Dig 256 cs) : 0 ≤ byteV cs := val_nonneg (by omega) h.reverse
def byteOk (cs : List Int) : Bool := decide ((dg 256 (byteV cs)).length ≤ 1048576)
def byteNum (cs : List Int) : Int := if byteOk cs then byteV cs else 0

theorem byteV_skip (cs : List Int) (k : Nat) (h : ∀ j, j < k → cs[j]?.getD 0 = 0) (hk : k ≤ cs.length) : byteV (cs.drop k) = byteV cs := by
  unfold byteV
  have e : cs.reverse = (cs.drop k).reverse ++ List.replicate k 0 := by
    conv => lhs; rw [← List.take_append_drop k cs, List.reverse_append]
    congr 1
    have : cs.take k = List.replicate k 0 := by
      refine List.ext_getElem? fun j => ?_
      rcases Nat.lt_or_ge j k with h1 | h1
      · have := h j h1
        rw [List.getElem?_take_of_lt h1, List.getElem?_replicate, if_pos h1]
        rw [List.getElem?_eq_getElem (by omega), Option.getD_some] at this
        rw [List.getElem?_eq_getElem (by omega), this]
      · rw [List.getElem?_eq_none (by rw [List.length_take]; omega), List.getElem?_eq_none (by simp; omega)]
    rw [this, List.reverse_replicate]
  rw [e, val_append, val_replicate, Int.mul_zero, Int.add_zero]

/-- Bytes that begin with none that is 0 are the number's own. -/
theorem byteV_own (cs : List Int) (d : Dig 256 cs) (h : cs = [] ∨ cs[0]?.getD 0 ≠ 0) : dg 256 (byteV cs) = cs.reverse := by
  have hn : norm cs.reverse = cs.reverse := by
    rcases h with rfl | h
    · rfl
    · cases cs with
      | nil => rfl
      | cons c l =>
        rw [List.reverse_cons]
        exact norm_snoc _ _ (by simpa using h)
  have := norm_eq 256 (by omega) d.reverse
  rw [hn] at this
  exact this.symm

/-- The lowest i bytes stand in the row. -/
structure ByteSt (rs out : List Int) (i : Nat) : Prop where
  dig : Dig 4294967296 out
  worth : val 4294967296 out = val 256 (rs.take i)
  zero : ∀ q, i / 4 < q → out[q]?.getD 0 = 0
  low : out[i / 4]?.getD 0 < 256 ^ (i % 4)
theorem byte_step (rs out : List Int) (i : Nat) (hi : i < rs.length) (dr : Dig 256 rs) (ho : i / 4 < out.length) (h : ByteSt rs out i) (v : Int) (hv : v = out[i / 4]?.getD 0 + rs[i]?.getD 0 * 256 ^ (i % 4)) :
    ByteSt rs (out.set (i / 4) v) (i + 1) ∧ 0 ≤ v ∧ v < 4294967296 := by
  have bx := dr.get (by omega) i
  have bo := h.dig.get (by omega) (i / 4)
  have hl := h.low
  have hz : i % 4 < 4 := Nat.mod_lt _ (by omega)
  have hpow : (256 : Int) ^ i = 4294967296 ^ (i / 4) * 256 ^ (i % 4) := by
    rw [← pow4, ← Int.pow_add]
    congr 1
    omega
  have hvb : v < 256 ^ (i % 4 + 1) ∧ 0 ≤ v := by
    have hp : (0 : Int) < 256 ^ (i % 4) := Int.pow_pos (by omega)
    have h0 : 0 ≤ rs[i]?.getD 0 * 256 ^ (i % 4) := Int.mul_nonneg bx.1 (Int.le_of_lt hp)
    have h1 : (rs[i]?.getD 0 + 1) * 256 ^ (i % 4) ≤ 256 * 256 ^ (i % 4) := Int.mul_le_mul_of_nonneg_right (by omega) (Int.le_of_lt hp)
    rw [Int.add_mul, Int.one_mul] at h1
    rw [Int.pow_succ, Int.mul_comm _ 256]
    omega
  have hv2 : v < 4294967296 := by
    have : (256 : Int) ^ (i % 4 + 1) ≤ 256 ^ 4 := pow_le (by omega) (by omega)
    rw [show (256 : Int) ^ 4 = 4294967296 from by decide] at this
    omega
  refine ⟨⟨h.dig.set hvb.2 hv2 _, ?_, fun q hq => ?_, ?_⟩, hvb.2, hv2⟩
  · rw [val_set _ _ _ _ ho, h.worth, val_take_succ', hpow, hv]
    generalize (4294967296 : Int) ^ (i / 4) = A
    generalize (256 : Int) ^ (i % 4) = D
    grind
  · rw [List.getElem?_set_ne (by omega)]
    exact h.zero q (by omega)
  · by_cases h3 : i % 4 = 3
    · rw [List.getElem?_set_ne (by omega), h.zero _ (by omega)]
      exact Int.pow_pos (by omega)
    · rw [show (i + 1) / 4 = i / 4 by omega, List.getElem?_set_self ho, Option.getD_some, show (i + 1) % 4 = i % 4 + 1 by omega]
      exact hvb.1
theorem byte_start (rs : List Int) (n : Nat) : ByteSt rs (List.replicate n 0) 0 :=
  ⟨Dig.replicate _ (by omega) _, by rw [val_replicate]; simp [val], fun q _ => by simp [List.getElem?_replicate]; split <;> rfl, by simp [List.getElem?_replicate]; split <;> simp⟩
theorem byte_end (rs out : List Int) (hl : out.length = (rs.length + 3) / 4) (dr : Dig 256 rs) (hn : norm rs = rs) (h : ByteSt rs out rs.length) : out = dg 4294967296 (val 256 rs) := by
  have hw := h.worth
  rw [List.take_length] at hw
  refine dg_of_ge out _ h.dig hw ?_
  by_cases hr : rs = []
  · left
    rw [hl, hr]
    rfl
  · right
    have h1 := val_ge (b := 256) (by omega) dr hn hr
    have h2 : 0 < rs.length := List.length_pos_iff.2 hr
    refine Int.le_trans ?_ h1
    rw [← pow4]
    exact pow_le (by omega) (by omega)
theorem dg_more (A x : Int) (hA : 0 ≤ A) (hx : 0 ≤ x ∧ x < 256) (h : 0 < A * 256 + x) : (dg 256 (A * 256 + x)).reverse = (dg 256 A).reverse ++ [x] := by
  rw [dg_pos 256 _ (by omega) h, show (A * 256 + x) % ((256 : Nat) : Int) = x by omega, show (A * 256 + x) / ((256 : Nat) : Int) = A by omega, List.reverse_cons]
end Go.Proofs.YtbcbmkeeoognpaaGreatDoor


/- whole.flip: each byte turned about, and one more. -/
namespace Go.Proofs.YtbcbmkeeoognpaaGreatDoor
open Go.RowKit

/-- The lowest byte first, with what is still to be added. -/
def flipL : List Int → Int → List Int
  | [], _ => []
  | x :: l, c => (255 - x + c) % 256 :: flipL l (if (255 - x + c) % 256 = 0 then c else 0)
def cyL : List Int → Int → Int
  | [], c => c
  | x :: l, c => cyL l (if (255 - x + c) % 256 = 0 then c else 0)
theorem flipL_length (l : List Int) (c : Int) : (flipL l c).length = l.length := by
  induction l generalizing c with
  | nil => rfl
  | cons x l ih => simp [flipL, ih]
theorem flipL_snoc (l : List Int) (x c : Int) : flipL (l ++ [x]) c = flipL l c ++ [(255 - x + cyL l c) % 256] := by
  induction l generalizing c with
  | nil => rfl
  | cons y l ih => simp [flipL, cyL, ih]
theorem cyL_snoc (l : List Int) (x c : Int) : cyL (l ++ [x]) c = if (255 - x + cyL l c) % 256 = 0 then cyL l c else 0 := by
  induction l generalizing c with
  | nil => rfl
  | cons y l ih => exact ih _
theorem cyL_bd (l : List Int) (c : Int) (h : c = 0 ∨ c = 1) : cyL l c = 0 ∨ cyL l c = 1 := by
  induction l generalizing c with
  | nil => exact h
  | cons x l ih => exact ih _ (by split <;> omega)
/-- What flip makes of bytes, the highest first. -/
def flipB (xs : List Int) : List Int := (flipL xs.reverse 1).reverse
def FlipI (xs X : List Int) (k : Nat) (c : Int) : Prop := X = (flipL (xs.reverse.take k) 1 ++ xs.reverse.drop k).reverse ∧ c = cyL (xs.reverse.take k) 1
theorem FlipI.start (xs : List Int) : FlipI xs xs 0 1 := ⟨by simp [flipL], rfl⟩
theorem FlipI.length {xs X : List Int} {k : Nat} {c : Int} (h : FlipI xs X k c) (hk : k ≤ xs.length) : X.length = xs.length := by
  rw [h.1, List.length_reverse, List.length_append, flipL_length, List.length_take, List.length_drop, List.length_reverse]
  omega
theorem FlipI.end {xs X : List Int} {c : Int} (h : FlipI xs X xs.length c) : X = flipB xs := by
  rw [h.1, List.take_of_length_le (by simp), List.drop_of_length_le (by simp), List.append_nil]
  rfl
theorem FlipI.bd {xs X : List Int} {k : Nat} {c : Int} (h : FlipI xs X k c) : c = 0 ∨ c = 1 := by rw [h.2]; exact cyL_bd _ _ (.inr rfl)
theorem FlipI.step {xs X : List Int} {k r : Nat} {c : Int} (h : FlipI xs X k c) (hr : k + (r + 1) = xs.length) :
    X[r]?.getD 0 = xs[r]?.getD 0 ∧ FlipI xs (X.set r ((255 - xs[r]?.getD 0 + c) % 256)) (k + 1) (if (255 - xs[r]?.getD 0 + c) % 256 = 0 then c else 0) := by
  obtain ⟨h1, h2⟩ := h
  have hl : xs.reverse.length = xs.length := List.length_reverse
  have hk : k < xs.reverse.length := by omega
  have e1 : xs[r]?.getD 0 = xs.reverse[k] := by
    rw [List.getElem_reverse, List.getElem?_eq_getElem (by omega), Option.getD_some]
    congr 1
    omega
  have e2 : xs.reverse.drop k = xs.reverse[k] :: xs.reverse.drop (k + 1) := List.drop_eq_getElem_cons hk
  have e3 : xs.reverse.take (k + 1) = xs.reverse.take k ++ [xs.reverse[k]] := by rw [List.take_add_one, List.getElem?_eq_getElem hk]; rfl
  have e4 : (xs.reverse.drop (k + 1)).reverse.length = r := by rw [List.length_reverse, List.length_drop]; omega
  rw [e1]
  generalize xs.reverse[k] = x at *
  have e5 : X = (xs.reverse.drop (k + 1)).reverse ++ x :: (flipL (xs.reverse.take k) 1).reverse := by rw [h1, e2, List.reverse_append, List.reverse_cons, List.append_assoc]; rfl
  refine ⟨?_, ?_, ?_⟩
  · rw [e5, List.getElem?_append_right (by omega), e4, Nat.sub_self]; rfl
  · rw [e3, flipL_snoc, ← h2, e5, List.set_append_right _ _ (by omega), e4, Nat.sub_self, List.reverse_append, List.reverse_append]
    simp
  · rw [e3, cyL_snoc, ← h2]
end Go.Proofs.YtbcbmkeeoognpaaGreatDoor


/- Add by worth alone. -/
namespace Go.Proofs.YtbcbmkeeoognpaaGreatDoor
open Go.RowKit

end Go.Proofs.YtbcbmkeeoognpaaGreatDoor


/- NSub by worth alone. -/
namespace Go.Proofs.YtbcbmkeeoognpaaGreatDoor
open Go.RowKit

end Go.Proofs.YtbcbmkeeoognpaaGreatDoor


/- RAdd by worth alone. -/
namespace Go.Proofs.YtbcbmkeeoognpaaGreatDoor
open Go.RowKit

theorem num_radd (ad bd : Option Addr) (n m c d : Nat) (V U : Int) (w : World) (h : Num w ad n c V) (k : Num w bd m d U) (hn : n ≤ 1099511627776) (hm : m ≤ 1099511627776) :
    Calls Tryz.prog 127 #[.slice ad n c, .slice bd m d] w (RetC (V + U) w) := by
  obtain ⟨xs, h1, h2, rfl⟩ := h.row
  obtain ⟨zs, k1, k2, rfl⟩ := k.row
  exact (radd_calls ad bd n m c d xs zs w (by omega) (by omega) h1 k1 h2 k2).mono fun e w' q => q.can
end Go.Proofs.YtbcbmkeeoognpaaGreatDoor


/- crucibleref01.Sub: the difference, or that there is none. -/
namespace Go.Proofs.YtbcbmkeeoognpaaGreatDoor
open Go.RowKit

end Go.Proofs.YtbcbmkeeoognpaaGreatDoor


/- RLen by worth alone. -/
namespace Go.Proofs.YtbcbmkeeoognpaaGreatDoor
open Go.RowKit

theorem num_rlen (ad : Option Addr) (n c : Nat) (V : Int) (w : World) (h : Num w ad n c V) (hn : n ≤ 1099511627776) :
    Calls Tryz.prog 118 #[.slice ad n c] w (fun e w' => e = .returned (.int .i64 (bitsOf V)) ∧ Below w.heap.size w w') := by
  obtain ⟨xs, h1, h2, rfl⟩ := h.row
  exact (rlen_calls ad n c xs w (by omega) h1 h2).mono fun e w' q => q
end Go.Proofs.YtbcbmkeeoognpaaGreatDoor


/- crucibleref01.Shl: times 2 to the power of n. -/
namespace Go.Proofs.YtbcbmkeeoognpaaGreatDoor
open Go.RowKit

theorem Blk.app {w : World} {b : Nat} {t : TypeId} {k : IntKind} {ys : List Int} (h : Blk w b t k ys) (B : Nat) (hB : B ≤ b) (hbig : ys.length ≤ 281474976710656) : App B w t k (some ⟨b, 0, none⟩) ys.length ys.length ys :=
  ⟨by simp [nums], .inr ⟨b, ys.length, _, rfl, hB, h, Nat.le_refl _, by simp only [maxLen]; omega, by simp [nums], by simp [nums, List.take_of_length_le]⟩⟩

end Go.Proofs.YtbcbmkeeoognpaaGreatDoor


/- Decimal texts: told, read, a digit more. Plain. -/
namespace Go.Proofs.YtbcbmkeeoognpaaGreatDoor

theorem decL_length (A : Int) : (decL A).length = (decD A).length := by rw [decL_decD, List.length_reverse, asc_length]
theorem decL_le (A : Int) (hA : 0 ≤ A) (na : Nat) (h : A < 4294967296 ^ na) : (decL A).length ≤ 10 * na + 1 := by
  rw [decL_length]
  unfold decD
  split
  · simp
  · have h2 : A < (10 : Int) ^ (10 * na) := by
      refine Int.lt_of_lt_of_le h ?_
      rw [Int.pow_mul]
      have : ∀ k : Nat, (4294967296 : Int) ^ k ≤ (10 ^ 10) ^ k := by
        intro k
        induction k with
        | zero => simp
        | succ k ih =>
          rw [Int.pow_succ, Int.pow_succ]
          have hp : (0 : Int) < 4294967296 ^ k := Int.pow_pos (by omega)
          generalize (4294967296 : Int) ^ k = P at *
          have e10 : (10 : Int) ^ 10 = 10000000000 := by decide
          rw [e10] at ih ⊢
          generalize (10000000000 : Int) ^ k = Q at *
          omega
      exact this na
    have := dg_length_le 10 (by omega) (10 * na) A h2
    omega
end Go.Proofs.YtbcbmkeeoognpaaGreatDoor


/- crucibleref01.Small: divided by a small number. -/
namespace Go.Proofs.YtbcbmkeeoognpaaGreatDoor
open Go.RowKit

def RSmallR (w : World) (xs : List Int) (d : Int) (n j : Nat) (r : Int) (wr : World) : Prop :=
  ∃ ys, Blk wr w.heap.size 3 .i64 ys ∧ ys.length = n ∧ Dig 256 ys ∧ Below w.heap.size w wr ∧ 0 ≤ r ∧ r < d ∧
    val 256 (xs.drop j) = val 256 (ys.drop j) * d + r

set_option maxHeartbeats 1000000 in
theorem rsmall_calls (ad : Option Addr) (n c : Nat) (la : List Int) (d : Int) (w : World) (hn : n ≤ 1099511627776) (hr : Rds w .u32 ad n la) (da : Dig 4294967296 la) (hd : 0 < d ∧ d < 4294967296) :
    Calls Tryz.prog 126 #[.slice ad n c, .int .u32 d] w (RetLNB 44 .u32 .u32 (dg 4294967296 (val 4294967296 la / d)) (val 4294967296 la % d) true w) := by
  obtain ⟨hd0, hd1⟩ := hd
  have hdd : (d == 0) = false := by simp; omega
  have l1 := bytes_len hr.len da
  have C1 := Lib.hid (bytes_calls ad n c la w (by omega) hr da)
  have vx := Lib.hid (val_dg 256 (by omega) (val 4294967296 la) (val_nonneg (by omega) da))
  have dx : Dig 256 (dg 256 (val 4294967296 la)) := dg_dig 256 (by omega) _
  clear hr
  generalize dg 256 (val 4294967296 la) = xs at *
  go_enter Tryz.func126, Tryz.ntmps126
  go_wp2_with fail
  refine (C1.out).mono ?_
  rintro e w1 ⟨xd, m, cx, rfl, ox, b1⟩
  have rx := ox.rds
  have HM := Lib.hid rx.len
  rw [HM.out] at l1
  clear C1 ox
  have hmk := make_rule (P := Tryz.prog) 188 3 .i64 8 Tryz.underlying188 info_int (by omega) m (by omega) (m : Int) rfl
  have hr0 : RSmallR w1 xs d m m 0 (w1.alloc (.cells (nums .i64 (List.replicate m 0)).toArray 3)) :=
    ⟨_, Blk.made _ _ _ _ _ rfl, by simp, Dig.replicate _ (by omega) _, (Below.refl _ _).alloc (Nat.le_refl _) _, by omega, by omega, by rw [List.drop_of_length_le (by rw [HM.out]; exact Nat.le_refl _), List.drop_of_length_le (by simp)]; simp [val]⟩
  go_wp2_with fail
  clear hmk
  go_loopw [10, 9] (fun i rr wr => ∃ j : Nat, ∃ r : Int, j ≤ m ∧ i = .int .i64 ((j : Int) - 1) ∧ rr = .int .i64 r ∧ RSmallR w1 xs d m j r wr) (fun i _ _ => (intOf i + 1).toNat)
  case atStart => exact ⟨m, 0, Nat.le_refl _, rfl, rfl, hr0⟩
  case round =>
    clear hr0
    obtain ⟨j, r, hj, rfl, rfl, ys, h1, h2, h3, h4, hr0, hr1, h5⟩ := hrel
    have H2 := Lib.hid h2
    have H5 := Lib.hid h5
    clear h2 h5
    by_cases hj0 : 0 < j
    · obtain ⟨j, rfl⟩ : ∃ i, j = i + 1 := ⟨j - 1, by omega⟩
      obtain ⟨a, rfl, hxl⟩ := (rx.below h4 (Nat.le_refl _)).cell j (by omega)
      have hf := h1.free j
      have hy := h1.cell j (by rw [H2.out]; omega)
      have bx := dx.get (by omega) j
      have Q1 : 0 ≤ (r * 256 + xs[j]?.getD 0) / d := Int.ediv_nonneg (by omega) (by omega)
      have Q2 : (r * 256 + xs[j]?.getD 0) / d < 256 := by
        refine Int.ediv_lt_of_lt_mul hd0 ?_
        have h2 : (r + 1) * 256 ≤ d * 256 := Int.mul_le_mul_of_nonneg_right (by omega) (by omega)
        rw [Int.mul_comm d] at h2
        omega
      have Q3 : 0 ≤ (r * 256 + xs[j]?.getD 0) % d := Int.emod_nonneg _ (by omega)
      have Q4 : (r * 256 + xs[j]?.getD 0) % d < d := Int.emod_lt_of_pos _ hd0
      have S := small_step 256 xs ys j (by rw [HM.out]; omega) (by rw [H2.out]; omega) d r _ ((r * 256 + xs[j]?.getD 0) / d) ((r * 256 + xs[j]?.getD 0) % d) rfl (by rw [Int.mul_ediv_add_emod]) H5.out
      have HS := Lib.hid S
      clear S H5
      have ej : (((j + 1 : Nat) : Int) - 1) = (j : Int) := by omega
      rw [ej]
      clear ej
      have T0 : 0 ≤ r * 256 + xs[j]?.getD 0 := by omega
      have T1 : r * 256 + xs[j]?.getD 0 ≤ 1099511627776 := by omega
      have T2 : 1 ≤ d := by omega
      have W2 := IntWalk.rem_in (r * 256 + xs[j]?.getD 0) d T0
      have W1 := IntWalk.i64_quo (r * 256 + xs[j]?.getD 0) d ⟨T0, by omega, T2⟩
      generalize xs[j]?.getD 0 = x at *
      go_wp2
      go_roundw
      case rel => exact ⟨j, _, by omega, rfl, rfl, _, h1.set j _, by simp [H2.out], h3.set Q1 Q2 _, below_set h4 _ _ _ (Nat.le_refl _), Q3, Q4, HS.out⟩
      case measure => simp [intOf]
    · obtain rfl : j = 0 := by omega
      have hv : val 256 xs = d * val 256 ys + r := by have := H5.out; simp at this; rw [Int.mul_comm] at this; exact this
      have e0 : val 256 xs = val 4294967296 la := vx.out
      rw [e0] at hv
      have E1 := Lib.hid (show val 256 ys = val 4294967296 la / d by rw [hv, Int.mul_add_ediv_left _ _ (by omega), Int.ediv_eq_zero_of_lt hr0 hr1, Int.add_zero])
      have E2 := Lib.hid (show r = val 4294967296 la % d by rw [hv, Int.mul_add_emod_self_left, Int.emod_eq_of_lt hr0 hr1])
      clear hv e0
      have hk := limbs_calls (some ⟨w1.heap.size, 0, none⟩) m m ys wr (by omega) (Nat.le_refl _) (by have := h1.rds; rwa [H2.out] at this) h3
      rw [E1.out] at hk
      go_wp2_with fail
      refine hk.mono ?_
      rintro e w' hr
      obtain ⟨rd, nr, cr, rfl, or, br⟩ := hr.after (below_trans b1 h4)
      go_wp2_with fail
      go_ret3
      refine ⟨rd, nr, cr, ?_, or, br⟩
      rw [← E2.out]
      rfl

end Go.Proofs.YtbcbmkeeoognpaaGreatDoor


/- quot.Pow: a small number to a power. -/
namespace Go.Proofs.YtbcbmkeeoognpaaGreatDoor
open Go.RowKit

theorem pow_none (b n : Int) (w : World) (hb : 0 ≤ b ∧ b < 4294967296) (hn : -9223372036854775808 ≤ n ∧ n < 9223372036854775808) (hno : powOk b n = false) :
    Calls Tryz.prog 29 #[.int .u32 b, .int .i64 n] w (RetLB 44 .u32 (dg 4294967296 0) false w) := by
  rw [dg_zero]
  unfold powOk at hno
  have hno := of_decide_eq_false hno
  by_cases hn0 : n < 0
  · clear hno
    go_enter Tryz.func29, Tryz.ntmps29
    go_wp2_with fail
    go_ret2
    exact ⟨_, _, _, rfl, Own.nil _ _ _ _ _, Below.refl _ _⟩
  · have hb2 : 2 ≤ b := by
      rcases Int.lt_or_le b 2 with h | h
      · exact absurd ⟨by omega, .inl h⟩ hno
      · exact h
    have hbig : (65536 : Int) / (blen b.toNat : Nat) < n := by
      rcases Int.lt_or_le ((65536 : Int) / (blen b.toNat : Nat)) n with h | h
      · exact h
      · exact absurd ⟨by omega, .inr h⟩ hno
    have L := Lib.hid (len32_calls b w hb.1 (by omega))
    have hbl : Lib.bitLen b.toNat = blen b.toNat := bitLen_blen _ (by omega)
    rw [hbl] at L
    have hp := blen_pos b.toNat (by omega)
    have hup : blen b.toNat ≤ 32 := by
      have h1 := blen_ge b.toNat (by omega)
      have : blen b.toNat - 1 < 32 := (Nat.pow_lt_pow_iff_right (a := 2) (by omega)).1 (Nat.lt_of_le_of_lt h1 (by rw [show (2 : Nat) ^ 32 = 4294967296 from by decide]; omega))
      omega
    generalize blen b.toNat = l at *
    clear hno hbl
    go_enter Tryz.func29, Tryz.ntmps29
    go_wp2_with fail
    with_reducible refine (L.out).mono ?_
    rintro e w' ⟨rfl, rfl⟩
    clear L
    go_wp2_with fail
    go_ret2
    exact ⟨_, _, _, rfl, Own.nil _ _ _ _ _, Below.refl _ _⟩

theorem pow_small (b n : Int) (w : World) (hb : 0 ≤ b ∧ b < 2) (hn : 0 ≤ n ∧ n < 9223372036854775808) :
    Calls Tryz.prog 29 #[.int .u32 b, .int .i64 n] w (RetLB 44 .u32 (dg 4294967296 (b ^ n.toNat)) true w) := by
  obtain ⟨v, hv⟩ : ∃ v, v = b ^ n.toNat := ⟨_, rfl⟩
  rw [← hv]
  have hv2 : v = (if n = 0 then 1 else b) := by
    rw [hv]
    split
    · rename_i h; subst h; simp
    · rename_i h
      obtain ⟨j, hj⟩ : ∃ j, n.toNat = j + 1 := ⟨n.toNat - 1, by omega⟩
      rw [hj]
      rcases (show b = 0 ∨ b = 1 by omega) with rfl | rfl
      · rw [Int.pow_succ, Int.mul_zero]
      · exact Int.one_pow
  have HV := Lib.hid hv2
  have F := fun (x : Int) (h0 : 0 ≤ x) (h1 : x < 2) => Lib.hid (from_calls x w h0 (by omega))
  clear hv hv2
  have m0 : min n 1 = (if n = 0 then 0 else 1) := by split <;> omega
  have A0 : bits .andNot .i64 1 0 = 1 := by decide
  have A1 : bits .andNot .i64 1 1 = 0 := by decide
  have O0 : bits .or .u64 0 0 = 0 := by decide
  have O1 : bits .or .u64 0 1 = 1 := by decide
  have O2 : bits .or .u64 1 0 = 1 := by decide
  have O3 : bits .or .u64 1 1 = 1 := by decide
  by_cases hn0 : n = 0
  · subst hn0
    obtain rfl : v = 1 := by have := HV.out; simpa using this
    have F1 := F 1 (by omega) (by omega)
    have m1 : min (0 : Int) 1 = 0 := by decide
    clear m0 A1 HV F

    rcases (show b = 0 ∨ b = 1 by omega) with rfl | rfl
    all_goals
      go_enter Tryz.func29, Tryz.ntmps29
      go_wp2_with fail
      with_reducible refine (F1.out).mono ?_
      rintro e w1 ⟨ad, k, c, rfl, o, b1⟩
      go_wp2_with fail
      go_ret2
      exact ⟨_, _, _, rfl, o, b1⟩
  · obtain rfl : v = b := by have := HV.out; simpa [hn0] using this
    rw [if_neg hn0] at m0
    have F1 := F v hb.1 hb.2
    clear A0 HV F hn0
    rcases (show v = 0 ∨ v = 1 by omega) with rfl | rfl
    all_goals
      go_enter Tryz.func29, Tryz.ntmps29
      go_wp2_with fail
      with_reducible refine (F1.out).mono ?_
      rintro e w1 ⟨ad, k, c, rfl, o, b1⟩
      go_wp2_with fail
      go_ret2
      exact ⟨_, _, _, rfl, o, b1⟩

set_option maxHeartbeats 1000000 in
set_option maxRecDepth 20000 in
theorem pow_great (b n : Int) (w : World) (hb : 2 ≤ b ∧ b < 4294967296) (hn0 : 0 ≤ n) (hn : n ≤ 65536 / (blen b.toNat : Nat)) (hT : Tab32 w) :
    Calls Tryz.prog 29 #[.int .u32 b, .int .i64 n] w (RetLB 44 .u32 (dg 4294967296 (b ^ n.toNat)) true w) := by
  have L := Lib.hid (len32_calls b w (by omega) (by omega))
  have hbl : Lib.bitLen b.toNat = blen b.toNat := bitLen_blen _ (by omega)
  rw [hbl] at L
  have HT := Lib.hid (tz32_calls b (by omega) w hT)
  have hp := blen_pos b.toNat (by omega)
  have hup : blen b.toNat ≤ 32 := by
    have h1 := blen_ge b.toNat (by omega)
    have : blen b.toNat - 1 < 32 := (Nat.pow_lt_pow_iff_right (a := 2) (by omega)).1 (Nat.lt_of_le_of_lt h1 (by rw [show (2 : Nat) ^ 32 = 4294967296 from by decide]; omega))
    omega
  have HN := Lib.hid hn
  have hn6 : n ≤ 65536 := by
    have : (65536 : Int) / (blen b.toNat : Nat) ≤ 65536 := Int.ediv_le_self _ (by omega)
    omega
  obtain ⟨l, HL⟩ : ∃ l : Int, Hid ((blen b.toNat : Int) = l) := ⟨_, rfl⟩
  have hp' : 0 < l := by rw [← HL.out]; omega
  have hup' : l ≤ 32 := by rw [← HL.out]; omega
  rw [HL.out] at L hn
  obtain ⟨zs, HZ⟩ : ∃ zs, Hid (zs = dg 4294967296 (b ^ n.toNat)) := ⟨_, rfl⟩
  rw [← HZ.out]
  clear hbl hp hup
  go_enter Tryz.func29, Tryz.ntmps29
  go_wp2_with fail
  with_reducible refine (L.out).mono ?_
  rintro e w' ⟨rfl, rfl⟩
  clear L
  go_wp2_with fail
  with_reducible refine (HT.out).mono ?_
  rintro e w' ⟨k, m, rfl, rfl, hk, hbm, hm⟩
  clear HT
  have hm0 : 0 < m := by omega
  have hkn : 0 ≤ (k : Int) * n ∧ (k : Int) * n ≤ 31 * 65536 := by
    refine ⟨Int.mul_nonneg (by omega) (by omega), Int.mul_le_mul (by omega) (by omega) (by omega) (by omega)⟩
  have hsh : b / 2 ^ k = (m : Int) := by
    rw [hbm, show ((m * 2 ^ k : Nat) : Int) = (m : Int) * 2 ^ k by simp]
    exact Int.mul_ediv_cancel _ (Int.ne_of_gt (Int.pow_pos (by omega)))
  have hmb : (m : Int) < 4294967296 := by
    have h1 : (m : Int) ≤ b := by
      rw [← hsh]; exact Int.ediv_le_self _ (by omega)
    omega
  have hmin : min k 64 = k := by omega
  obtain ⟨u, HU⟩ : ∃ u, Hid ((k : Int) * n = u) := ⟨_, rfl⟩
  rw [HU.out] at hkn
  have hu2 := HU.out
  have HB := Lib.hid hbm
  have hbN : b.toNat = m * 2 ^ k := by omega
  obtain ⟨SH1, SH2, SH3, SH4, -⟩ := pow_shl m k n.toNat 2048 rfl hm0 hk (by omega) (by
    have := HN.out
    rw [hbN] at this
    have e : ((65536 / blen (m * 2 ^ k) : Nat) : Int) = 65536 / (blen (m * 2 ^ k) : Nat) := by simp
    omega)
  rw [show ((n.toNat : Nat) : Int) = n by omega, HU.out] at SH1 SH2
  rw [← HB.out] at SH2
  have hmi0 : 0 < (m : Int) := by omega
  obtain ⟨mi, HMI⟩ : ∃ mi : Int, Hid ((m : Int) = mi) := ⟨_, rfl⟩
  rw [HMI.out] at hsh hmb hmi0 SH1 SH2 SH3 SH4
  obtain ⟨T, HT⟩ : ∃ T, Hid (mi ^ n.toNat = T) := ⟨_, rfl⟩
  rw [HT.out] at SH1 SH2 SH3 SH4
  rw [← SH2] at HZ
  have HS1 := Lib.hid SH1
  have HS3 := Lib.hid SH3
  clear SH1 SH2 SH3 hbN hbm HB HN hm0
  have F1 : Hid (∀ w1 : World, Calls Tryz.prog 121 #[.int .u64 1] w1 (RetL 44 .u32 (dg 4294967296 1) w1)) := Lib.hid fun w1 => from_calls 1 w1 (by omega) (by omega)
  have F2 : Hid (∀ w1 : World, Calls Tryz.prog 121 #[.int .u64 mi] w1 (RetL 44 .u32 (dg 4294967296 mi) w1)) := Lib.hid fun w1 => from_calls mi w1 (by omega) (by omega)
  have W1 : IntKind.u64.wrap mi = mi := IntWalk.u64_in _ (by omega)
  go_upto_region 7 with (fail)
  go_cut [8, 9] (fun s8 s9 wx => ∃ (x y : Option Addr) (i j c d : Nat), s8 = .slice x i c ∧ s9 = .slice y j d ∧ Own w.heap.size wx 44 .u32 x i c (dg 4294967296 1) ∧ Own w.heap.size wx 44 .u32 y j d (dg 4294967296 mi) ∧ Below w.heap.size w wx)
  case first =>
    go_region_with (go_at_call 121; first | ((with_reducible refine (F1.out _).mono ?_); rintro e w1 ⟨ad1, n1, c1, rfl, o1, b1⟩) | ((with_reducible refine (F2.out _).mono ?_); rintro e w2 ⟨ad2, n2, c2, rfl, o2, b2⟩))
    all_goals
      go_wp2_with fail
      go_meet
      case rel =>
        first
          | exact ⟨_, _, _, _, _, _, rfl, rfl, o1.below b2 (Nat.le_refl _), o2.mono b1.size, below_trans (below_drew (Below.refl _ _)) (below_trans b1 b2)⟩
          | exact ⟨_, _, _, _, _, _, rfl, rfl, o1.mono b2.size, o2.below b1 (Nat.le_refl _), below_trans (below_drew (Below.refl _ _)) (below_trans b2 b1)⟩
  case rest =>
    obtain ⟨x, y, i, j, c, d, rfl, rfl, ox, oy, bw⟩ := hcut
    clear F1 F2 W1 hu2
    go_upto_if 47 with (fail)
    go_cut [1] (fun s1 wx => ∃ kk : Int, s1 = .int .i64 kk ∧ 0 ≤ kk ∧ kk ≤ 65536 ∧ Hid (1 * mi ^ kk.toNat = T) ∧ wc = wx)
    case first =>
      by_cases hm1 : mi = 1
      · have HE : Hid (1 * mi ^ (0 : Int).toNat = T) := Lib.hid (by have := HT.out; rw [← this, hm1]; simp [Int.one_pow])
        subst hm1
        go_wp2_with fail
        go_meet
        case rel => exact ⟨0, rfl, by omega, by omega, HE, rfl⟩
      · have hm2 : (mi == 1) = false := by simpa using hm1
        clear hm1
        go_wp2_with fail
        go_meet
        case rel => exact ⟨n, rfl, hn0, hn6, Lib.hid (by have := HT.out; rw [Int.one_mul]; exact this), rfl⟩
    case rest =>
      obtain ⟨k0, rfl, hk0, hk1, hT0, rfl⟩ := hcut
      clear hsh
      go_wp2_with fail
      go_loopg [1, 8, 9] k0.toNat (fun g s1 s8 s9 wr => ∃ (x y : Option Addr) (i j c d : Nat) (A S : Int) (kk : Int), s1 = .int .i64 kk ∧ s8 = .slice x i c ∧ s9 = .slice y j d ∧ 0 ≤ kk ∧ kk ≤ 65536 ∧ 0 < A ∧ 0 < S ∧
        Own w.heap.size wr 44 .u32 x i c (dg 4294967296 A) ∧ Own w.heap.size wr 44 .u32 y j d (dg 4294967296 S) ∧ Below w.heap.size w wr ∧ Hid (A * S ^ kk.toNat = T) ∧ Hid (g = kk.toNat))
      case atStart => exact ⟨_, _, _, _, _, _, 1, mi, k0, rfl, rfl, rfl, hk0, hk1, by omega, by omega, ox, oy, bw, hT0, Lib.hid rfl⟩
      case round =>
        clear ox oy bw hT0 hk0 hk1 hn0 hn6
        obtain ⟨x, y, i, j, c, d, A, S, kk, rfl, rfl, rfl, hkk0, hkk, A0, S0, ox, oy, bw, hT, hme⟩ := hrel
        obtain ⟨pA, pS⟩ := pow_part A S T kk.toNat hT.out A0 S0
        have hi : i ≤ 2048 := by rw [← ox.len]; exact dg_length_le 4294967296 (by omega) 2048 A (Int.lt_of_le_of_lt pA HS3.out)
        have hic := ox.le
        have hjd := oy.le
        have eA := val_dg 4294967296 (by omega) A (by omega)
        have eS := val_dg 4294967296 (by omega) S (by omega)
        rw [show ((4294967296 : Nat) : Int) = 4294967296 from rfl] at eA eS
        have EA := Lib.hid eA
        have ES := Lib.hid eS
        clear eA eS
        by_cases hz : kk = 0
        · subst hz
          obtain rfl : A = T := by have := hT.out; simpa using this
          have SC := shl_calls x i c (dg 4294967296 A) u wr (by omega) hic ox.rds (dg_dig 4294967296 (by omega) _) (by omega)
          rw [EA.out, HS1.out, ← HZ.out] at SC
          have HSC := Lib.hid SC
          clear SC pS hT hme
          go_wp2_with fail
          with_reducible refine (HSC.out).mono ?_
          rintro e w5 ⟨rd, rn, rc, rfl, or, b5⟩
          go_wp2_with fail
          go_ret2
          exact ⟨_, _, _, rfl, or.mono bw.size, below_trans bw b5⟩
        · have hj : j ≤ 2048 := by rw [← oy.len]; exact dg_length_le 4294967296 (by omega) 2048 S (Int.lt_of_le_of_lt (pS (by omega)) HS3.out)
          have M1 := mul_calls x y i j c d (dg 4294967296 A) (dg 4294967296 S) wr (by omega) hic hjd ox.rds oy.rds (dg_dig 4294967296 (by omega) _) (dg_dig 4294967296 (by omega) _)
          have M2 := fun (wz : World) (bz : Below wr.heap.size wr wz) => mul_calls y y j j d d (dg 4294967296 S) (dg 4294967296 S) wz (by omega) hjd hjd (oy.rds.below bz (Nat.le_refl _)) (oy.rds.below bz (Nat.le_refl _)) (dg_dig 4294967296 (by omega) _) (dg_dig 4294967296 (by omega) _)
          rw [EA.out, ES.out] at M1
          rw [ES.out] at M2
          have HM1 := Lib.hid M1
          have HM2 : ∀ wz, Below wr.heap.size wr wz → Hid _ := fun wz bz => Lib.hid (M2 wz bz)
          have hk0 : 0 < kk := by omega
          obtain ⟨k2, hk2⟩ : ∃ k2, kk / 2 = k2 := ⟨_, rfl⟩
          have HK := Lib.hid hk2
          have AN := i64_and1' kk (by omega) (by omega)
          have hss : 0 < S * S := Int.mul_pos S0 S0
          have hAS : 0 < A * S := Int.mul_pos A0 S0
          have hk2b : 0 ≤ k2 ∧ k2 ≤ 65536 := by omega
          clear M1 M2 pS hz
          by_cases hodd : kk % 2 = 1
          · rw [hodd] at AN
            have hTT := pow_round_odd A S T kk.toNat hT.out (by omega)
            rw [show kk.toNat / 2 = k2.toNat by omega] at hTT
            have HTT := Lib.hid hTT
            have HO := Lib.hid hodd
            clear hTT hodd
            by_cases hk3 : k2 = 0
            · have HK3 := Lib.hid hk3
              have hTF : Hid (A * S * S ^ (0 : Int).toNat = T) := Lib.hid (by have := HTT.out; rw [HK3.out] at this; simpa using this)
              subst hk3
              go_wp2_with fail
              with_reducible refine (HM1.out).mono ?_
              rintro e w5 ⟨rd, rn, rc, rfl, or, b5⟩
              have oy5 := oy.below b5 (Nat.le_refl _)
              go_wp2_with fail
              go_roundg (0 : Nat)
              case measure => have h1 := hme.out; omega
              case rel => exact ⟨_, _, _, _, _, _, A * S, S, 0, rfl, rfl, rfl, by omega, by omega, hAS, S0, or.mono bw.size, oy5, below_trans bw b5, hTF, Lib.hid rfl⟩
            · have hle : 0 < k2 := by omega
              clear hk3
              go_wp2_with fail
              with_reducible refine (HM1.out).mono ?_
              rintro e w5 ⟨rd, rn, rc, rfl, or, b5⟩
              have HM5 := HM2 w5 b5
              clear HM2
              go_wp2_with fail
              with_reducible refine (HM5.out).mono ?_
              rintro e w6 ⟨sd, sn, sc, rfl, os, b6⟩
              go_wp2_with fail
              go_roundg k2.toNat
              case measure => have h1 := hme.out; have h2 := HK.out; omega
              case rel => exact ⟨_, _, _, _, _, _, A * S, S * S, k2, rfl, rfl, rfl, by omega, by omega, hAS, hss, (or.mono bw.size).below b6 (Nat.le_refl _), os.mono (by have := b5.size; have := bw.size; omega), below_trans bw (below_trans b5 b6), HTT, Lib.hid rfl⟩
          · have hev : kk % 2 = 0 := by omega
            rw [hev] at AN
            have hTT := pow_round_even A S T kk.toNat hT.out (by omega)
            rw [show kk.toNat / 2 = k2.toNat by omega] at hTT
            have HTT := Lib.hid hTT
            have hle : 0 < k2 := by omega
            have HM5 := HM2 wr (Below.refl _ _)
            clear hTT hev hodd HM1 HM2
            go_wp2_with fail
            with_reducible refine (HM5.out).mono ?_
            rintro e w6 ⟨sd, sn, sc, rfl, os, b6⟩
            go_wp2_with fail
            go_roundg k2.toNat
            case measure => have h1 := hme.out; have h2 := HK.out; omega
            case rel => exact ⟨_, _, _, _, _, _, A, S * S, k2, rfl, rfl, rfl, by omega, by omega, A0, hss, ox.below b6 (Nat.le_refl _), os.mono bw.size, below_trans bw b6, HTT, Lib.hid rfl⟩

theorem pow_calls (b n : Int) (w : World) (hb : 0 ≤ b ∧ b < 4294967296) (hn : -9223372036854775808 ≤ n ∧ n < 9223372036854775808) (hT : Tab32 w) :
    Calls Tryz.prog 29 #[.int .u32 b, .int .i64 n] w (RetLB 44 .u32 (dg 4294967296 (powNum b n)) (powOk b n) w) := by
  by_cases hok : powOk b n = true
  · unfold powNum
    rw [if_pos hok, hok]
    have h := of_decide_eq_true hok
    by_cases h2 : b < 2
    · exact pow_small b n w ⟨hb.1, h2⟩ ⟨h.1, hn.2⟩
    · exact pow_great b n w (by omega) h.1 (by rcases h.2 with h3 | h3
                                               · exact absurd h3 h2
                                               · exact h3) hT
  · have hok : powOk b n = false := by simpa using hok
    unfold powNum
    rw [hok, if_neg (by simp)]
    exact pow_none b n w hb hn hok
end Go.Proofs.YtbcbmkeeoognpaaGreatDoor


/- TwinInt, SameInt, LeftInt of the statements. -/
namespace Go.Proofs.YtbcbmkeeoognpaaGreatDoor
open Go.RowKit

/-- A bool is answered, nothing old has turned. -/
def RetBB (r : Bool) (w : World) (e : Ending) (w' : World) : Prop := e = .returned (.bool r) ∧ Below w.heap.size w w'

end Go.Proofs.YtbcbmkeeoognpaaGreatDoor


/- Whole numbers: Norm of the program. -/
namespace Go.Proofs.YtbcbmkeeoognpaaGreatDoor
open Go.RowKit

/-- As RetInt, sign and size by name. -/
def RetIntR (r : Bool) (A : Int) (w : World) (e : Ending) (w' : World) : Prop :=
  ∃ ad n c, e = .returned (.agg #[.bool r, .slice ad n c]) ∧ Can w' ad n c A ∧ Below w.heap.size w w'
theorem RetInt.named {N : Int} {r : Bool} {A : Int} (hr : decide (N < 0) = r) (hA : A = (N.natAbs : Int)) {w : World} {e : Ending} {w' : World} (h : RetInt N w e w') : RetIntR r A w e w' := by
  obtain ⟨ad, n, c, e1, h1, h2⟩ := h
  rw [hr] at e1
  rw [← hA] at h1
  exact ⟨ad, n, c, e1, h1, h2⟩
end Go.Proofs.YtbcbmkeeoognpaaGreatDoor


/- quot.moved: a number times 2 to the power of n, n below 32. -/
namespace Go.Proofs.YtbcbmkeeoognpaaGreatDoor
open Go.RowKit

theorem or_moved (x c : Int) (r : Nat) (hr : r < 32) (hx : 0 ≤ x ∧ x < 4294967296) (hc : 0 ≤ c ∧ c < 2 ^ r) :
    bits .or .u64 (x * 2 ^ r) c = x * 2 ^ r + c ∧ 0 ≤ x * 2 ^ r + c ∧ x * 2 ^ r < 18446744073709551616 ∧ 0 ≤ x * 2 ^ r ∧ x * 2 ^ r + c < 18446744073709551616 ∧ (x * 2 ^ r + c) / 4294967296 < 2 ^ r ∧ c < 4294967296 := by
  obtain ⟨x, rfl⟩ := Int.eq_ofNat_of_zero_le hx.1
  obtain ⟨c, rfl⟩ := Int.eq_ofNat_of_zero_le hc.1
  have hp : (2 : Nat) ^ r ≤ 2147483648 := by
    have : ∀ r : Nat, r < 32 → 2 ^ r ≤ 2147483648 := by decide
    exact this r hr
  have e0 : ((2 : Int) ^ r) = ((2 ^ r : Nat) : Int) := by simp
  have e1 : (x : Int) * 2 ^ r = ((x * 2 ^ r : Nat) : Int) := by simp
  rw [e1, e0]
  rw [e0] at hc
  have hx2 : x * 2 ^ r ≤ 4294967295 * 2 ^ r := Nat.mul_le_mul_right _ (by omega)
  have hp0 := Nat.two_pow_pos r
  have hj := nat_join r (x * 2 ^ r) c (by rw [Nat.mul_mod_left]) (by omega)
  generalize 2 ^ r = R at *
  have e : bits .or .u64 ((x * R : Nat) : Int) (c : Int) = ((x * R ||| c : Nat) : Int) := Go.bits_or_u64_nat (x * R) c (by omega) (by omega)
  rw [e, hj]
  refine ⟨by simp, by omega, by omega, by omega, by omega, ?_, by omega⟩
  omega

def MovedI (w : World) (la : List Int) (n r m k : Nat) (c : Int) (wr : World) : Prop :=
  ∃ ds, App w.heap.size wr 44 .u32 (some ⟨w.heap.size, 0, none⟩) k (n + 1) ds ∧ Dig 4294967296 ds ∧ Below w.heap.size w wr ∧ w.heap.size ≤ wr.heap.size ∧ 0 ≤ c ∧ c < 2 ^ r ∧
    val 4294967296 ds + c * 4294967296 ^ k = val 4294967296 (la.take k) * 2 ^ r

/-- A list of one place more, worth the number times 2 to the power of r. -/
def MovedR (w : World) (la : List Int) (n r : Nat) (e : Ending) (w' : World) : Prop :=
  ∃ zs, zs.length = n + 1 ∧ Dig 4294967296 zs ∧ val 4294967296 zs = val 4294967296 la * 2 ^ r ∧ RetL 44 .u32 zs w e w'

theorem moved_calls (ad : Option Addr) (n c r : Nat) (la : List Int) (w : World) (hn : n ≤ 70368744177662) (hc : n ≤ c) (hr : r < 32) (ha : Rds w .u32 ad n la) (da : Dig 4294967296 la) :
    Calls Tryz.prog 241 #[.slice ad n c, .int .i64 r] w (MovedR w la n r) := by
  have HL := Lib.hid ha.len
  have hmk := make0_rule (P := Tryz.prog) 23 44 .u32 4 Tryz.underlying23 info_limb (by omega) (n + 1) (by omega) ((n : Int) + 1) (by omega)
  have hI : MovedI w la n r n 0 0 (w.alloc (.cells (madeCells #[.int .u32 0] (n + 1)) 44)) :=
    ⟨[], App.made _ _ _ _ _ (Nat.le_refl _) (by omega) _ rfl, Dig.nil _, (Below.refl _ _).alloc (Nat.le_refl _) _, by simp, by omega, Int.pow_pos (by omega), by simp [val]⟩
  go_enter Tryz.func241, Tryz.ntmps241
  go_wp2
  clear hmk
  go_loopw [16, 5, 6] (fun i v cy wr => ∃ k : Nat, ∃ c : Int, k ≤ n ∧ i = .int .i64 k ∧ cy = .int .u64 c ∧ v = .slice (some ⟨w.heap.size, 0, none⟩) k (n + 1) ∧ MovedI w la n r n k c wr) (fun i _ _ _ => n - (intOf i).toNat)
  case atStart => exact ⟨0, 0, Nat.zero_le _, rfl, rfl, rfl, hI⟩
  case round =>
    clear hI
    obtain ⟨k, cy, hk, rfl, rfl, rfl, ds, g1, g2, g3, g4, c0, c1, g5⟩ := hrel
    have H5 := Lib.hid g5
    clear g5
    by_cases hkn : k < n
    · obtain ⟨a, rfl, hx⟩ := (ha.below g3 (Nat.le_refl _)).cell k hkn
      have bx := da.get (by omega) k
      have ST := Lib.hid (moved_step 4294967296 (2 ^ r) la ds k g1.len cy _ rfl H5.out)
      clear H5
      generalize la[k]?.getD 0 = x at *
      obtain ⟨o1, o2, o3, o4, o5, o6, o7⟩ := or_moved x cy r hr bx ⟨c0, c1⟩
      have hmin : min r 64 = r := by omega
      generalize ht : x * 2 ^ r = T at *
      have HT := Lib.hid ht
      clear ht
      have W1 : IntKind.u64.wrap (x * 2 ^ r) = T := by rw [HT.out]; exact IntWalk.u64_in _ (by omega)
      go_wp2_with (at_builtin; refine app_room w.heap.size rfl (.tmp 26) (.tmp 29) 23 44 .u32 4 rfl Tryz.underlying23 info_limb w.heap.size k (n + 1) ds ((T + cy) % 4294967296) rfl rfl g1 g3 g4 (by omega) ?_; intro w3 k1 k2 k3)
      go_roundw
      case rel => exact ⟨k + 1, _, by omega, by go_num, rfl, rfl, _, k1, g2.append (Dig.cons (by omega) (by omega) (Dig.nil _)), k2, k3, by omega, o6, ST.out⟩
      case measure => simp [intOf]; omega
    · obtain rfl : k = n := by omega
      have hc4 : cy < 4294967296 := (or_moved 0 cy r hr (by omega) ⟨c0, c1⟩).2.2.2.2.2.2
      have hl := g1.len
      have HV : Hid (val 4294967296 (ds ++ [cy]) = val 4294967296 la * 2 ^ r) := by
        have := H5.out
        rw [List.take_of_length_le (by rw [HL.out]; exact Nat.le_refl _)] at this
        show _ = _
        rw [val_append, hl, ← this]
        simp only [val]
        rw [Int.mul_zero, Int.add_zero, Int.mul_comm]
      go_wp2_with (at_builtin; refine app_room w.heap.size rfl (.tmp 34) (.tmp 37) 23 44 .u32 4 rfl Tryz.underlying23 info_limb w.heap.size k (k + 1) ds cy rfl rfl g1 g3 g4 (by omega) ?_; intro w3 k1 k2 k3)
      go_ret
      exact ⟨_, by simp [hl], g2.append (Dig.cons c0 hc4 (Dig.nil _)), HV.out, _, _, _, rfl, k1.own, k2⟩
end Go.Proofs.YtbcbmkeeoognpaaGreatDoor

