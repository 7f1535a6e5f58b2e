/- Contracts of functions, and plain facts, part 5. -/
import Derived.BigRegion
import Derived.Test.YtgnophflogmmaaaDoorPk1
import Derived.Test.YtgnophflogmmaaaDoorPk2
import Derived.Test.YtgnophflogmmaaaDoorPk3
import Derived.Test.YtgnophflogmmaaaDoorPk4
set_option linter.unusedVariables false
set_option linter.unusedSimpArgs false
/- A row in memory that a call may write upon, known at its first places; one block alone has turned. -/
namespace Go.Proofs.YtgnophflogmmaaaDoor
open Go.RowKit

/-- The first cells of block b read as xs; they may be written upon. -/
def RowAt (w : World) (b : Nat) (t : TypeId) (k : IntKind) (xs : List Int) : Prop :=
  ∃ cs, w.heap[b]? = some (.cells cs t (0, 0)) ∧ xs.length ≤ cs.size ∧ ∀ j, j < xs.length → cs[j]? = some (.int k (xs[j]?.getD 0))

theorem RowAt.lt {w : World} {b : Nat} {t : TypeId} {k : IntKind} {xs : List Int} (h : RowAt w b t k xs) : b < w.heap.size := by
  obtain ⟨cs, h1, _⟩ := h
  exact (Array.getElem?_eq_some_iff.1 h1).1
theorem RowAt.cell {w : World} {b : Nat} {t : TypeId} {k : IntKind} {xs : List Int} (h : RowAt w b t k xs) (j : Nat) (hj : j < xs.length) :
    w.cell? ⟨b, j, none⟩ = some (.int k (xs[j]?.getD 0)) := by
  obtain ⟨cs, h1, _, h3⟩ := h
  simp [World.cell?, h1, h3 j hj]
theorem RowAt.free {w : World} {b : Nat} {t : TypeId} {k : IntKind} {xs : List Int} (h : RowAt w b t k xs) (j : Nat) : w.frozen? ⟨b, j, none⟩ = false := by
  obtain ⟨cs, h1, _⟩ := h
  simp [World.frozen?, h1]
theorem RowAt.drewN {w : World} {b : Nat} {t : TypeId} {k : IntKind} {xs : List Int} (h : RowAt w b t k xs) (n : Nat) : RowAt (w.drewN n) b t k xs := h
theorem RowAt.drew {w : World} {b : Nat} {t : TypeId} {k : IntKind} {xs : List Int} (h : RowAt w b t k xs) : RowAt w.drew b t k xs := h
theorem RowAt.set {w : World} {b : Nat} {t : TypeId} {k : IntKind} {xs : List Int} (h : RowAt w b t k xs) (j : Nat) (x : Int) : RowAt (w.setCell ⟨b, j, none⟩ (.int k x)) b t k (xs.set j x) := by
  obtain ⟨cs, h1, h2, h3⟩ := h
  refine ⟨cs.setIfInBounds j (.int k x), ?_, by simpa using h2, fun i hi => ?_⟩
  · simp only [World.setCell, Array.getElem?_modify, h1, if_true, Option.map_some, Option.isSome_none]
    simp
  · rw [List.length_set] at hi
    rw [Array.getElem?_setIfInBounds, List.getElem?_set]
    by_cases e : j = i
    · subst e
      rw [if_pos rfl, if_pos (by omega), if_pos rfl, if_pos hi]
      rfl
    · rw [if_neg e, if_neg e]
      exact h3 i hi
theorem RowAt.below {w w1 : World} {b : Nat} {t : TypeId} {k : IntKind} {xs : List Int} (h : RowAt w b t k xs) {B : Nat} (hb : Below B w w1) (hB : b < B) : RowAt w1 b t k xs := by
  obtain ⟨cs, h1, h2⟩ := h
  exact ⟨cs, (hb.block b hB).trans h1, h2⟩
theorem RowAt.part {w : World} {b : Nat} {t : TypeId} {k : IntKind} {xs : List Int} (h : RowAt w b t k xs) (j n : Nat) (hj : j + n ≤ xs.length) : Rds w k (some ⟨b, j, none⟩) n ((xs.drop j).take n) := by
  refine ⟨by rw [List.length_take, List.length_drop]; omega, fun i hi => ⟨_, rfl, ?_⟩⟩
  have e : (⟨b, j, none⟩ : Addr).add i = ⟨b, j + i, none⟩ := by unfold Addr.add; split <;> simp_all
  rw [e, h.cell (j + i) (by omega), List.getElem?_take_of_lt hi, List.getElem?_drop]
theorem RowAt.first {w : World} {b : Nat} {t : TypeId} {k : IntKind} {xs : List Int} (h : RowAt w b t k xs) (n : Nat) (hn : n ≤ xs.length) : RowAt w b t k (xs.take n) := by
  obtain ⟨cs, h1, h2, h3⟩ := h
  refine ⟨cs, h1, by rw [List.length_take]; omega, fun j hj => ?_⟩
  rw [List.length_take] at hj
  rw [h3 j (by omega), List.getElem?_take_of_lt (by omega)]
theorem RowAt.rds {w : World} {b : Nat} {t : TypeId} {k : IntKind} {xs : List Int} (h : RowAt w b t k xs) : Rds w k (some ⟨b, 0, none⟩) xs.length xs :=
  ⟨rfl, fun j hj => ⟨_, rfl, by rw [plain_add]; exact h.cell j hj⟩⟩
theorem Blk.rowAt {w : World} {b : Nat} {t : TypeId} {k : IntKind} {ys : List Int} (h : Blk w b t k ys) : RowAt w b t k ys :=
  ⟨_, h, by simp [nums], fun j hj => by rw [List.getElem?_toArray, nums_get k ys j hj]⟩
theorem Own.rowAt {B : Nat} {w : World} {t : TypeId} {k : IntKind} {ad : Option Addr} {n c : Nat} {xs : List Int} (h : Own B w t k ad n c xs) (hn : 0 < n) : ∃ b, ad = some ⟨b, 0, none⟩ ∧ B ≤ b ∧ RowAt w b t k xs := by
  have h1 := h.le
  have h2 := h.len
  obtain ⟨b, cs, e, hb, hh, hc, hx⟩ := h.row (by omega)
  exact ⟨b, e, hb, cs, hh, by omega, fun j hj => hx j (by omega)⟩

/-- Block b alone has turned. -/
structure Only (b : Nat) (w w' : World) : Prop where
  os : w'.os = w.os
  tape : w'.tape = w.tape
  output : w'.output = w.output
  size : w'.heap.size = w.heap.size
  rest : ∀ i, i ≠ b → w'.heap[i]? = w.heap[i]?
theorem Only.refl (b : Nat) (w : World) : Only b w w := ⟨rfl, rfl, rfl, rfl, fun _ _ => rfl⟩
theorem Only.set {b : Nat} {w W : World} (h : Only b w W) (j : Nat) (v : Value) : Only b w (W.setCell ⟨b, j, none⟩ v) := by
  refine ⟨h.os, h.tape, h.output, ?_, fun i hi => ?_⟩
  · simp only [World.setCell, Array.size_modify]
    exact h.size
  · simp only [World.setCell, Array.getElem?_modify]
    rw [if_neg (fun e => hi e.symm)]
    exact h.rest i hi
theorem Only.drewN {b : Nat} {w W : World} (h : Only b w W) (n : Nat) : Only b w (W.drewN n) := ⟨h.os, h.tape, h.output, h.size, h.rest⟩
theorem Only.drew {b : Nat} {w W : World} (h : Only b w W) : Only b w W.drew := ⟨h.os, h.tape, h.output, h.size, h.rest⟩
theorem Only.trans {b : Nat} {w w1 w2 : World} (h : Only b w w1) (k : Only b w1 w2) : Only b w w2 :=
  ⟨k.os.trans h.os, k.tape.trans h.tape, k.output.trans h.output, k.size.trans h.size, fun i hi => (k.rest i hi).trans (h.rest i hi)⟩
theorem Only.below {B b : Nat} {w0 w w' : World} (hb : Below B w0 w) (hB : B ≤ b) (h : Only b w w') : Below B w0 w' :=
  hb.trans ⟨h.os, h.tape, h.output, Nat.le_of_eq h.size.symm, fun i hi => h.rest i (by omega)⟩
theorem Rds.only {w w1 : World} {k : IntKind} {ad : Option Addr} {n : Nat} {xs : List Int} (h : Rds w k ad n xs) {b : Nat} (ho : Only b w w1) (hne : ∀ a, ad = some a → a.block ≠ b) : Rds w1 k ad n xs :=
  ⟨h.len, fun j hj => by
    obtain ⟨a, e, hc⟩ := h.cell j hj
    refine ⟨a, e, ?_⟩
    rw [← hc]
    have e2 : (a.add j).block = a.block := by unfold Addr.add; split <;> rfl
    have e3 := ho.rest a.block (hne a e)
    simp only [World.cell?, e2, e3]⟩
theorem RowAt.only {w w1 : World} {c : Nat} {t : TypeId} {k : IntKind} {xs : List Int} (h : RowAt w c t k xs) {b : Nat} (ho : Only b w w1) (hne : c ≠ b) : RowAt w1 c t k xs := by
  obtain ⟨cs, h1, h2⟩ := h
  exact ⟨cs, (ho.rest c hne).trans h1, h2⟩
theorem Blk.only {w w1 : World} {c : Nat} {t : TypeId} {k : IntKind} {xs : List Int} (h : Blk w c t k xs) {b : Nat} (ho : Only b w w1) (hne : c ≠ b) : Blk w1 c t k xs := (ho.rest c hne).trans h

/-- The list X put upon Z from place j on. -/
def putAt (Z : List Int) (j : Nat) (X : List Int) : List Int := Z.take j ++ (X ++ Z.drop (j + X.length))
theorem putAt_length (Z : List Int) (j : Nat) (X : List Int) (h : j + X.length ≤ Z.length) : (putAt Z j X).length = Z.length := by
  simp [putAt]
  omega
theorem putAt_get (Z : List Int) (j : Nat) (X : List Int) (hj : j ≤ Z.length) (i : Nat) (hi : i < X.length) : (putAt Z j X)[j + i]?.getD 0 = X[i]?.getD 0 := by
  unfold putAt
  rw [List.getElem?_append_right (by rw [List.length_take]; omega), List.length_take, Nat.min_eq_left hj, Nat.add_sub_cancel_left, List.getElem?_append_left hi]
theorem putAt_set (Z : List Int) (j : Nat) (X : List Int) (hj : j ≤ Z.length) (i : Nat) (hi : i < X.length) (v : Int) : (putAt Z j X).set (j + i) v = putAt Z j (X.set i v) := by
  unfold putAt
  rw [List.set_append_right _ _ (by rw [List.length_take]; omega), List.length_take, Nat.min_eq_left hj, Nat.add_sub_cancel_left, List.set_append_left _ _ hi, List.length_set]
theorem putAt_self (Z : List Int) (j n : Nat) (h : j + n ≤ Z.length) : putAt Z j ((Z.drop j).take n) = Z := by
  unfold putAt
  have e : ((Z.drop j).take n).length = n := by rw [List.length_take, List.length_drop]; omega
  rw [e]
  have e2 : List.drop (j + n) Z = (Z.drop j).drop n := by rw [List.drop_drop]
  rw [e2, List.take_append_drop, List.take_append_drop]
theorem putAt_part (Z : List Int) (j : Nat) (X : List Int) (hj : j ≤ Z.length) : ((putAt Z j X).drop j).take X.length = X := by
  unfold putAt
  rw [List.drop_append_of_le_length (by rw [List.length_take]; omega), List.drop_of_length_le (by rw [List.length_take]; omega), List.nil_append, List.take_left']
  rfl
theorem putAt_put (Z : List Int) (j : Nat) (X Y : List Int) (hj : j + X.length ≤ Z.length) (e : Y.length = X.length) : putAt (putAt Z j X) j Y = putAt Z j Y := by
  unfold putAt
  rw [e, List.take_append_of_le_length (by rw [List.length_take]; omega), List.take_take, Nat.min_self]
  congr 2
  rw [← List.append_assoc, List.drop_left']
  simp [List.length_take]
  omega
theorem putAt_dig {b : Int} {Z X : List Int} (hZ : Dig b Z) (hX : Dig b X) (j : Nat) : Dig b (putAt Z j X) := (hZ.take _).append (hX.append (hZ.drop _))
theorem putAt_val (b : Int) (Z : List Int) (j n : Nat) (X : List Int) (hX : X.length = n) (h : j + n ≤ Z.length) :
    val b (putAt Z j X) = val b Z + b ^ j * (val b X - val b ((Z.drop j).take n)) := by
  have e1 : val b Z = val b (Z.take j) + b ^ j * (val b ((Z.drop j).take n) + b ^ n * val b (Z.drop (j + n))) := by
    have h1 := val_split b Z j (by omega)
    have h2 := val_split b (Z.drop j) n (by rw [List.length_drop]; omega)
    rw [List.drop_drop] at h2
    rw [h1, h2]
  unfold putAt
  rw [val_append, val_append, hX, List.length_take, Nat.min_eq_left (by omega), e1]
  generalize val b (List.drop (j + n) Z) = D
  generalize val b (List.take n (List.drop j Z)) = W
  generalize val b X = V
  generalize b ^ j = P
  generalize b ^ n = R
  grind
end Go.Proofs.YtgnophflogmmaaaDoor

/- Taking a multiple off, putting it on again, moving up: place by place. -/
namespace Go.Proofs.YtgnophflogmmaaaDoor

theorem below_step (B : Int) (x X y : List Int) (i : Nat) (hi : i < X.length) (m c r p v r' : Int) (hp : p = y[i]?.getD 0 * m + c) (hv : v = x[i]?.getD 0 - p % B - r + r' * B)
    (E : val B (X.take i) + val B (y.take i) * m = val B (x.take i) + (c + r) * B ^ i) :
    val B ((X.set i v).take (i + 1)) + val B (y.take (i + 1)) * m = val B (x.take (i + 1)) + (p / B + r') * B ^ (i + 1) := by
  rw [val_set_take B X i _ hi, val_take_succ', val_take_succ', Int.pow_succ]
  have h := Int.emod_add_mul_ediv p B
  generalize x[i]?.getD 0 = xi at *
  generalize y[i]?.getD 0 = yi at *
  generalize p / B = q at *
  generalize p % B = s at *
  generalize B ^ i = P at *
  generalize val B (X.take i) = VX at *
  generalize val B (x.take i) = Vx at *
  generalize val B (y.take i) = Vy at *
  have e : s = yi * m + c - B * q := by omega
  subst e
  subst hv
  grind

theorem below_end (B : Int) (x X y : List Int) (n : Nat) (hx : x.length = n + 1) (hX : X.length = n + 1) (hy : y.length = n) (m c r v r' : Int) (hv : v = x[n]?.getD 0 - c - r + r' * B)
    (E : val B (X.take n) + val B (y.take n) * m = val B (x.take n) + (c + r) * B ^ n) :
    val B (X.set n v) + val B y * m = val B x + r' * B ^ (n + 1) := by
  have h1 := val_set_take B X n v (by omega)
  rw [List.take_of_length_le (by rw [List.length_set]; omega)] at h1
  have h2 := val_take_succ' B x n
  rw [List.take_of_length_le (by omega)] at h2
  rw [List.take_of_length_le (show y.length ≤ n by omega)] at E
  rw [h1, h2, Int.pow_succ]
  generalize x[n]?.getD 0 = xi at *
  generalize B ^ n = P at *
  generalize val B (X.take n) = VX at *
  generalize val B (x.take n) = Vx at *
  subst hv
  grind

theorem back_step (B : Int) (x X y : List Int) (i : Nat) (hi : i < X.length) (c s : Int) (hs : s = x[i]?.getD 0 + y[i]?.getD 0 + c)
    (E : val B (X.take i) + c * B ^ i = val B (x.take i) + val B (y.take i)) :
    val B ((X.set i (s % B)).take (i + 1)) + s / B * B ^ (i + 1) = val B (x.take (i + 1)) + val B (y.take (i + 1)) := add_step B x y X i hi c s hs E

theorem back_end (B : Int) (x X y : List Int) (n : Nat) (hx : x.length = n + 1) (hX : X.length = n + 1) (hy : y.length = n) (c s : Int) (hs : s = x[n]?.getD 0 + c)
    (E : val B (X.take n) + c * B ^ n = val B (x.take n) + val B (y.take n)) :
    val B (X.set n (s % B)) + s / B * B ^ (n + 1) = val B x + val B y := by
  have h1 := val_set_take B X n (s % B) (by omega)
  rw [List.take_of_length_le (by rw [List.length_set]; omega)] at h1
  have h2 := val_take_succ' B x n
  rw [List.take_of_length_le (by omega)] at h2
  rw [List.take_of_length_le (show y.length ≤ n by omega)] at E
  have h := Int.emod_add_mul_ediv s B
  rw [h1, h2, Int.pow_succ]
  generalize x[n]?.getD 0 = xi at *
  generalize B ^ n = P at *
  generalize val B (X.take n) = VX at *
  generalize val B (x.take n) = Vx at *
  generalize s / B = q at *
  generalize s % B = t at *
  have e : t = xi + c - B * q := by omega
  subst e
  grind

/-- Moved up by one more place. -/
theorem moved_step (B R : Int) (x X : List Int) (i : Nat) (hX : X.length = i) (c s : Int) (hs : s = x[i]?.getD 0 * R + c)
    (E : val B X + c * B ^ i = val B (x.take i) * R) :
    val B (X ++ [s % B]) + s / B * B ^ (i + 1) = val B (x.take (i + 1)) * R := by
  rw [val_append, val_take_succ', Int.pow_succ, hX]
  have h := Int.emod_add_mul_ediv s B
  simp only [val, Int.mul_zero, Int.add_zero]
  generalize x[i]?.getD 0 = xi at *
  generalize B ^ i = P at *
  generalize val B X = VX at *
  generalize val B (x.take i) = Vx at *
  generalize s / B = q at *
  generalize s % B = t at *
  have e : t = xi * R + c - B * q := by omega
  subst e
  grind
end Go.Proofs.YtgnophflogmmaaaDoor

/- nat.Shl: times 2 to the power of n. -/
namespace Go.Proofs.YtgnophflogmmaaaDoor
open Go.RowKit

/-- A limb moved up by r, and what comes up from below. -/
theorem or_move (x y : Int) (r : Nat) (hx : 0 ≤ x ∧ x < 4294967296) (hy : 0 ≤ y ∧ y < 4294967296) (h0 : 0 < r) (hr : r < 32) :
    bits .or .u32 (x * 2 ^ r % 4294967296) (y / 2 ^ (32 - r)) = x * 2 ^ r % 4294967296 + y * 2 ^ r / 4294967296 ∧ 0 ≤ x * 2 ^ r % 4294967296 ∧ x * 2 ^ r % 4294967296 + y * 2 ^ r / 4294967296 < 4294967296 ∧
      0 ≤ y / 2 ^ (32 - r) ∧ y / 2 ^ (32 - r) < 4294967296 ∧ 0 ≤ y * 2 ^ r / 4294967296 := by
  obtain ⟨x, rfl⟩ := Int.eq_ofNat_of_zero_le hx.1
  obtain ⟨y, rfl⟩ := Int.eq_ofNat_of_zero_le hy.1
  have hB : (4294967296 : Nat) = 2 ^ r * 2 ^ (32 - r) := by rw [← Nat.pow_add, show r + (32 - r) = 32 by omega]
  have e1 : (x : Int) * 2 ^ r % 4294967296 = ((x * 2 ^ r % 4294967296 : Nat) : Int) := by simp
  have e2 : (y : Int) / 2 ^ (32 - r) = ((y / 2 ^ (32 - r) : Nat) : Int) := by simp
  have e3 : (y : Int) * 2 ^ r / 4294967296 = ((y * 2 ^ r / 4294967296 : Nat) : Int) := by simp
  have q : y * 2 ^ r / 4294967296 = y / 2 ^ (32 - r) := by
    rw [hB, Nat.mul_comm y, Nat.mul_div_mul_left _ _ (Nat.two_pow_pos r)]
  have hq : y / 2 ^ (32 - r) < 2 ^ r := by
    rw [Nat.div_lt_iff_lt_mul (Nat.two_pow_pos _), ← hB]
    omega
  have hd : x * 2 ^ r % 4294967296 % 2 ^ r = 0 := by
    rw [hB, Nat.mul_comm x, Nat.mul_mod_mul_left, Nat.mul_mod_right]
  have hl : x * 2 ^ r % 4294967296 < 4294967296 := Nat.mod_lt _ (by omega)
  have hp : 2 ^ r ≤ 2147483648 := by
    have : ∀ r : Nat, r < 32 → 2 ^ r ≤ 2147483648 := by decide
    exact this r hr
  rw [e1, e2, e3, q]
  have hj := nat_join r (x * 2 ^ r % 4294967296) (y / 2 ^ (32 - r)) hd hq
  have hsum : x * 2 ^ r % 4294967296 + y / 2 ^ (32 - r) < 4294967296 := by
    have hm : x * 2 ^ r % 4294967296 ≤ 4294967296 - 2 ^ r := by
      have h1 := Nat.div_add_mod (x * 2 ^ r % 4294967296) (2 ^ r)
      rw [hd, Nat.add_zero] at h1
      have h2 : x * 2 ^ r % 4294967296 / 2 ^ r < 2 ^ (32 - r) := by
        rw [Nat.div_lt_iff_lt_mul (Nat.two_pow_pos _), Nat.mul_comm (2 ^ (32 - r)), ← hB]
        exact hl
      have h3 := Nat.mul_le_mul_left (2 ^ r) (show x * 2 ^ r % 4294967296 / 2 ^ r + 1 ≤ 2 ^ (32 - r) by omega)
      rw [← hB, Nat.mul_add] at h3
      omega
    omega
  refine ⟨?_, by omega, by omega, by omega, by omega, by omega⟩
  rw [u32_or_nat _ _ hl (by omega), hj]
  simp

def ShlR (w : World) (zs : List Int) (R : Int) (j : Nat) (wr : World) : Prop :=
  ∃ ys, Blk wr w.heap.size 32 .u32 ys ∧ ys.length = zs.length ∧ Dig 4294967296 ys ∧ Below w.heap.size w wr ∧ (∀ k, k < j → ys[k]?.getD 0 = zs[k]?.getD 0) ∧
    val 4294967296 (ys.drop j) = R * val 4294967296 (zs.drop j) + carryUp 4294967296 R zs j

set_option maxHeartbeats 1000000 in
theorem shl_good (ad : Option Addr) (nn c : Nat) (la : List Int) (n : Int) (w : World) (hn : nn ≤ 70368744177664) (hnc : nn ≤ c) (hr : Rds w .u32 ad nn la) (da : Dig 4294967296 la)
    (hn0 : 0 ≤ n) (hV : val 4294967296 la ≠ 0) (hlim : n ≤ 8388608 - bitsOf (val 4294967296 la)) :
    Calls Tryd.prog 35 #[.slice ad nn c, .int .i64 n] w (RetLB 32 .u32 (dg 4294967296 (val 4294967296 la * 2 ^ n.toNat)) true w) := by
  have hc := Lib.hid (cut_calls ad nn c la w (by omega) hnc hr)
  have rx := hr.norm
  have dx := norm_dig da
  have hma := norm_length_le la
  rw [hr.len] at hma
  have HV := Lib.hid (val_norm 4294967296 la)
  rw [← HV.out] at hV hlim ⊢
  have hbits : (blen (val 4294967296 (norm la)).toNat : Int) = bitsOf (val 4294967296 (norm la)) := rfl
  have hm1 : norm la ≠ [] := by intro e; rw [e] at hV; exact hV rfl
  clear hr da HV
  have HNN := Lib.hid (norm_norm la)
  generalize norm la = xs at *
  obtain ⟨m, hm⟩ : ∃ m, xs.length = m := ⟨_, rfl⟩
  have hm0 : 0 < m := by rw [← hm]; exact List.length_pos_iff.2 hm1
  rw [hm] at hc rx hma
  have HM := Lib.hid hm
  have hl := Lib.hid (nlen_calls ad m m xs w (by omega) (Nat.le_refl _) rx dx)
  have hb0 : 0 ≤ bitsOf (val 4294967296 xs) := by unfold bitsOf; omega
  have hmb : 32 * ((m : Int) - 1) + 1 ≤ bitsOf (val 4294967296 xs) := by
    have h1 := blen_list 32 4294967296 (by decide) xs dx HNN.out (m - 1) (by omega)
    have h2 := blen_pos (xs[m - 1]?.getD 0).toNat (by have h3 := norm_last (b := 4294967296) HNN.out (m - 1) (by omega); have h4 := dx.get (by omega) (m - 1); omega)
    unfold bitsOf
    rw [h1]
    omega
  clear hm hm1 hbits hV
  obtain ⟨s, hs⟩ : ∃ s : Nat, n / 32 = s := ⟨(n / 32).toNat, by omega⟩
  obtain ⟨r, hrr⟩ : ∃ r : Nat, n % 32 = r := ⟨(n % 32).toNat, by omega⟩
  have hr32 : r < 32 := by omega
  have hs18 : s ≤ 262144 := by omega
  have EV : val 4294967296 xs * 2 ^ n.toNat = 4294967296 ^ s * val 4294967296 xs * 2 ^ r := by
    have e : n.toNat = 32 * s + r := by omega
    rw [e, Int.pow_add, Int.pow_mul, show (2 : Int) ^ 32 = 4294967296 from rfl]
    grind
  rw [EV]
  clear EV
  have hmm : ((m : Int) == 0) = false := by simp; omega
  generalize bitsOf (val 4294967296 xs) = bb at *
  have hnlt : ¬ 8388608 - bb < n := by omega
  have hmk := make_rule (P := Tryd.prog) 23 32 .u32 4 Tryd.underlying23 info_limb (by omega) (s + m + 1) (by omega) ((s : Int) + m + 1) (by omega)
  have b0 : Below w.heap.size w (w.alloc (.cells (nums .u32 (List.replicate (s + m + 1) 0)).toArray 32)) := (Below.refl _ _).alloc (Nat.le_refl _) _
  have r0 := rx.below b0 (Nat.le_refl _)
  have k0 := Blk.made w 32 .u32 (List.replicate (s + m + 1) 0) w.heap.size rfl
  have hnw : n < 0 ↔ False := by simp; omega
  go_enter Tryd.func35, Tryd.ntmps35
  go_wp2_with fail
  refine (hc.out).mono ?_
  rintro e w' ⟨rfl, rfl⟩
  go_wp2_with fail
  refine (hl.out).mono ?_
  rintro e w' ⟨rfl, rfl⟩
  go_wp2_with (refine copy_law w.heap.size rfl (.tmp 34) (.tmp 35) 23 23 rfl 32 Tryd.underlying23 size_limb (some ⟨w.heap.size, s, none⟩) ad (s + m + 1 - s) (s + m + 1 - s) m m rfl rfl w.heap.size s .u32 (List.replicate (s + m + 1) 0) xs k0 r0 (by omega) (fun _ => rfl) (by rw [List.length_replicate]; omega) b0 (Nat.le_refl _) ?_; intro w2 k2 b2)
  · have hr0 : 0 < r := by assumption
    have hzv : val 4294967296 (List.take s (List.replicate (s + m + 1) 0) ++ (xs ++ List.drop (s + m) (List.replicate (s + m + 1) 0))) = 4294967296 ^ s * val 4294967296 xs := by
      rw [val_append, val_append, List.take_replicate, List.drop_replicate, val_replicate, val_replicate, List.length_replicate, Nat.min_eq_left (by omega)]
      simp
    have hzd : Dig 4294967296 (List.take s (List.replicate (s + m + 1) 0) ++ (xs ++ List.drop (s + m) (List.replicate (s + m + 1) 0))) :=
      ((Dig.replicate _ (by omega) _).take _).append (dx.append ((Dig.replicate _ (by omega) _).drop _))
    have hzl : (List.take s (List.replicate (s + m + 1) 0) ++ (xs ++ List.drop (s + m) (List.replicate (s + m + 1) (0 : Int)))).length = s + m + 1 := by
      simp [HM.out]; omega
    have hzt : (List.take s (List.replicate (s + m + 1) 0) ++ (xs ++ List.drop (s + m) (List.replicate (s + m + 1) (0 : Int))))[s + m]?.getD 0 = 0 := by
      rw [List.getElem?_append_right (by simp; omega), List.getElem?_append_right (by simp [HM.out]; omega)]
      rw [List.drop_replicate]
      exact getD_replicate _ _
    have HZV := Lib.hid hzv
    have HZL := Lib.hid hzl
    have HZT := Lib.hid hzt
    clear hzv hzl hzt hc hl hmk k0 r0 b0 rx hnw
    generalize List.take s (List.replicate (s + m + 1) 0) ++ (xs ++ List.drop (s + m) (List.replicate (s + m + 1) 0)) = zs at *
    rw [hrr]
    have hI : ShlR w zs (2 ^ r) (s + m + 1) w2 := ⟨zs, k2, rfl, hzd, b2, fun _ _ => rfl, by
      rw [List.drop_of_length_le (by rw [HZL.out]; exact Nat.le_refl _)]
      unfold carryUp
      rw [if_neg (by omega), Nat.add_sub_cancel, HZT.out]
      simp [val]⟩
    clear k2 b2 hs hrr
    go_loopw [43] (fun i wr => ∃ k : Nat, k ≤ s + m + 1 ∧ i = .int .i64 k ∧ ShlR w zs (2 ^ r) (s + m + 1 - k) wr) (fun i _ => s + m + 1 - (intOf i).toNat)
    case atStart => exact ⟨0, Nat.zero_le _, rfl, hI⟩
    case round =>
      clear hI
      obtain ⟨k, hk, rfl, ys, h1, h2, h3, h4, h5, h6⟩ := hrel
      have H2 := Lib.hid h2
      have H5 := Lib.hid h5
      have H6 := Lib.hid h6
      clear h2 h5 h6
      by_cases hkL : k < s + m + 1
      · obtain ⟨j, hj⟩ : ∃ j, j = s + m - k := ⟨_, rfl⟩
        have HJ := Lib.hid hj
        have hjL : j < s + m + 1 := by omega
        have hcj := h1.cell j (by rw [H2.out, HZL.out]; omega)
        rw [H5.out j (by omega)] at hcj
        have hfj := h1.free j
        have bx := hzd.get (by omega) j
        have ST := Lib.hid (shl_step 4294967296 (2 ^ r) (by omega) zs ys j (by rw [HZL.out]; omega) (by rw [H2.out, HZL.out]; omega) (by rw [show j + 1 = s + m + 1 - k by omega]; exact H6.out))
        have hj1 : (s : Int) + m + 1 - 1 - k = j := by omega
        have hj2 : (s : Int) + m - k = j := by omega
        have hmin : min r 32 = r := by omega
        have hkI : (k : Int) < (s : Int) + m + 1 := by omega
        clear H6 hj
        by_cases hj0 : 0 < j
        · have hcj1 := h1.cell (j - 1) (by rw [H2.out, HZL.out]; omega)
          rw [H5.out (j - 1) (by have := HJ.out; omega)] at hcj1
          have by1 := hzd.get (by omega) (j - 1)
          have hcar : carryUp 4294967296 (2 ^ r) zs j = zs[j - 1]?.getD 0 * 2 ^ r / 4294967296 := by unfold carryUp; rw [if_neg (by omega)]
          rw [hcar] at ST
          obtain ⟨om1, om2, om3, om4, om5, om6⟩ := or_move (zs[j]?.getD 0) (zs[j - 1]?.getD 0) r bx by1 hr0 hr32
          have OM := Lib.hid om1
          have hcarE := Lib.hid hcar
          clear hcar om1
          generalize zs[j]?.getD 0 = x at *
          have h1' := h1.set j (x * 2 ^ r % 4294967296)
          have d1' := h3.set om2 (show x * 2 ^ r % 4294967296 < 4294967296 by omega) j
          have b1' := below_set h4 w.heap.size j (.int .u32 (x * 2 ^ r % 4294967296)) (Nat.le_refl _)
          have c1' := h1'.cell j (by rw [List.length_set, H2.out, HZL.out]; omega)
          rw [List.getElem?_set_self (by rw [H2.out, HZL.out]; omega)] at c1'
          simp only [Option.getD_some] at c1'
          have c2' := h1'.cell (j - 1) (by rw [List.length_set, H2.out, HZL.out]; omega)
          rw [List.getElem?_set_ne (by omega), H5.out (j - 1) (by have := HJ.out; omega)] at c2'
          have f1' := h1'.free j
          generalize zs[j - 1]?.getD 0 = y at *
          have K1 := h1'.set j (x * 2 ^ r % 4294967296 + y * 2 ^ r / 4294967296)
          rw [List.set_set] at K1
          have HL2 := Lib.hid (show ((ys.set j (x * 2 ^ r % 4294967296 + y * 2 ^ r / 4294967296)).length = zs.length) by rw [List.length_set, H2.out])
          have d2 := h3.set (show 0 ≤ x * 2 ^ r % 4294967296 + y * 2 ^ r / 4294967296 by omega) om3 j
          have b2 := below_set b1' w.heap.size j (.int .u32 (x * 2 ^ r % 4294967296 + y * 2 ^ r / 4294967296)) (Nat.le_refl _)
          go_wp2
          clear hfj hcj hcj1
          generalize wr.setCell ⟨w.heap.size, j, none⟩ (.int .u32 (x * 2 ^ r % 4294967296)) = w3 at *
          have W1 : IntKind.i64.wrap ((j : Int) - 1) = (j : Int) - 1 := IntWalk.i64_in _ (by omega)
          have W2 : IntKind.i64.wrap (32 - (r : Int)) = 32 - (r : Int) := IntWalk.i64_in _ (by omega)
          have W3 : ((j : Int) - 1).toNat = j - 1 := by omega
          have W4 : (0 : Int) ≤ (j : Int) - 1 := by omega
          have W5 : (32 - (r : Int)).toNat = 32 - r := by omega
          have W6 : (0 : Int) ≤ 32 - (r : Int) := by omega
          have W7 : min (32 - r) 32 = 32 - r := by omega
          have W8 : (j : Int) - 1 < (s : Int) + m + 1 := by omega
          have W9 := OM.out
          go_region
          clear W1 W2 W3 W4 W5 W6 W7 W8 W9
          go_wp2
          go_roundw
          case rel =>
            refine ⟨k + 1, by omega, by go_num, _, K1.drew, HL2.out, d2, below_drew b2, fun q hq => ?_, ?_⟩
            · rw [List.getElem?_set_ne (by have := HJ.out; omega)]
              exact H5.out q (by omega)
            · rw [show s + m + 1 - (k + 1) = j by have := HJ.out; omega, hcarE.out]
              exact ST.out
          case measure => simp [intOf]; omega
        · obtain rfl : j = 0 := by omega
          have hcar : carryUp 4294967296 (2 ^ r) zs 0 = 0 := by unfold carryUp; rw [if_pos rfl]
          rw [hcar, Int.add_zero, Int.add_zero] at ST
          have hp0 : (0 : Int) ≤ zs[0]?.getD 0 * 2 ^ r % 4294967296 := Int.emod_nonneg _ (by omega)
          have hp1 : zs[0]?.getD 0 * 2 ^ r % 4294967296 < 4294967296 := Int.emod_lt_of_pos _ (by omega)
          generalize zs[0]?.getD 0 = x at *
          have K1 := h1.set 0 (x * 2 ^ r % 4294967296)
          have d1' := h3.set hp0 hp1 0
          have b1' := below_set h4 w.heap.size 0 (.int .u32 (x * 2 ^ r % 4294967296)) (Nat.le_refl _)
          have HL2 := Lib.hid (show ((ys.set 0 (x * 2 ^ r % 4294967296)).length = zs.length) by rw [List.length_set, H2.out])
          go_wp2
          go_roundw
          case rel =>
            refine ⟨k + 1, by omega, by go_num, _, K1, HL2.out, d1', b1', fun q hq => ?_, ?_⟩
            · have := HJ.out
              omega
            · rw [show s + m + 1 - (k + 1) = 0 by have := HJ.out; omega, hcar, Int.add_zero]
              exact ST.out
          case measure => simp [intOf]; omega
      · obtain rfl : k = s + m + 1 := by omega
        have hkI : ¬ ((s + m + 1 : Nat) : Int) < (s : Int) + m + 1 := by omega
        have HV := Lib.hid (show val 4294967296 ys = 4294967296 ^ s * val 4294967296 xs * 2 ^ r by
          have := H6.out
          rw [Nat.sub_self, List.drop_zero, List.drop_zero, HZV.out] at this
          rw [this]
          unfold carryUp
          rw [if_pos rfl, Int.mul_comm, Int.add_zero])
        have hcut := Lib.hid (cut_calls (some ⟨w.heap.size, 0, none⟩) (s + m + 1) (s + m + 1) _ wr (by omega) (Nat.le_refl _) (by have := h1.rds; rwa [H2.out, HZL.out] at this))
        have R := h1.ret (Nat.le_refl _) (by rw [H2.out, HZL.out]; omega) h3 _ HV.out h4
        obtain ⟨rd, rn, rc, re, ro, rb⟩ := R
        have RE := Lib.hid re
        clear re
        go_wp2_with fail
        refine (hcut.out).mono ?_
        rintro e w' ⟨rfl, rfl⟩
        go_wp2_with fail
        go_ret2
        have re := RE.out
        injection re with re
        injection re with e1 e2 e3
        refine ⟨rd, rn, rc, ?_, ro, rb⟩
        rw [← e1, ← e2, ← e3]
        rfl
  · obtain rfl : r = 0 := by have h : ¬ 0 < r := by assumption
                             omega
    have hzl : (List.take s (List.replicate (s + m + 1) 0) ++ (xs ++ List.drop (s + m) (List.replicate (s + m + 1) (0 : Int)))).length = s + m + 1 := by
      simp [HM.out]; omega
    have hzd : Dig 4294967296 (List.take s (List.replicate (s + m + 1) 0) ++ (xs ++ List.drop (s + m) (List.replicate (s + m + 1) 0))) :=
      ((Dig.replicate _ (by omega) _).take _).append (dx.append ((Dig.replicate _ (by omega) _).drop _))
    have hzv : val 4294967296 (List.take s (List.replicate (s + m + 1) 0) ++ (xs ++ List.drop (s + m) (List.replicate (s + m + 1) 0))) = 4294967296 ^ s * val 4294967296 xs * 2 ^ 0 := by
      rw [val_append, val_append, List.take_replicate, List.drop_replicate, val_replicate, val_replicate, List.length_replicate, Nat.min_eq_left (by omega)]
      simp
    generalize List.take s (List.replicate (s + m + 1) 0) ++ (xs ++ List.drop (s + m) (List.replicate (s + m + 1) 0)) = zs at *
    have hcut := Lib.hid (cut_calls (some ⟨w.heap.size, 0, none⟩) (s + m + 1) (s + m + 1) _ w2 (by omega) (Nat.le_refl _) (by have := k2.rds; rwa [hzl] at this))
    have R := k2.ret (Nat.le_refl _) (by rw [hzl]; omega) hzd _ hzv b2
    obtain ⟨rd, rn, rc, re, ro, rb⟩ := R
    have RE := Lib.hid re
    clear re hzv hzl
    refine (hcut.out).mono ?_
    rintro e w' ⟨rfl, rfl⟩
    go_wp2_with fail
    go_ret2
    have re := RE.out
    injection re with re
    injection re with e1 e2 e3
    refine ⟨rd, rn, rc, ?_, ro, rb⟩
    rw [← e1, ← e2, ← e3]
    rfl

/-- nat.Shl at any number. -/
theorem shl_calls (ad : Option Addr) (nn c : Nat) (la : List Int) (n : Int) (w : World) (hn : nn ≤ 70368744177664) (hnc : nn ≤ c) (hr : Rds w .u32 ad nn la) (da : Dig 4294967296 la) (hnb : -9223372036854775808 ≤ n ∧ n < 9223372036854775808) :
    Calls Tryd.prog 35 #[.slice ad nn c, .int .i64 n] w (RetLB 32 .u32 (dg 4294967296 (shlNum (val 4294967296 la) n)) (shlOk (val 4294967296 la) n) w) := by
  obtain ⟨hn1, hn2⟩ := hnb
  by_cases hok : shlOk (val 4294967296 la) n = true
  · have h := of_decide_eq_true hok
    by_cases hV : val 4294967296 la = 0
    · have HN := Lib.hid (show shlNum (val 4294967296 la) n = 0 by unfold shlNum; rw [if_pos hok, hV, Int.zero_mul])
      have HO := Lib.hid hok
      have hl : (norm la).length = 0 := by
        have e := norm_eq 4294967296 (by omega) da
        rw [e, show ((4294967296 : Nat) : Int) = 4294967296 from rfl, hV, dg_zero]
        rfl
      have hc := cut_calls ad nn c la w (by omega) hnc hr
      rw [hl] at hc
      have HC := Lib.hid hc
      have h0 := h.1
      have hnw : ¬ n < 0 := by omega
      clear hok h hV hl hc
      go_enter Tryd.func35, Tryd.ntmps35
      go_wp2_with fail
      refine (HC.out).mono ?_
      rintro e w' ⟨rfl, rfl⟩
      go_wp2
      go_ret2
      rw [HN.out, HO.out, dg_zero]
      exact ⟨none, 0, 0, rfl, Own.nil _ _ _ _ _, Below.refl _ _⟩
    · have hlim : n ≤ 8388608 - bitsOf (val 4294967296 la) := by
        rcases h.2 with h2 | h2
        · exact absurd h2 hV
        · exact h2
      have := shl_good ad nn c la n w hn hnc hr da h.1 hV hlim
      unfold shlNum
      rw [if_pos hok, hok]
      exact this
  · have hok' : shlOk (val 4294967296 la) n = false := by simpa using hok
    have HN := Lib.hid (show shlNum (val 4294967296 la) n = 0 by unfold shlNum; rw [if_neg hok])
    have HO := Lib.hid hok'
    have h := of_decide_eq_false hok'
    have HC := Lib.hid (cut_calls ad nn c la w (by omega) hnc hr)
    by_cases h0 : n < 0
    · clear hok hok' h
      go_enter Tryd.func35, Tryd.ntmps35
      go_wp2_with fail
      refine (HC.out).mono ?_
      rintro e w' ⟨rfl, rfl⟩
      go_wp2
      go_ret2
      rw [HN.out, HO.out, dg_zero]
      exact ⟨none, 0, 0, rfl, Own.nil _ _ _ _ _, Below.refl _ _⟩
    · have hV : val 4294967296 la ≠ 0 := fun e => h ⟨by omega, .inl e⟩
      have hlim : 8388608 - bitsOf (val 4294967296 la) < n := by
        apply Classical.byContradiction
        intro h1
        unfold bitsOf at h1
        exact h ⟨by omega, .inr (by omega)⟩
      have rx := hr.norm
      have dx := norm_dig da
      have hma := norm_length_le la
      rw [hr.len] at hma
      have hpos : 0 < (norm la).length := by
        rcases Nat.eq_zero_or_pos (norm la).length with e | e
        · exfalso
          have e2 := val_norm 4294967296 la
          rw [List.eq_nil_of_length_eq_zero e] at e2
          exact hV e2.symm
        · exact e
      have hl := nlen_calls ad (norm la).length (norm la).length (norm la) w (by omega) (Nat.le_refl _) rx dx
      rw [val_norm] at hl
      have HL := Lib.hid hl
      have hb0 : 0 ≤ bitsOf (val 4294967296 la) := by unfold bitsOf; omega
      have hb1 : bitsOf (val 4294967296 la) ≤ 9223372036854775807 := by
        have h1 := blen_list 32 4294967296 (by decide) (norm la) dx (norm_norm la) ((norm la).length - 1) (by omega)
        rw [val_norm] at h1
        have h2 := dx.get (by omega) ((norm la).length - 1)
        have h3 := bitLen_blen ((norm la)[(norm la).length - 1]?.getD 0).toNat (by omega)
        have h4 := Lib.bitLen_le ((norm la)[(norm la).length - 1]?.getD 0).toNat 32 (by omega) (by omega)
        unfold bitsOf
        omega
      clear hl hr hok hok' h hV dx rx
      generalize bitsOf (val 4294967296 la) = bb at *
      obtain ⟨m, hm⟩ : ∃ m, (norm la).length = m := ⟨_, rfl⟩
      rw [hm] at HC HL hpos
      clear hm
      have hmm : ((m : Int) == 0) = false := by simp; omega
      go_enter Tryd.func35, Tryd.ntmps35
      go_wp2_with fail
      refine (HC.out).mono ?_
      rintro e w' ⟨rfl, rfl⟩
      go_wp2_with fail
      refine (HL.out).mono ?_
      rintro e w' ⟨rfl, rfl⟩
      go_wp2
      go_ret2
      rw [HN.out, HO.out, dg_zero]
      exact ⟨none, 0, 0, rfl, Own.nil _ _ _ _ _, Below.refl _ _⟩
end Go.Proofs.YtgnophflogmmaaaDoor
