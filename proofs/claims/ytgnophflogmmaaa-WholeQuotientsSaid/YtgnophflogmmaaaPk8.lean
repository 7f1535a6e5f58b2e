/- Contracts of functions, and plain facts, part 8. -/
import Derived.Test.YtgnophflogmmaaaProg
import Derived.BigRegion
import Derived.Test.YtgnophflogmmaaaPk2
import Derived.Test.YtgnophflogmmaaaPk5
import Derived.Test.YtgnophflogmmaaaPk7
set_option linter.unusedVariables false
set_option linter.unusedSimpArgs false
/- quot.back: a number is put upon a row again. -/
namespace Go.Proofs.Ytgnophflogmmaaa
open Go.RowKit

/-- The row with ys put on it; what comes up at its end is lost. -/
def BackR (w : World) (bl : Nat) (t : TypeId) (Z : List Int) (j n : Nat) (ys : List Int) (e : Ending) (w' : World) : Prop :=
  ∃ X o, e = .returned (.tuple #[]) ∧ RowAt w' bl t .u32 (putAt Z j X) ∧ X.length = n + 1 ∧ Dig 4294967296 X ∧ Only bl w w' ∧
    val 4294967296 X + o * 4294967296 ^ (n + 1) = val 4294967296 ((Z.drop j).take (n + 1)) + val 4294967296 ys

theorem back_calls (bl j n c cy : Nat) (t : TypeId) (Z ys : List Int) (yd : Option Addr) (w : World) (hlen : j + (n + 1) ≤ Z.length) (hbig : n < 70368744177664) (hc : n + 1 ≤ c) (hcy : n ≤ cy)
    (hx : RowAt w bl t .u32 Z) (hy : Rds w .u32 yd n ys) (hne : ∀ a, yd = some a → a.block ≠ bl) (dz : Dig 4294967296 Z) (dy : Dig 4294967296 ys) :
    Calls Try.prog 103 #[.slice (some ⟨bl, j, none⟩) (n + 1) c, .slice yd n cy] w (BackR w bl t Z j n ys) := by
  have HY := Lib.hid hy.len
  obtain ⟨a, ha⟩ : ∃ a : Addr, (⟨bl, j, none⟩ : Addr) = a := ⟨_, rfl⟩
  have haj : ∀ k, a.add k = ⟨bl, j + k, none⟩ := fun k => by rw [← ha]; unfold Addr.add; split <;> simp_all
  have HA := Lib.hid haj
  rw [ha]
  have HX := Lib.hid (show ((Z.drop j).take (n + 1)).length = n + 1 by rw [List.length_take, List.length_drop]; omega)
  have dxx := (dz.drop j).take (n + 1)
  have HL := Lib.hid hlen
  have hI : ∃ X, RowAt w bl t .u32 (putAt Z j X) ∧ X.length = n + 1 ∧ Dig 4294967296 X ∧ Only bl w w ∧ (0 : Int) ≤ 0 ∧ (0 : Int) ≤ 1 ∧ (∀ q, 0 ≤ q → X[q]?.getD 0 = ((Z.drop j).take (n + 1))[q]?.getD 0) ∧
    val 4294967296 (X.take 0) + 0 * 4294967296 ^ 0 = val 4294967296 (((Z.drop j).take (n + 1)).take 0) + val 4294967296 (ys.take 0) :=
    ⟨(Z.drop j).take (n + 1), by rw [putAt_self Z j (n + 1) hlen]; exact hx, HX.out, dxx, Only.refl _ _, by omega, by omega, fun _ _ => rfl, by simp [val]⟩
  clear ha haj hlen hx
  unfold BackR
  generalize hxs : (Z.drop j).take (n + 1) = xs at *
  clear hxs
  go_enter Try.func103, Try.ntmps103
  go_wp2
  go_loopw [10, 4] (fun i cy wr => ∃ k : Nat, ∃ c : Int, k ≤ n ∧ i = .int .i64 k ∧ cy = .int .u64 c ∧
    ∃ X, RowAt wr bl t .u32 (putAt Z j X) ∧ X.length = n + 1 ∧ Dig 4294967296 X ∧ Only bl w wr ∧ 0 ≤ c ∧ c ≤ 1 ∧ (∀ q, k ≤ q → X[q]?.getD 0 = xs[q]?.getD 0) ∧
    val 4294967296 (X.take k) + c * 4294967296 ^ k = val 4294967296 (xs.take k) + val 4294967296 (ys.take k)) (fun i _ _ => n - (intOf i).toNat)
  case atStart => exact ⟨0, 0, Nat.zero_le _, rfl, rfl, hI⟩
  case round =>
    clear hI
    obtain ⟨k, c, hk, rfl, rfl, X, h1, h2, h3, h4, hc0, hc1, h5, h6⟩ := hrel
    have H2 := Lib.hid h2
    have H5 := Lib.hid h5
    have H6 := Lib.hid h6
    clear h2 h5 h6
    have hcell : ∀ q, q < n + 1 → wr.cell? (a.add q) = some (.int .u32 (X[q]?.getD 0)) := fun q hq => by
      rw [HA.out q, h1.cell (j + q) (by rw [putAt_length _ _ _ (by rw [H2.out]; exact HL.out)]; have := HL.out; omega), putAt_get _ _ _ (by have := HL.out; omega) _ (by rw [H2.out]; exact hq)]
    have hfree : ∀ q, wr.frozen? (a.add q) = false := fun q => by rw [HA.out q]; exact h1.free _
    have hset : ∀ q v, q < n + 1 → RowAt (wr.setCell (a.add q) (.int .u32 v)) bl t .u32 (putAt Z j (X.set q v)) := fun q v hq => by
      rw [HA.out q, ← putAt_set Z j X (by have := HL.out; omega) q (by rw [H2.out]; exact hq)]
      exact h1.set _ _
    have hon : ∀ q v, Only bl w (wr.setCell (a.add q) v) := fun q v => by rw [HA.out q]; exact h4.set _ _
    by_cases hkn : k < n
    · have hcx := hcell k (by omega)
      rw [H5.out k (Nat.le_refl _)] at hcx
      have hf := hfree k
      obtain ⟨b, rfl, hyl⟩ := (hy.only h4 hne).cell k hkn
      have bx := dxx.get (by omega) k
      have bz := dy.get (by omega) k
      have ST := Lib.hid (back_step 4294967296 xs X ys k (by rw [H2.out]; omega) c _ rfl H6.out)
      clear H6
      generalize xs[k]?.getD 0 = x at *
      generalize ys[k]?.getD 0 = y at *
      have K1 := hset k ((x + y + c) % 4294967296) (by omega)
      have O1 := hon k (.int .u32 ((x + y + c) % 4294967296))
      have D1 := h3.set (show 0 ≤ (x + y + c) % 4294967296 by omega) (show (x + y + c) % 4294967296 < 4294967296 by omega) k
      clear hcell hset hon hfree
      go_wp2
      go_roundw
      case rel =>
        refine ⟨k + 1, _, by omega, by go_num, rfl, _, K1, by rw [List.length_set, H2.out], D1, O1, by omega, by omega, fun q hq => ?_, ST.out⟩
        rw [List.getElem?_set_ne (by omega)]
        exact H5.out q (by omega)
      case measure => simp [intOf]; omega
    · obtain rfl : k = n := by omega
      have hcx := hcell k (by omega)
      rw [H5.out k (Nat.le_refl _)] at hcx
      have hf := hfree k
      have bx := dxx.get (by omega) k
      have ST := Lib.hid (back_end 4294967296 xs X ys k HX.out H2.out HY.out c _ rfl H6.out)
      generalize xs[k]?.getD 0 = x at *
      have K1 := hset k ((x + c) % 4294967296) (by omega)
      have O1 := hon k (.int .u32 ((x + c) % 4294967296))
      have D1 := h3.set (show 0 ≤ (x + c) % 4294967296 by omega) (show (x + c) % 4294967296 < 4294967296 by omega) k
      clear hcell hset hon hfree
      go_wp2
      go_end0
      exact ⟨_, _, rfl, K1, by rw [List.length_set, H2.out], D1, O1, ST.out⟩
end Go.Proofs.Ytgnophflogmmaaa

/- Long division: what holds between two digits. -/
namespace Go.Proofs.Ytgnophflogmmaaa

/-- The digits from place j on are found: q holds them, X what is left. -/
structure LongI (B V Y : Int) (n L : Nat) (X q : List Int) (j : Nat) : Prop where
  lx : X.length = L
  lq : q.length = L - n
  dx : Dig B X
  dq : Dig B q
  sum : val B X + val B q * Y = V
  lt : val B (X.drop j) < Y
  zero : ∀ i, i < j → q[i]?.getD 0 = 0

variable {B V Y : Int} {n L j : Nat} {X q ys : List Int}

theorem val_take3 (B : Int) (W : List Int) (n : Nat) (hn : 2 ≤ n) (hW : W.length = n + 1) :
    val B W = ((W[n]?.getD 0 * B + W[n - 1]?.getD 0) * B + W[n - 2]?.getD 0) * B ^ (n - 2) + val B (W.take (n - 2)) := by
  have h1 := val_take_succ' B W n
  rw [List.take_of_length_le (by omega)] at h1
  have h2 := val_take_succ' B W (n - 1)
  have h3 := val_take_succ' B W (n - 2)
  rw [show n - 1 + 1 = n by omega] at h2
  rw [show n - 2 + 1 = n - 1 by omega] at h3
  have p1 : B ^ (n - 1) = B ^ (n - 2) * B := by rw [← Int.pow_succ]; congr 1; omega
  have p2 : B ^ n = B ^ (n - 2) * B * B := by rw [← p1, ← Int.pow_succ]; congr 1; omega
  rw [h1, h2, h3, p1, p2]
  generalize B ^ (n - 2) = P
  generalize val B (W.take (n - 2)) = T
  grind

theorem val_take2 (B : Int) (W : List Int) (n : Nat) (hn : 2 ≤ n) (hW : W.length = n) :
    val B W = (W[n - 1]?.getD 0 * B + W[n - 2]?.getD 0) * B ^ (n - 2) + val B (W.take (n - 2)) := by
  have h2 := val_take_succ' B W (n - 1)
  have h3 := val_take_succ' B W (n - 2)
  rw [show n - 1 + 1 = n by omega, List.take_of_length_le (by omega)] at h2
  rw [show n - 2 + 1 = n - 1 by omega] at h3
  have p1 : B ^ (n - 1) = B ^ (n - 2) * B := by rw [← Int.pow_succ]; congr 1; omega
  rw [h2, h3, p1]
  generalize B ^ (n - 2) = P
  generalize val B (W.take (n - 2)) = T
  grind

/-- The window's worth: all that stands from place j on, below B times the divisor; nothing above it. -/
theorem LongI.window (h : LongI B V Y n L X q (j + 1)) (hB : 2 ≤ B) (hj : j + n + 1 ≤ L) (hY : Y < B ^ n) :
    val B (X.drop j) = val B ((X.drop j).take (n + 1)) ∧ val B (X.drop (j + n + 1)) = 0 ∧ val B ((X.drop j).take (n + 1)) < B * Y ∧ 0 ≤ val B ((X.drop j).take (n + 1)) := by
  have lx := h.lx
  have e1 := val_drop B X j (by omega)
  have e2 := val_split B (X.drop j) (n + 1) (by rw [List.length_drop]; omega)
  rw [List.drop_drop, ← Nat.add_assoc] at e2
  have d1 := h.dx.get (by omega) j
  have z1 := val_nonneg (by omega) ((h.dx.drop j).take (n + 1))
  have z2 := val_nonneg (by omega) (h.dx.drop (j + n + 1))
  have hl := h.lt
  have k1 : val B (X.drop j) < B * Y := by
    have : B * (val B (X.drop (j + 1)) + 1) ≤ B * Y := Int.mul_le_mul_of_nonneg_left (by omega) (by omega)
    rw [Int.mul_add, Int.mul_one] at this
    omega
  have k2 : B * Y < B ^ (n + 1) := by
    rw [Int.pow_succ, Int.mul_comm]
    exact Int.mul_lt_mul_of_pos_right hY (by omega)
  have hp : 0 < B ^ (n + 1) := Int.pow_pos (by omega)
  have k3 : val B (X.drop (j + n + 1)) = 0 := by
    rcases Int.lt_or_eq_of_le z2 with h1 | h1
    · exfalso
      have : B ^ (n + 1) * 1 ≤ B ^ (n + 1) * val B (X.drop (j + n + 1)) := Int.mul_le_mul_of_nonneg_left (by omega) (by omega)
      omega
    · exact h1.symm
  rw [k3, Int.mul_zero, Int.add_zero] at e2
  exact ⟨e2, k3, by omega, z1⟩

theorem LongI.win (h : LongI B V Y n L X q (j + 1)) (hB : 2 ≤ B) (hn : 2 ≤ n) (hj : j + n + 1 ≤ L) (ly : ys.length = n) (dy : Dig B ys) (eY : val B ys = Y) (hh : B ≤ 2 * ys[n - 1]?.getD 0) :
    Win B (B ^ (n - 2)) (ys[n - 1]?.getD 0) (ys[n - 2]?.getD 0) (val B (ys.take (n - 2))) (X[j + n]?.getD 0) (X[j + n - 1]?.getD 0) (X[j + n - 2]?.getD 0) (val B (((X.drop j).take (n + 1)).take (n - 2))) Y (val B ((X.drop j).take (n + 1))) := by
  have lx := h.lx
  have hY : Y < B ^ n := by rw [← eY, ← ly]; exact val_lt (by omega) dy
  obtain ⟨w1, w2, w3, w4⟩ := h.window hB hj hY
  have g1 : ((X.drop j).take (n + 1))[n]?.getD 0 = X[j + n]?.getD 0 := by rw [List.getElem?_take_of_lt (by omega), List.getElem?_drop]
  have g2 : ((X.drop j).take (n + 1))[n - 1]?.getD 0 = X[j + n - 1]?.getD 0 := by rw [List.getElem?_take_of_lt (by omega), List.getElem?_drop, show j + (n - 1) = j + n - 1 by omega]
  have g3 : ((X.drop j).take (n + 1))[n - 2]?.getD 0 = X[j + n - 2]?.getD 0 := by rw [List.getElem?_take_of_lt (by omega), List.getElem?_drop, show j + (n - 2) = j + n - 2 by omega]
  have e := val_take3 B ((X.drop j).take (n + 1)) n hn (by rw [List.length_take, List.length_drop]; omega)
  rw [g1, g2, g3] at e
  have dw := (h.dx.drop j).take (n + 1)
  have l1 := val_lt (show 0 < B by omega) (dw.take (n - 2))
  have l2 := val_lt (show 0 < B by omega) (dy.take (n - 2))
  rw [show (((X.drop j).take (n + 1)).take (n - 2)).length = n - 2 by simp; omega] at l1
  rw [show (ys.take (n - 2)).length = n - 2 by simp; omega] at l2
  exact ⟨hB, Int.pow_pos (by omega), ⟨hh, (dy.get (by omega) _).2⟩, dy.get (by omega) _, ⟨val_nonneg (by omega) (dy.take _), l2⟩, h.dx.get (by omega) _, h.dx.get (by omega) _, h.dx.get (by omega) _,
    ⟨val_nonneg (by omega) (dw.take _), l1⟩, by rw [← eY]; exact val_take2 B ys n hn ly, e, w3⟩

/-- A digit is found. -/
theorem LongI.step (h : LongI B V Y n L X q (j + 1)) (hB : 2 ≤ B) (hj : j + n + 1 ≤ L) (hY : 0 < Y ∧ Y < B ^ n) (g : Int) (hg : g = val B ((X.drop j).take (n + 1)) / Y) (hgb : 0 ≤ g ∧ g < B) (X1 : List Int) (l1 : X1.length = n + 1) (d1 : Dig B X1)
    (v1 : val B X1 = val B ((X.drop j).take (n + 1)) % Y) : LongI B V Y n L (putAt X j X1) (q.set j g) j := by
  have lx := h.lx
  have lq := h.lq
  obtain ⟨w1, w2, w3, w4⟩ := h.window hB hj hY.2
  have hm := Int.emod_add_mul_ediv (val B ((X.drop j).take (n + 1))) Y
  have hr := Int.emod_lt_of_pos (val B ((X.drop j).take (n + 1))) hY.1
  refine ⟨by rw [putAt_length _ _ _ (by omega)]; exact lx, by rw [List.length_set]; exact lq, putAt_dig h.dx d1 j, h.dq.set hgb.1 hgb.2 j, ?_, ?_, fun i hi => ?_⟩
  · rw [putAt_val B X j (n + 1) X1 l1 (by omega), val_set B q j g (by omega), h.zero j (by omega), v1]
    have hs := h.sum
    rw [← hg] at hm
    generalize val B ((X.drop j).take (n + 1)) = W at *
    generalize W % Y = r at *
    generalize val B X = A at *
    generalize val B q = Q at *
    generalize B ^ j = P at *
    subst hs
    have : W = r + Y * g := hm.symm
    subst this
    grind
  · have e : (putAt X j X1).drop j = X1 ++ X.drop (j + X1.length) := by
      unfold putAt
      rw [List.drop_append_of_le_length (by rw [List.length_take]; omega), List.drop_of_length_le (by rw [List.length_take]; omega), List.nil_append]
    rw [e, val_append, l1, ← Nat.add_assoc, w2, Int.mul_zero, Int.add_zero, v1]
    exact hr
  · rw [List.getElem?_set_ne (by omega)]
    exact h.zero i (by omega)

theorem LongI.skip (h : LongI B V Y n L X q (j + 1)) (hB : 2 ≤ B) (hj : j + n + 1 ≤ L) (hY : 0 < Y ∧ Y < B ^ n) (hg : val B ((X.drop j).take (n + 1)) / Y ≤ 0) : LongI B V Y n L X q j := by
  obtain ⟨w1, w2, w3, w4⟩ := h.window hB hj hY.2
  have hm := Int.emod_add_mul_ediv (val B ((X.drop j).take (n + 1))) Y
  have hr := Int.emod_lt_of_pos (val B ((X.drop j).take (n + 1))) hY.1
  have h0 : 0 ≤ val B ((X.drop j).take (n + 1)) / Y := Int.ediv_nonneg w4 (by omega)
  have e : val B ((X.drop j).take (n + 1)) / Y = 0 := by omega
  rw [e, Int.mul_zero, Int.add_zero] at hm
  refine ⟨h.lx, h.lq, h.dx, h.dq, h.sum, by omega, fun i hi => h.zero i (by omega)⟩

theorem LongI.done (h : LongI B V Y n L X q 0) (hB : 2 ≤ B) (hY : 0 < Y) : val B q = V / Y ∧ val B X = V % Y := by
  have h1 := h.sum
  have h2 := h.lt
  rw [List.drop_zero] at h2
  have h3 := val_nonneg (show 0 < B by omega) h.dx
  have e1 : V / Y = val B q := by
    rw [← h1, Int.add_mul_ediv_right _ _ (by omega), Int.ediv_eq_zero_of_lt h3 h2, Int.zero_add]
  have e2 : V % Y = val B X := by
    rw [← h1, Int.add_mul_emod_self_right, Int.emod_eq_of_lt h3 h2]
  exact ⟨e1.symm, e2.symm⟩

theorem LongI.start (hB : 2 ≤ B) (hn : n < L) (lx : X.length = L) (dx : Dig B X) (hV : val B X = V) (hlt : val B (X.drop (L - n)) < Y) : LongI B V Y n L X (List.replicate (L - n) 0) (L - n) :=
  ⟨lx, by simp, dx, Dig.replicate _ (by omega) _, by rw [val_replicate, Int.zero_mul, Int.add_zero]; exact hV, hlt, fun i hi => by simp [List.getElem?_replicate]; split <;> rfl⟩
end Go.Proofs.Ytgnophflogmmaaa

/- slices.Reverse of bytes. -/
namespace Go.Proofs.Ytgnophflogmmaaa
open Go.RowKit

/-- The first k and the last k have changed places. -/
def RevI (xs X : List Int) (n k : Nat) : Prop := X.length = n ∧ ∀ j, j < n → X[j]?.getD 0 = if j < k ∨ n - 1 - j < k then xs[n - 1 - j]?.getD 0 else xs[j]?.getD 0

theorem rev_step (xs X : List Int) (n k m : Nat) (h : RevI xs X n k) (hkm : k < m) (hn : k + m + 1 = n) :
    RevI xs ((X.set k (X[m]?.getD 0)).set m (X[k]?.getD 0)) n (k + 1) := by
  obtain ⟨h1, h2⟩ := h
  refine ⟨by simpa using h1, fun j hj => ?_⟩
  rw [List.getElem?_set, List.length_set]
  by_cases e1 : m = j
  · subst e1
    rw [if_pos rfl, if_pos (by omega), Option.getD_some, h2 k (by omega), if_neg (by omega), if_pos (by omega)]
    congr 2
    omega
  · rw [if_neg e1, List.getElem?_set]
    by_cases e2 : k = j
    · subst e2
      rw [if_pos rfl, if_pos (by omega), Option.getD_some, h2 m (by omega), if_neg (by omega), if_pos (by omega)]
      congr 2
      omega
    · rw [if_neg e2, h2 j hj]
      by_cases e3 : j < k ∨ n - 1 - j < k
      · rw [if_pos e3, if_pos (by omega)]
      · rw [if_neg e3, if_neg (by omega)]
theorem rev_start (xs : List Int) (n : Nat) (h : xs.length = n) : RevI xs xs n 0 := ⟨h, fun j hj => by rw [if_neg (by omega)]⟩
theorem rev_end (xs X : List Int) (n k m : Nat) (hx : xs.length = n) (h : RevI xs X n k) (hkm : ¬ k < m) (hn : k + m + 1 = n) : X = xs.reverse := by
  obtain ⟨h1, h2⟩ := h
  refine List.ext_getElem? fun j => ?_
  by_cases hj : j < n
  · have e := h2 j hj
    rw [List.getElem?_eq_getElem (by omega), Option.getD_some] at e
    rw [List.getElem?_reverse (by omega), List.getElem?_eq_getElem (by omega), e, hx]
    split
    · rw [List.getElem?_eq_getElem (by omega), Option.getD_some]
    · have : j = n - 1 - j := by omega
      rw [List.getElem?_eq_getElem (show j < xs.length by omega), Option.getD_some, List.getElem?_eq_getElem (show n - 1 - j < xs.length by omega)]
      congr 1
      simp only [← this]
  · rw [List.getElem?_eq_none (by omega), List.getElem?_eq_none (by simp; omega)]

def RevR (w : World) (b : Nat) (t : TypeId) (xs : List Int) (e : Ending) (w' : World) : Prop :=
  e = .returned (.tuple #[]) ∧ RowAt w' b t .u8 xs.reverse ∧ Only b w w'

set_option maxHeartbeats 1000000 in
theorem rev_calls (b n c : Nat) (t : TypeId) (xs : List Int) (w : World) (hn : n ≤ 140737488355328) (hnc : n ≤ c) (hx : RowAt w b t .u8 xs) (hl : xs.length = n) :
    Calls Try.prog 87 #[.slice (some ⟨b, 0, none⟩) n c] w (RevR w b t xs) := by
  have HL := Lib.hid hl
  unfold RevR
  by_cases hn0 : n = 0
  · subst hn0
    obtain rfl : xs = [] := List.length_eq_zero_iff.1 hl
    clear hl HL
    go_enter Try.func87, Try.ntmps87
    go_wp2
    refine wp_loop_rounds 1 ?_
    rw [rounds_succ]
    go_wp2
    go_end0
    exact ⟨rfl, hx, Only.refl _ _⟩
  · have hI := rev_start xs n hl
    obtain ⟨m0, rfl⟩ : ∃ m0, n = m0 + 1 := ⟨n - 1, by omega⟩
    have HI := Lib.hid hI
    clear hl hI hn0
    go_enter Try.func87, Try.ntmps87
    go_wp2
    go_loopw [2, 3] (fun i j wr => ∃ k m : Nat, ∃ X, i = .int .i64 k ∧ j = .int .i64 m ∧ Hid (k + m = m0) ∧ k ≤ m0 ∧ m ≤ m0 ∧ Hid (RevI xs X (m0 + 1) k) ∧ RowAt wr b t .u8 X ∧ Only b w wr) (fun i j _ => m0 - (intOf i).toNat)
    case atStart => exact ⟨0, m0, xs, rfl, by first | rfl | (simp), Lib.hid (by omega), by omega, by omega, HI, hx, Only.refl _ _⟩
    case round =>
      clear hx HI
      obtain ⟨k, m, X, rfl, rfl, hkm, hk, hm, hX, hr, ho⟩ := hrel
      by_cases hlt : k < m
      · have ck := hr.cell k (by rw [hX.out.1]; omega)
        have cm := hr.cell m (by rw [hX.out.1]; omega)
        have fk := hr.free k
        have fm := hr.free m
        have ST := Lib.hid (rev_step xs X (m0 + 1) k m hX.out hlt (by have := hkm.out; omega))
        have hkm' := Lib.hid (show k + 1 + (m - 1) = m0 by have := hkm.out; omega)
        have hne : k ≠ m := by omega
        generalize X[k]?.getD 0 = x at *
        generalize X[m]?.getD 0 = y at *
        have R1 := fun (q : Nat) => ((hr.drewN q).set k y).set m x
        have R2 := fun (q : Nat) => ((hr.drewN q).set m x).set k y
        have O1 := fun (q : Nat) => ((ho.drewN q).set k (.int .u8 y)).set m (.int .u8 x)
        have O2 := fun (q : Nat) => ((ho.drewN q).set m (.int .u8 x)).set k (.int .u8 y)
        have hm1 : ((m : Int) - 1) = ((m - 1 : Nat) : Int) := by omega
        have HM := Lib.hid hm1
        clear hm1
        go_wp2_with fail
        go_region
        go_wp2
        go_roundw
        case rel =>
          first
            | exact ⟨k + 1, m - 1, _, by go_num, by rw [HM.out], hkm', by omega, by omega, ST, R1 1, O1 1⟩
            | exact ⟨k + 1, m - 1, _, by go_num, by rw [HM.out], hkm', by omega, by omega, ST, R1 0, O1 0⟩
        case measure => simp [intOf]; omega

      · obtain rfl := rev_end xs X (m0 + 1) k m HL.out hX.out hlt (by have := hkm.out; omega)
        go_wp2
        go_end0
        exact ⟨rfl, hr, ho⟩

theorem rev_nil (w : World) : Calls Try.prog 87 #[.slice none 0 0] w (fun e w' => e = .returned (.tuple #[]) ∧ w = w') := by
  go_enter Try.func87, Try.ntmps87
  go_wp2
  refine wp_loop_rounds 1 ?_
  rw [rounds_succ]
  go_wp2
  go_end0
  exact ⟨rfl, rfl⟩
end Go.Proofs.Ytgnophflogmmaaa

/- A number's bytes, and the number of bytes: plain. -/
namespace Go.Proofs.Ytgnophflogmmaaa

/-- A limb's four bytes, the lowest first. -/
def four (x : Int) : List Int := [x % 256, x / 256 % 256, x / 65536 % 256, x / 16777216 % 256]
theorem four_dig (x : Int) : Dig 256 (four x) := fun y hy => by
  simp only [four, List.mem_cons, List.not_mem_nil, or_false] at hy
  omega
theorem four_val (x : Int) (h : 0 ≤ x ∧ x < 4294967296) : val 256 (four x) = x := by
  simp only [four, val]
  omega
theorem four_step (xs ds : List Int) (k : Nat) (hk : k < xs.length) (hl : ds.length = 4 * k) (h : val 256 ds = val 4294967296 (xs.take k)) (hx : 0 ≤ xs[k]?.getD 0 ∧ xs[k]?.getD 0 < 4294967296) :
    (ds ++ four (xs[k]?.getD 0)).length = 4 * (k + 1) ∧ val 256 (ds ++ four (xs[k]?.getD 0)) = val 4294967296 (xs.take (k + 1)) := by
  refine ⟨by rw [List.length_append, hl]; simp [four]; omega, ?_⟩
  rw [val_append, hl, pow4, four_val _ hx, val_take_succ', h]

/-- What bytes tell, the highest first. -/
def byteV (cs : List Int) : Int := val 256 cs.reverse
theorem byteV_nonneg (cs : List Int) (h : Dig 256 cs) : 0 ≤ byteV cs := val_nonneg (by omega) h.reverse
def byteOk (cs : List Int) : Bool := decide ((dg 256 (byteV cs)).length ≤ 1048576)
def byteNum (cs : List Int) : Int := if byteOk cs then byteV cs else 0

theorem byteV_skip (cs : List Int) (k : Nat) (h : ∀ j, j < k → cs[j]?.getD 0 = 0) (hk : k ≤ cs.length) : byteV (cs.drop k) = byteV cs := by
  unfold byteV
  have e : cs.reverse = (cs.drop k).reverse ++ List.replicate k 0 := by
    conv => lhs; rw [← List.take_append_drop k cs, List.reverse_append]
    congr 1
    have : cs.take k = List.replicate k 0 := by
      refine List.ext_getElem? fun j => ?_
      rcases Nat.lt_or_ge j k with h1 | h1
      · have := h j h1
        rw [List.getElem?_take_of_lt h1, List.getElem?_replicate, if_pos h1]
        rw [List.getElem?_eq_getElem (by omega), Option.getD_some] at this
        rw [List.getElem?_eq_getElem (by omega), this]
      · rw [List.getElem?_eq_none (by rw [List.length_take]; omega), List.getElem?_eq_none (by simp; omega)]
    rw [this, List.reverse_replicate]
  rw [e, val_append, val_replicate, Int.mul_zero, Int.add_zero]

/-- Bytes that begin with none that is 0 are the number's own. -/
theorem byteV_own (cs : List Int) (d : Dig 256 cs) (h : cs = [] ∨ cs[0]?.getD 0 ≠ 0) : dg 256 (byteV cs) = cs.reverse := by
  have hn : norm cs.reverse = cs.reverse := by
    rcases h with rfl | h
    · rfl
    · cases cs with
      | nil => rfl
      | cons c l =>
        rw [List.reverse_cons]
        exact norm_snoc _ _ (by simpa using h)
  have := norm_eq 256 (by omega) d.reverse
  rw [hn] at this
  exact this.symm

/-- The lowest i bytes stand in the row. -/
structure ByteSt (rs out : List Int) (i : Nat) : Prop where
  dig : Dig 4294967296 out
  worth : val 4294967296 out = val 256 (rs.take i)
  zero : ∀ q, i / 4 < q → out[q]?.getD 0 = 0
  low : out[i / 4]?.getD 0 < 256 ^ (i % 4)
theorem byte_step (rs out : List Int) (i : Nat) (hi : i < rs.length) (dr : Dig 256 rs) (ho : i / 4 < out.length) (h : ByteSt rs out i) (v : Int) (hv : v = out[i / 4]?.getD 0 + rs[i]?.getD 0 * 256 ^ (i % 4)) :
    ByteSt rs (out.set (i / 4) v) (i + 1) ∧ 0 ≤ v ∧ v < 4294967296 := by
  have bx := dr.get (by omega) i
  have bo := h.dig.get (by omega) (i / 4)
  have hl := h.low
  have hz : i % 4 < 4 := Nat.mod_lt _ (by omega)
  have hpow : (256 : Int) ^ i = 4294967296 ^ (i / 4) * 256 ^ (i % 4) := by
    rw [← pow4, ← Int.pow_add]
    congr 1
    omega
  have hvb : v < 256 ^ (i % 4 + 1) ∧ 0 ≤ v := by
    have hp : (0 : Int) < 256 ^ (i % 4) := Int.pow_pos (by omega)
    have h0 : 0 ≤ rs[i]?.getD 0 * 256 ^ (i % 4) := Int.mul_nonneg bx.1 (Int.le_of_lt hp)
    have h1 : (rs[i]?.getD 0 + 1) * 256 ^ (i % 4) ≤ 256 * 256 ^ (i % 4) := Int.mul_le_mul_of_nonneg_right (by omega) (Int.le_of_lt hp)
    rw [Int.add_mul, Int.one_mul] at h1
    rw [Int.pow_succ, Int.mul_comm _ 256]
    omega
  have hv2 : v < 4294967296 := by
    have : (256 : Int) ^ (i % 4 + 1) ≤ 256 ^ 4 := pow_le (by omega) (by omega)
    rw [show (256 : Int) ^ 4 = 4294967296 from by decide] at this
    omega
  refine ⟨⟨h.dig.set hvb.2 hv2 _, ?_, fun q hq => ?_, ?_⟩, hvb.2, hv2⟩
  · rw [val_set _ _ _ _ ho, h.worth, val_take_succ', hpow, hv]
    generalize (4294967296 : Int) ^ (i / 4) = A
    generalize (256 : Int) ^ (i % 4) = D
    grind
  · rw [List.getElem?_set_ne (by omega)]
    exact h.zero q (by omega)
  · by_cases h3 : i % 4 = 3
    · rw [List.getElem?_set_ne (by omega), h.zero _ (by omega)]
      exact Int.pow_pos (by omega)
    · rw [show (i + 1) / 4 = i / 4 by omega, List.getElem?_set_self ho, Option.getD_some, show (i + 1) % 4 = i % 4 + 1 by omega]
      exact hvb.1
theorem byte_start (rs : List Int) (n : Nat) : ByteSt rs (List.replicate n 0) 0 :=
  ⟨Dig.replicate _ (by omega) _, by rw [val_replicate]; simp [val], fun q _ => by simp [List.getElem?_replicate]; split <;> rfl, by simp [List.getElem?_replicate]; split <;> simp⟩
theorem byte_end (rs out : List Int) (hl : out.length = (rs.length + 3) / 4) (dr : Dig 256 rs) (hn : norm rs = rs) (h : ByteSt rs out rs.length) : out = dg 4294967296 (val 256 rs) := by
  have hw := h.worth
  rw [List.take_length] at hw
  refine dg_of_ge out _ h.dig hw ?_
  by_cases hr : rs = []
  · left
    rw [hl, hr]
    rfl
  · right
    have h1 := val_ge (b := 256) (by omega) dr hn hr
    have h2 : 0 < rs.length := List.length_pos_iff.2 hr
    refine Int.le_trans ?_ h1
    rw [← pow4]
    exact pow_le (by omega) (by omega)
/-- Bytes 0 ahead say nothing. -/
theorem byte_zeros (z : Nat) (A : Int) (hA : 0 ≤ A) : byteV (List.replicate z 0 ++ (dg 256 A).reverse) = A := by
  have h := byteV_skip (List.replicate z 0 ++ (dg 256 A).reverse) z (fun j hj => by rw [List.getElem?_append_left (by simpa using hj), List.getElem?_replicate, if_pos hj]; rfl) (by simp)
  rw [List.drop_left' (by simp)] at h
  rw [← h]
  unfold byteV
  rw [List.reverse_reverse]
  exact val_dg 256 (by omega) A hA
theorem dg_more (A x : Int) (hA : 0 ≤ A) (hx : 0 ≤ x ∧ x < 256) (h : 0 < A * 256 + x) : (dg 256 (A * 256 + x)).reverse = (dg 256 A).reverse ++ [x] := by
  rw [dg_pos 256 _ (by omega) h, show (A * 256 + x) % ((256 : Nat) : Int) = x by omega, show (A * 256 + x) / ((256 : Nat) : Int) = A by omega, List.reverse_cons]
theorem dg_top (A : Int) (hA : 0 < A) : 0 < (dg 256 A).length ∧ (dg 256 A).reverse[0]?.getD 0 ≠ 0 := by
  have hp : 0 < (dg 256 A).length := List.length_pos_iff.2 fun e => by
    have := (dg_nil 256 A (by omega) (by omega)).1 e
    omega
  refine ⟨hp, ?_⟩
  obtain ⟨m, hm⟩ : ∃ m, (dg 256 A).length = m + 1 := ⟨(dg 256 A).length - 1, by omega⟩
  have := norm_last (b := 256) (norm_dg 256 (by omega) A) m hm
  rw [List.getElem?_reverse (by omega), hm]
  exact this
end Go.Proofs.Ytgnophflogmmaaa

/- whole.flip: each byte turned about, and one more. -/
namespace Go.Proofs.Ytgnophflogmmaaa
open Go.RowKit

/-- The lowest byte first, with what is still to be added. -/
def flipL : List Int → Int → List Int
  | [], _ => []
  | x :: l, c => (255 - x + c) % 256 :: flipL l (if (255 - x + c) % 256 = 0 then c else 0)
def cyL : List Int → Int → Int
  | [], c => c
  | x :: l, c => cyL l (if (255 - x + c) % 256 = 0 then c else 0)
theorem flipL_length (l : List Int) (c : Int) : (flipL l c).length = l.length := by
  induction l generalizing c with
  | nil => rfl
  | cons x l ih => simp [flipL, ih]
theorem flipL_snoc (l : List Int) (x c : Int) : flipL (l ++ [x]) c = flipL l c ++ [(255 - x + cyL l c) % 256] := by
  induction l generalizing c with
  | nil => rfl
  | cons y l ih => simp [flipL, cyL, ih]
theorem cyL_snoc (l : List Int) (x c : Int) : cyL (l ++ [x]) c = if (255 - x + cyL l c) % 256 = 0 then cyL l c else 0 := by
  induction l generalizing c with
  | nil => rfl
  | cons y l ih => exact ih _
theorem flipL_dig (l : List Int) (c : Int) : Dig 256 (flipL l c) := by
  induction l generalizing c with
  | nil => exact Dig.nil _
  | cons x l ih => exact Dig.cons (by omega) (by omega) (ih _)
theorem cyL_bd (l : List Int) (c : Int) (h : c = 0 ∨ c = 1) : cyL l c = 0 ∨ cyL l c = 1 := by
  induction l generalizing c with
  | nil => exact h
  | cons x l ih => exact ih _ (by split <;> omega)
theorem flip_val0 (l : List Int) (d : Dig 256 l) : val 256 (flipL l 0) = 256 ^ l.length - 1 - val 256 l := by
  induction l with
  | nil => simp [flipL, val]
  | cons x l ih =>
    have hx := d.head
    have e : flipL (x :: l) 0 = (255 - x + 0) % 256 :: flipL l 0 := by show _ :: flipL l (if (255 - x + 0) % 256 = 0 then 0 else 0) = _; split <;> rfl
    rw [e]
    simp only [val, List.length_cons, Int.pow_succ]
    rw [ih d.tail]
    omega
theorem flip_val1 (l : List Int) (d : Dig 256 l) : val 256 (flipL l 1) = if val 256 l = 0 then 0 else 256 ^ l.length - val 256 l := by
  induction l with
  | nil => simp [flipL, val]
  | cons x l ih =>
    have hx := d.head
    have hv := val_nonneg (show (0 : Int) < 256 by omega) d.tail
    by_cases h0 : x = 0
    · subst h0
      have e : flipL (0 :: l) 1 = 0 :: flipL l 1 := rfl
      rw [e]
      simp only [val, List.length_cons, Int.pow_succ]
      rw [ih d.tail]
      by_cases hz : val 256 l = 0
      · rw [if_pos hz, if_pos (by omega)]; omega
      · rw [if_neg hz, if_neg (by omega)]; omega
    · have e : flipL (x :: l) 1 = (255 - x + 1) % 256 :: flipL l 0 := by show _ :: flipL l (if (255 - x + 1) % 256 = 0 then 1 else 0) = _; rw [if_neg (by omega)]
      rw [e]
      simp only [val, List.length_cons, Int.pow_succ]
      rw [flip_val0 l d.tail, if_neg (by omega)]
      omega
/-- What flip makes of bytes, the highest first. -/
def flipB (xs : List Int) : List Int := (flipL xs.reverse 1).reverse
theorem flipB_length (xs : List Int) : (flipB xs).length = xs.length := by simp [flipB, flipL_length]
theorem flipB_dig (xs : List Int) : Dig 256 (flipB xs) := fun x hx => flipL_dig _ _ x (List.mem_reverse.1 hx)

def FlipI (xs X : List Int) (k : Nat) (c : Int) : Prop := X = (flipL (xs.reverse.take k) 1 ++ xs.reverse.drop k).reverse ∧ c = cyL (xs.reverse.take k) 1
theorem FlipI.start (xs : List Int) : FlipI xs xs 0 1 := ⟨by simp [flipL], rfl⟩
theorem FlipI.length {xs X : List Int} {k : Nat} {c : Int} (h : FlipI xs X k c) (hk : k ≤ xs.length) : X.length = xs.length := by
  rw [h.1, List.length_reverse, List.length_append, flipL_length, List.length_take, List.length_drop, List.length_reverse]
  omega
theorem FlipI.end {xs X : List Int} {c : Int} (h : FlipI xs X xs.length c) : X = flipB xs := by
  rw [h.1, List.take_of_length_le (by simp), List.drop_of_length_le (by simp), List.append_nil]
  rfl
theorem FlipI.bd {xs X : List Int} {k : Nat} {c : Int} (h : FlipI xs X k c) : c = 0 ∨ c = 1 := by rw [h.2]; exact cyL_bd _ _ (.inr rfl)
theorem FlipI.step {xs X : List Int} {k r : Nat} {c : Int} (h : FlipI xs X k c) (hr : k + (r + 1) = xs.length) :
    X[r]?.getD 0 = xs[r]?.getD 0 ∧ FlipI xs (X.set r ((255 - xs[r]?.getD 0 + c) % 256)) (k + 1) (if (255 - xs[r]?.getD 0 + c) % 256 = 0 then c else 0) := by
  obtain ⟨h1, h2⟩ := h
  have hl : xs.reverse.length = xs.length := List.length_reverse
  have hk : k < xs.reverse.length := by omega
  have e1 : xs[r]?.getD 0 = xs.reverse[k] := by
    rw [List.getElem_reverse, List.getElem?_eq_getElem (by omega), Option.getD_some]
    congr 1
    omega
  have e2 : xs.reverse.drop k = xs.reverse[k] :: xs.reverse.drop (k + 1) := List.drop_eq_getElem_cons hk
  have e3 : xs.reverse.take (k + 1) = xs.reverse.take k ++ [xs.reverse[k]] := by rw [List.take_add_one, List.getElem?_eq_getElem hk]; rfl
  have e4 : (xs.reverse.drop (k + 1)).reverse.length = r := by rw [List.length_reverse, List.length_drop]; omega
  rw [e1]
  generalize xs.reverse[k] = x at *
  have e5 : X = (xs.reverse.drop (k + 1)).reverse ++ x :: (flipL (xs.reverse.take k) 1).reverse := by rw [h1, e2, List.reverse_append, List.reverse_cons, List.append_assoc]; rfl
  refine ⟨?_, ?_, ?_⟩
  · rw [e5, List.getElem?_append_right (by omega), e4, Nat.sub_self]; rfl
  · rw [e3, flipL_snoc, ← h2, e5, List.set_append_right _ _ (by omega), e4, Nat.sub_self, List.reverse_append, List.reverse_append]
    simp
  · rw [e3, cyL_snoc, ← h2]
theorem xor_u8 (x : Int) (h : 0 ≤ x ∧ x < 256) : bits .xor .u8 255 x = 255 - x := by
  obtain ⟨x, rfl⟩ := Int.eq_ofNat_of_zero_le h.1
  have hx : x < 256 := by omega
  have h2 : (BitVec.ofInt 8 (x : Int)).toNat = x := by
    rw [BitVec.ofInt_natCast, BitVec.toNat_ofNat]; exact Nat.mod_eq_of_lt (by omega)
  show IntKind.u8.wrap ((BitVec.ofInt 8 255 ^^^ BitVec.ofInt 8 (x : Int)).toNat : Int) = _
  rw [show BitVec.ofInt 8 255 = BitVec.allOnes 8 from by decide, BitVec.allOnes_xor, BitVec.toNat_not, h2]
  simp [IntKind.wrap, IntKind.bits, IntKind.signed]
  omega

set_option maxHeartbeats 1000000 in
theorem flip_calls (b n c : Nat) (t : TypeId) (xs : List Int) (w : World) (hn : n ≤ 140737488355328) (hnc : n ≤ c) (hx : RowAt w b t .u8 xs) (hd : Dig 256 xs) (hl : xs.length = n) :
    Calls Try.prog 63 #[.slice (some ⟨b, 0, none⟩) n c] w (fun e w' => e = .returned (.tuple #[]) ∧ RowAt w' b t .u8 (flipB xs) ∧ Only b w w') := by
  have HL := Lib.hid hl
  have HD := Lib.hid hd
  have HI := Lib.hid (FlipI.start xs)
  obtain ⟨res, hres⟩ : ∃ r, r = flipB xs := ⟨_, rfl⟩
  rw [← hres]
  have HRES := Lib.hid hres
  clear hl hd hres
  go_enter Try.func63, Try.ntmps63
  go_wp2
  go_loopw [2, 3] (fun cv i wr => ∃ (r k : Nat) (cy : Int) (X : List Int), cv = .int .u8 cy ∧ i = .int .i64 ((r : Int) - 1) ∧ Hid (k + r = n) ∧ r ≤ n ∧ Hid (FlipI xs X k cy) ∧ RowAt wr b t .u8 X ∧ Only b w wr) (fun _ i _ => ((intOf i) + 1).toNat)
  case atStart => exact ⟨n, 0, 1, xs, rfl, rfl, Lib.hid (by omega), Nat.le_refl _, HI, hx, Only.refl _ _⟩
  case round =>
    clear hx HI
    obtain ⟨r, k, cy, X, rfl, rfl, hkr, hrn, hI, hr, ho⟩ := hrel
    rcases r with _ | r
    · have hX : Hid (X = res) := Lib.hid (by
        have := hI.out
        rw [show k = xs.length by have := hkr.out; have := HL.out; omega] at this
        rw [HRES.out]
        exact this.end)
      go_wp2
      go_end0
      exact ⟨rfl, by rw [← hX.out]; exact hr, ho⟩
    · obtain ⟨q1, q2⟩ := hI.out.step (r := r) (by have := hkr.out; have := HL.out; omega)
      have hXl : X.length = n := by rw [hI.out.length (by have := hkr.out; have := HL.out; omega), HL.out]
      have cm := hr.cell r (by omega)
      have fm := hr.free r
      have hcy := hI.out.bd
      have bx := HD.out.get (by omega) r
      rw [q1] at cm
      clear hXl q1
      generalize xs[r]?.getD 0 = x at *
      have X1 : bits .xor .u8 (if IntKind.u8.signed = true then -1 else IntKind.u8.max) x = 255 - x := xor_u8 x bx
      obtain ⟨v, hv⟩ : ∃ v, (255 - x + cy) % 256 = v := ⟨_, rfl⟩
      rw [hv] at q2
      have W1 : (255 - x + cy) % 256 = v := hv
      have W2 : IntKind.u8.wrap (255 - x + cy) = v := by rw [← hv]; simp [IntKind.wrap, IntKind.bits, IntKind.signed]
      have hvb : 0 ≤ v ∧ v < 256 := by omega
      have e1 : (((r + 1 : Nat) : Int) - 1) = (r : Int) := by omega
      have Q2 := Lib.hid q2
      have hkr' := Lib.hid (show k + 1 + r = n by have := hkr.out; omega)
      have R1 := hr.set r v
      have O1 := ho.set r (.int .u8 v)
      rw [e1]
      clear hv q2
      by_cases hv0 : v = 0
      · have hz : (v != 0) = false := by rw [hv0]; rfl
        have Q3 : Hid (FlipI xs (X.set r v) (k + 1) cy) := Lib.hid (by have := Q2.out; rwa [if_pos hv0] at this)
        clear hv0 Q2 hr ho
        go_wp2_with fail
        go_roundw
        case rel => exact ⟨r, k + 1, _, _, rfl, by go_num, hkr', by omega, Q3, R1, O1⟩
        case measure => simp [intOf]
      · have hz : (v != 0) = true := by simpa using hv0
        have Q3 : Hid (FlipI xs (X.set r v) (k + 1) 0) := Lib.hid (by have := Q2.out; rwa [if_neg hv0] at this)
        clear hv0 Q2 hr ho
        go_wp2_with fail
        go_roundw
        case rel => exact ⟨r, k + 1, _, _, rfl, by go_num, hkr', by omega, Q3, R1, O1⟩
        case measure => simp [intOf]
end Go.Proofs.Ytgnophflogmmaaa
