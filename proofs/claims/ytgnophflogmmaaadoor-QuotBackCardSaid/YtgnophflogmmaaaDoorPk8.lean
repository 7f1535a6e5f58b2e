/- Contracts of functions, and plain facts, part 8. -/
import Derived.Test.YtgnophflogmmaaaDoorProg
import Derived.BigRegion
import Derived.Deep.LoopGhost
import Derived.Deep.DeepCutAuto
import Derived.Deep.RegionWith
import Derived.Test.YtgnophflogmmaaaDoorPk2
import Derived.Test.YtgnophflogmmaaaDoorPk3
import Derived.Test.YtgnophflogmmaaaDoorPk4
import Derived.Test.YtgnophflogmmaaaDoorPk5
import Derived.Test.YtgnophflogmmaaaDoorPk7
set_option linter.unusedVariables false
set_option linter.unusedSimpArgs false
/- Long division: what holds between two digits. -/
namespace Go.Proofs.YtgnophflogmmaaaDoor

/-- The digits from place j on are found: q holds them, X what is left. -/
structure LongI (B V Y : Int) (n L : Nat) (X q : List Int) (j : Nat) : Prop where
  lx : X.length = L
  lq : q.length = L - n
  dx : Dig B X
  dq : Dig B q
  sum : val B X + val B q * Y = V
  lt : val B (X.drop j) < Y
  zero : ∀ i, i < j → q[i]?.getD 0 = 0

variable {B V Y : Int} {n L j : Nat} {X q ys : List Int}

theorem val_take3 (B : Int) (W : List Int) (n : Nat) (hn : 2 ≤ n) (hW : W.length = n + 1) :
    val B W = ((W[n]?.getD 0 * B + W[n - 1]?.getD 0) * B + W[n - 2]?.getD 0) * B ^ (n - 2) + val B (W.take (n - 2)) := by
  have h1 := val_take_succ' B W n
  rw [List.take_of_length_le (by omega)] at h1
  have h2 := val_take_succ' B W (n - 1)
  have h3 := val_take_succ' B W (n - 2)
  rw [show n - 1 + 1 = n by omega] at h2
  rw [show n - 2 + 1 = n - 1 by omega] at h3
  have p1 : B ^ (n - 1) = B ^ (n - 2) * B := by rw [← Int.pow_succ]; congr 1; omega
  have p2 : B ^ n = B ^ (n - 2) * B * B := by rw [← p1, ← Int.pow_succ]; congr 1; omega
  rw [h1, h2, h3, p1, p2]
  generalize B ^ (n - 2) = P
  generalize val B (W.take (n - 2)) = T
  grind

theorem val_take2 (B : Int) (W : List Int) (n : Nat) (hn : 2 ≤ n) (hW : W.length = n) :
    val B W = (W[n - 1]?.getD 0 * B + W[n - 2]?.getD 0) * B ^ (n - 2) + val B (W.take (n - 2)) := by
  have h2 := val_take_succ' B W (n - 1)
  have h3 := val_take_succ' B W (n - 2)
  rw [show n - 1 + 1 = n by omega, List.take_of_length_le (by omega)] at h2
  rw [show n - 2 + 1 = n - 1 by omega] at h3
  have p1 : B ^ (n - 1) = B ^ (n - 2) * B := by rw [← Int.pow_succ]; congr 1; omega
  rw [h2, h3, p1]
  generalize B ^ (n - 2) = P
  generalize val B (W.take (n - 2)) = T
  grind

/-- The window's worth: all that stands from place j on, below B times the divisor; nothing above it. -/
theorem LongI.window (h : LongI B V Y n L X q (j + 1)) (hB : 2 ≤ B) (hj : j + n + 1 ≤ L) (hY : Y < B ^ n) :
    val B (X.drop j) = val B ((X.drop j).take (n + 1)) ∧ val B (X.drop (j + n + 1)) = 0 ∧ val B ((X.drop j).take (n + 1)) < B * Y ∧ 0 ≤ val B ((X.drop j).take (n + 1)) := by
  have lx := h.lx
  have e1 := val_drop B X j (by omega)
  have e2 := val_split B (X.drop j) (n + 1) (by rw [List.length_drop]; omega)
  rw [List.drop_drop, ← Nat.add_assoc] at e2
  have d1 := h.dx.get (by omega) j
  have z1 := val_nonneg (by omega) ((h.dx.drop j).take (n + 1))
  have z2 := val_nonneg (by omega) (h.dx.drop (j + n + 1))
  have hl := h.lt
  have k1 : val B (X.drop j) < B * Y := by
    have : B * (val B (X.drop (j + 1)) + 1) ≤ B * Y := Int.mul_le_mul_of_nonneg_left (by omega) (by omega)
    rw [Int.mul_add, Int.mul_one] at this
    omega
  have k2 : B * Y < B ^ (n + 1) := by
    rw [Int.pow_succ, Int.mul_comm]
    exact Int.mul_lt_mul_of_pos_right hY (by omega)
  have hp : 0 < B ^ (n + 1) := Int.pow_pos (by omega)
  have k3 : val B (X.drop (j + n + 1)) = 0 := by
    rcases Int.lt_or_eq_of_le z2 with h1 | h1
    · exfalso
      have : B ^ (n + 1) * 1 ≤ B ^ (n + 1) * val B (X.drop (j + n + 1)) := Int.mul_le_mul_of_nonneg_left (by omega) (by omega)
      omega
    · exact h1.symm
  rw [k3, Int.mul_zero, Int.add_zero] at e2
  exact ⟨e2, k3, by omega, z1⟩

theorem LongI.win (h : LongI B V Y n L X q (j + 1)) (hB : 2 ≤ B) (hn : 2 ≤ n) (hj : j + n + 1 ≤ L) (ly : ys.length = n) (dy : Dig B ys) (eY : val B ys = Y) (hh : B ≤ 2 * ys[n - 1]?.getD 0) :
    Win B (B ^ (n - 2)) (ys[n - 1]?.getD 0) (ys[n - 2]?.getD 0) (val B (ys.take (n - 2))) (X[j + n]?.getD 0) (X[j + n - 1]?.getD 0) (X[j + n - 2]?.getD 0) (val B (((X.drop j).take (n + 1)).take (n - 2))) Y (val B ((X.drop j).take (n + 1))) := by
  have lx := h.lx
  have hY : Y < B ^ n := by rw [← eY, ← ly]; exact val_lt (by omega) dy
  obtain ⟨w1, w2, w3, w4⟩ := h.window hB hj hY
  have g1 : ((X.drop j).take (n + 1))[n]?.getD 0 = X[j + n]?.getD 0 := by rw [List.getElem?_take_of_lt (by omega), List.getElem?_drop]
  have g2 : ((X.drop j).take (n + 1))[n - 1]?.getD 0 = X[j + n - 1]?.getD 0 := by rw [List.getElem?_take_of_lt (by omega), List.getElem?_drop, show j + (n - 1) = j + n - 1 by omega]
  have g3 : ((X.drop j).take (n + 1))[n - 2]?.getD 0 = X[j + n - 2]?.getD 0 := by rw [List.getElem?_take_of_lt (by omega), List.getElem?_drop, show j + (n - 2) = j + n - 2 by omega]
  have e := val_take3 B ((X.drop j).take (n + 1)) n hn (by rw [List.length_take, List.length_drop]; omega)
  rw [g1, g2, g3] at e
  have dw := (h.dx.drop j).take (n + 1)
  have l1 := val_lt (show 0 < B by omega) (dw.take (n - 2))
  have l2 := val_lt (show 0 < B by omega) (dy.take (n - 2))
  rw [show (((X.drop j).take (n + 1)).take (n - 2)).length = n - 2 by simp; omega] at l1
  rw [show (ys.take (n - 2)).length = n - 2 by simp; omega] at l2
  exact ⟨hB, Int.pow_pos (by omega), ⟨hh, (dy.get (by omega) _).2⟩, dy.get (by omega) _, ⟨val_nonneg (by omega) (dy.take _), l2⟩, h.dx.get (by omega) _, h.dx.get (by omega) _, h.dx.get (by omega) _,
    ⟨val_nonneg (by omega) (dw.take _), l1⟩, by rw [← eY]; exact val_take2 B ys n hn ly, e, w3⟩

/-- A digit is found. -/
theorem LongI.step (h : LongI B V Y n L X q (j + 1)) (hB : 2 ≤ B) (hj : j + n + 1 ≤ L) (hY : 0 < Y ∧ Y < B ^ n) (g : Int) (hg : g = val B ((X.drop j).take (n + 1)) / Y) (hgb : 0 ≤ g ∧ g < B) (X1 : List Int) (l1 : X1.length = n + 1) (d1 : Dig B X1)
    (v1 : val B X1 = val B ((X.drop j).take (n + 1)) % Y) : LongI B V Y n L (putAt X j X1) (q.set j g) j := by
  have lx := h.lx
  have lq := h.lq
  obtain ⟨w1, w2, w3, w4⟩ := h.window hB hj hY.2
  have hm := Int.emod_add_mul_ediv (val B ((X.drop j).take (n + 1))) Y
  have hr := Int.emod_lt_of_pos (val B ((X.drop j).take (n + 1))) hY.1
  refine ⟨by rw [putAt_length _ _ _ (by omega)]; exact lx, by rw [List.length_set]; exact lq, putAt_dig h.dx d1 j, h.dq.set hgb.1 hgb.2 j, ?_, ?_, fun i hi => ?_⟩
  · rw [putAt_val B X j (n + 1) X1 l1 (by omega), val_set B q j g (by omega), h.zero j (by omega), v1]
    have hs := h.sum
    rw [← hg] at hm
    generalize val B ((X.drop j).take (n + 1)) = W at *
    generalize W % Y = r at *
    generalize val B X = A at *
    generalize val B q = Q at *
    generalize B ^ j = P at *
    subst hs
    have : W = r + Y * g := hm.symm
    subst this
    grind
  · have e : (putAt X j X1).drop j = X1 ++ X.drop (j + X1.length) := by
      unfold putAt
      rw [List.drop_append_of_le_length (by rw [List.length_take]; omega), List.drop_of_length_le (by rw [List.length_take]; omega), List.nil_append]
    rw [e, val_append, l1, ← Nat.add_assoc, w2, Int.mul_zero, Int.add_zero, v1]
    exact hr
  · rw [List.getElem?_set_ne (by omega)]
    exact h.zero i (by omega)

theorem LongI.skip (h : LongI B V Y n L X q (j + 1)) (hB : 2 ≤ B) (hj : j + n + 1 ≤ L) (hY : 0 < Y ∧ Y < B ^ n) (hg : val B ((X.drop j).take (n + 1)) / Y ≤ 0) : LongI B V Y n L X q j := by
  obtain ⟨w1, w2, w3, w4⟩ := h.window hB hj hY.2
  have hm := Int.emod_add_mul_ediv (val B ((X.drop j).take (n + 1))) Y
  have hr := Int.emod_lt_of_pos (val B ((X.drop j).take (n + 1))) hY.1
  have h0 : 0 ≤ val B ((X.drop j).take (n + 1)) / Y := Int.ediv_nonneg w4 (by omega)
  have e : val B ((X.drop j).take (n + 1)) / Y = 0 := by omega
  rw [e, Int.mul_zero, Int.add_zero] at hm
  refine ⟨h.lx, h.lq, h.dx, h.dq, h.sum, by omega, fun i hi => h.zero i (by omega)⟩

theorem LongI.done (h : LongI B V Y n L X q 0) (hB : 2 ≤ B) (hY : 0 < Y) : val B q = V / Y ∧ val B X = V % Y := by
  have h1 := h.sum
  have h2 := h.lt
  rw [List.drop_zero] at h2
  have h3 := val_nonneg (show 0 < B by omega) h.dx
  have e1 : V / Y = val B q := by
    rw [← h1, Int.add_mul_ediv_right _ _ (by omega), Int.ediv_eq_zero_of_lt h3 h2, Int.zero_add]
  have e2 : V % Y = val B X := by
    rw [← h1, Int.add_mul_emod_self_right, Int.emod_eq_of_lt h3 h2]
  exact ⟨e1.symm, e2.symm⟩

theorem LongI.start (hB : 2 ≤ B) (hn : n < L) (lx : X.length = L) (dx : Dig B X) (hV : val B X = V) (hlt : val B (X.drop (L - n)) < Y) : LongI B V Y n L X (List.replicate (L - n) 0) (L - n) :=
  ⟨lx, by simp, dx, Dig.replicate _ (by omega) _, by rw [val_replicate, Int.zero_mul, Int.add_zero]; exact hV, hlt, fun i hi => by simp [List.getElem?_replicate]; split <;> rfl⟩
end Go.Proofs.YtgnophflogmmaaaDoor

/- slices.Reverse of bytes. -/
namespace Go.Proofs.YtgnophflogmmaaaDoor
open Go.RowKit

/-- The first k and the last k have changed places. -/
def RevI (xs X : List Int) (n k : Nat) : Prop := X.length = n ∧ ∀ j, j < n → X[j]?.getD 0 = if j < k ∨ n - 1 - j < k then xs[n - 1 - j]?.getD 0 else xs[j]?.getD 0

theorem rev_step (xs X : List Int) (n k m : Nat) (h : RevI xs X n k) (hkm : k < m) (hn : k + m + 1 = n) :
    RevI xs ((X.set k (X[m]?.getD 0)).set m (X[k]?.getD 0)) n (k + 1) := by
  obtain ⟨h1, h2⟩ := h
  refine ⟨by simpa using h1, fun j hj => ?_⟩
  rw [List.getElem?_set, List.length_set]
  by_cases e1 : m = j
  · subst e1
    rw [if_pos rfl, if_pos (by omega), Option.getD_some, h2 k (by omega), if_neg (by omega), if_pos (by omega)]
    congr 2
    omega
  · rw [if_neg e1, List.getElem?_set]
    by_cases e2 : k = j
    · subst e2
      rw [if_pos rfl, if_pos (by omega), Option.getD_some, h2 m (by omega), if_neg (by omega), if_pos (by omega)]
      congr 2
      omega
    · rw [if_neg e2, h2 j hj]
      by_cases e3 : j < k ∨ n - 1 - j < k
      · rw [if_pos e3, if_pos (by omega)]
      · rw [if_neg e3, if_neg (by omega)]
theorem rev_start (xs : List Int) (n : Nat) (h : xs.length = n) : RevI xs xs n 0 := ⟨h, fun j hj => by rw [if_neg (by omega)]⟩
theorem rev_end (xs X : List Int) (n k m : Nat) (hx : xs.length = n) (h : RevI xs X n k) (hkm : ¬ k < m) (hn : k + m + 1 = n) : X = xs.reverse := by
  obtain ⟨h1, h2⟩ := h
  refine List.ext_getElem? fun j => ?_
  by_cases hj : j < n
  · have e := h2 j hj
    rw [List.getElem?_eq_getElem (by omega), Option.getD_some] at e
    rw [List.getElem?_reverse (by omega), List.getElem?_eq_getElem (by omega), e, hx]
    split
    · rw [List.getElem?_eq_getElem (by omega), Option.getD_some]
    · have : j = n - 1 - j := by omega
      rw [List.getElem?_eq_getElem (show j < xs.length by omega), Option.getD_some, List.getElem?_eq_getElem (show n - 1 - j < xs.length by omega)]
      congr 1
      simp only [← this]
  · rw [List.getElem?_eq_none (by omega), List.getElem?_eq_none (by simp; omega)]

def RevR (w : World) (b : Nat) (t : TypeId) (xs : List Int) (e : Ending) (w' : World) : Prop :=
  e = .returned (.tuple #[]) ∧ RowAt w' b t .u8 xs.reverse ∧ Only b w w'

set_option maxHeartbeats 1000000 in
theorem rev_calls (b n c : Nat) (t : TypeId) (xs : List Int) (w : World) (hn : n ≤ 140737488355328) (hnc : n ≤ c) (hx : RowAt w b t .u8 xs) (hl : xs.length = n) :
    Calls Tryd.prog 38 #[.slice (some ⟨b, 0, none⟩) n c] w (RevR w b t xs) := by
  have HL := Lib.hid hl
  unfold RevR
  by_cases hn0 : n = 0
  · subst hn0
    obtain rfl : xs = [] := List.length_eq_zero_iff.1 hl
    clear hl HL
    go_enter Tryd.func38, Tryd.ntmps38
    go_wp2
    refine wp_loop_rounds 1 ?_
    rw [rounds_succ]
    go_wp2
    go_end0
    exact ⟨rfl, hx, Only.refl _ _⟩
  · have hI := rev_start xs n hl
    obtain ⟨m0, rfl⟩ : ∃ m0, n = m0 + 1 := ⟨n - 1, by omega⟩
    have HI := Lib.hid hI
    clear hl hI hn0
    go_enter Tryd.func38, Tryd.ntmps38
    go_wp2
    go_loopw [2, 3] (fun i j wr => ∃ k m : Nat, ∃ X, i = .int .i64 k ∧ j = .int .i64 m ∧ Hid (k + m = m0) ∧ k ≤ m0 ∧ m ≤ m0 ∧ Hid (RevI xs X (m0 + 1) k) ∧ RowAt wr b t .u8 X ∧ Only b w wr) (fun i j _ => m0 - (intOf i).toNat)
    case atStart => exact ⟨0, m0, xs, rfl, by first | rfl | (simp), Lib.hid (by omega), by omega, by omega, HI, hx, Only.refl _ _⟩
    case round =>
      clear hx HI
      obtain ⟨k, m, X, rfl, rfl, hkm, hk, hm, hX, hr, ho⟩ := hrel
      by_cases hlt : k < m
      · have ck := hr.cell k (by rw [hX.out.1]; omega)
        have cm := hr.cell m (by rw [hX.out.1]; omega)
        have fk := hr.free k
        have fm := hr.free m
        have ST := Lib.hid (rev_step xs X (m0 + 1) k m hX.out hlt (by have := hkm.out; omega))
        have hkm' := Lib.hid (show k + 1 + (m - 1) = m0 by have := hkm.out; omega)
        have hne : k ≠ m := by omega
        generalize X[k]?.getD 0 = x at *
        generalize X[m]?.getD 0 = y at *
        have R1 := fun (q : Nat) => ((hr.drewN q).set k y).set m x
        have R2 := fun (q : Nat) => ((hr.drewN q).set m x).set k y
        have O1 := fun (q : Nat) => ((ho.drewN q).set k (.int .u8 y)).set m (.int .u8 x)
        have O2 := fun (q : Nat) => ((ho.drewN q).set m (.int .u8 x)).set k (.int .u8 y)
        have hm1 : ((m : Int) - 1) = ((m - 1 : Nat) : Int) := by omega
        have HM := Lib.hid hm1
        clear hm1
        go_wp2_with fail
        go_region
        go_wp2
        go_roundw
        case rel =>
          first
            | exact ⟨k + 1, m - 1, _, by go_num, by rw [HM.out], hkm', by omega, by omega, ST, R1 1, O1 1⟩
            | exact ⟨k + 1, m - 1, _, by go_num, by rw [HM.out], hkm', by omega, by omega, ST, R1 0, O1 0⟩
        case measure => simp [intOf]; omega

      · obtain rfl := rev_end xs X (m0 + 1) k m HL.out hX.out hlt (by have := hkm.out; omega)
        go_wp2
        go_end0
        exact ⟨rfl, hr, ho⟩

theorem rev_nil (w : World) : Calls Tryd.prog 38 #[.slice none 0 0] w (fun e w' => e = .returned (.tuple #[]) ∧ w = w') := by
  go_enter Tryd.func38, Tryd.ntmps38
  go_wp2
  refine wp_loop_rounds 1 ?_
  rw [rounds_succ]
  go_wp2
  go_end0
  exact ⟨rfl, rfl⟩
end Go.Proofs.YtgnophflogmmaaaDoor

/- A number's bytes, and the number of bytes: plain. -/
namespace Go.Proofs.YtgnophflogmmaaaDoor

/-- A limb's four bytes, the lowest first. -/
def four (x : Int) : List Int := [x % 256, x / 256 % 256, x / 65536 % 256, x / 16777216 % 256]
theorem four_dig (x : Int) : Dig 256 (four x) := fun y hy => by
  simp only [four, List.mem_cons, List.not_mem_nil, or_false] at hy
  omega
theorem four_val (x : Int) (h : 0 ≤ x ∧ x < 4294967296) : val 256 (four x) = x := by
  simp only [four, val]
  omega
theorem four_step (xs ds : List Int) (k : Nat) (hk : k < xs.length) (hl : ds.length = 4 * k) (h : val 256 ds = val 4294967296 (xs.take k)) (hx : 0 ≤ xs[k]?.getD 0 ∧ xs[k]?.getD 0 < 4294967296) :
    (ds ++ four (xs[k]?.getD 0)).length = 4 * (k + 1) ∧ val 256 (ds ++ four (xs[k]?.getD 0)) = val 4294967296 (xs.take (k + 1)) := by
  refine ⟨by rw [List.length_append, hl]; simp [four]; omega, ?_⟩
  rw [val_append, hl, pow4, four_val _ hx, val_take_succ', h]

/-- What bytes tell, the highest first. -/
def byteV (cs : List Int) : Int := val 256 cs.reverse
theorem byteV_nonneg (cs : List Int) (h : Dig 256 cs) : 0 ≤ byteV cs := val_nonneg (by omega) h.reverse
def byteOk (cs : List Int) : Bool := decide ((dg 256 (byteV cs)).length ≤ 1048576)
def byteNum (cs : List Int) : Int := if byteOk cs then byteV cs else 0

theorem byteV_skip (cs : List Int) (k : Nat) (h : ∀ j, j < k → cs[j]?.getD 0 = 0) (hk : k ≤ cs.length) : byteV (cs.drop k) = byteV cs := by
  unfold byteV
  have e : cs.reverse = (cs.drop k).reverse ++ List.replicate k 0 := by
    conv => lhs; rw [← List.take_append_drop k cs, List.reverse_append]
    congr 1
    have : cs.take k = List.replicate k 0 := by
      refine List.ext_getElem? fun j => ?_
      rcases Nat.lt_or_ge j k with h1 | h1
      · have := h j h1
        rw [List.getElem?_take_of_lt h1, List.getElem?_replicate, if_pos h1]
        rw [List.getElem?_eq_getElem (by omega), Option.getD_some] at this
        rw [List.getElem?_eq_getElem (by omega), this]
      · rw [List.getElem?_eq_none (by rw [List.length_take]; omega), List.getElem?_eq_none (by simp; omega)]
    rw [this, List.reverse_replicate]
  rw [e, val_append, val_replicate, Int.mul_zero, Int.add_zero]

/-- Bytes that begin with none that is 0 are the number's own. -/
theorem byteV_own (cs : List Int) (d : Dig 256 cs) (h : cs = [] ∨ cs[0]?.getD 0 ≠ 0) : dg 256 (byteV cs) = cs.reverse := by
  have hn : norm cs.reverse = cs.reverse := by
    rcases h with rfl | h
    · rfl
    · cases cs with
      | nil => rfl
      | cons c l =>
        rw [List.reverse_cons]
        exact norm_snoc _ _ (by simpa using h)
  have := norm_eq 256 (by omega) d.reverse
  rw [hn] at this
  exact this.symm

/-- The lowest i bytes stand in the row. -/
structure ByteSt (rs out : List Int) (i : Nat) : Prop where
  dig : Dig 4294967296 out
  worth : val 4294967296 out = val 256 (rs.take i)
  zero : ∀ q, i / 4 < q → out[q]?.getD 0 = 0
  low : out[i / 4]?.getD 0 < 256 ^ (i % 4)
theorem byte_step (rs out : List Int) (i : Nat) (hi : i < rs.length) (dr : Dig 256 rs) (ho : i / 4 < out.length) (h : ByteSt rs out i) (v : Int) (hv : v = out[i / 4]?.getD 0 + rs[i]?.getD 0 * 256 ^ (i % 4)) :
    ByteSt rs (out.set (i / 4) v) (i + 1) ∧ 0 ≤ v ∧ v < 4294967296 := by
  have bx := dr.get (by omega) i
  have bo := h.dig.get (by omega) (i / 4)
  have hl := h.low
  have hz : i % 4 < 4 := Nat.mod_lt _ (by omega)
  have hpow : (256 : Int) ^ i = 4294967296 ^ (i / 4) * 256 ^ (i % 4) := by
    rw [← pow4, ← Int.pow_add]
    congr 1
    omega
  have hvb : v < 256 ^ (i % 4 + 1) ∧ 0 ≤ v := by
    have hp : (0 : Int) < 256 ^ (i % 4) := Int.pow_pos (by omega)
    have h0 : 0 ≤ rs[i]?.getD 0 * 256 ^ (i % 4) := Int.mul_nonneg bx.1 (Int.le_of_lt hp)
    have h1 : (rs[i]?.getD 0 + 1) * 256 ^ (i % 4) ≤ 256 * 256 ^ (i % 4) := Int.mul_le_mul_of_nonneg_right (by omega) (Int.le_of_lt hp)
    rw [Int.add_mul, Int.one_mul] at h1
    rw [Int.pow_succ, Int.mul_comm _ 256]
    omega
  have hv2 : v < 4294967296 := by
    have : (256 : Int) ^ (i % 4 + 1) ≤ 256 ^ 4 := pow_le (by omega) (by omega)
    rw [show (256 : Int) ^ 4 = 4294967296 from by decide] at this
    omega
  refine ⟨⟨h.dig.set hvb.2 hv2 _, ?_, fun q hq => ?_, ?_⟩, hvb.2, hv2⟩
  · rw [val_set _ _ _ _ ho, h.worth, val_take_succ', hpow, hv]
    generalize (4294967296 : Int) ^ (i / 4) = A
    generalize (256 : Int) ^ (i % 4) = D
    grind
  · rw [List.getElem?_set_ne (by omega)]
    exact h.zero q (by omega)
  · by_cases h3 : i % 4 = 3
    · rw [List.getElem?_set_ne (by omega), h.zero _ (by omega)]
      exact Int.pow_pos (by omega)
    · rw [show (i + 1) / 4 = i / 4 by omega, List.getElem?_set_self ho, Option.getD_some, show (i + 1) % 4 = i % 4 + 1 by omega]
      exact hvb.1
theorem byte_start (rs : List Int) (n : Nat) : ByteSt rs (List.replicate n 0) 0 :=
  ⟨Dig.replicate _ (by omega) _, by rw [val_replicate]; simp [val], fun q _ => by simp [List.getElem?_replicate]; split <;> rfl, by simp [List.getElem?_replicate]; split <;> simp⟩
theorem byte_end (rs out : List Int) (hl : out.length = (rs.length + 3) / 4) (dr : Dig 256 rs) (hn : norm rs = rs) (h : ByteSt rs out rs.length) : out = dg 4294967296 (val 256 rs) := by
  have hw := h.worth
  rw [List.take_length] at hw
  refine dg_of_ge out _ h.dig hw ?_
  by_cases hr : rs = []
  · left
    rw [hl, hr]
    rfl
  · right
    have h1 := val_ge (b := 256) (by omega) dr hn hr
    have h2 : 0 < rs.length := List.length_pos_iff.2 hr
    refine Int.le_trans ?_ h1
    rw [← pow4]
    exact pow_le (by omega) (by omega)
end Go.Proofs.YtgnophflogmmaaaDoor

/- quot.Pow: a small number to a power. -/
namespace Go.Proofs.YtgnophflogmmaaaDoor
open Go.RowKit

theorem pow_none (b n : Int) (w : World) (hb : 0 ≤ b ∧ b < 4294967296) (hn : -9223372036854775808 ≤ n ∧ n < 9223372036854775808) (hno : powOk b n = false) :
    Calls Tryd.prog 16 #[.int .u32 b, .int .i64 n] w (RetLB 32 .u32 (dg 4294967296 0) false w) := by
  rw [dg_zero]
  unfold powOk at hno
  have hno := of_decide_eq_false hno
  by_cases hn0 : n < 0
  · clear hno
    go_enter Tryd.func16, Tryd.ntmps16
    go_wp2_with fail
    go_ret2
    exact ⟨_, _, _, rfl, Own.nil _ _ _ _ _, Below.refl _ _⟩
  · have hb2 : 2 ≤ b := by
      rcases Int.lt_or_le b 2 with h | h
      · exact absurd ⟨by omega, .inl h⟩ hno
      · exact h
    have hbig : (65536 : Int) / (blen b.toNat : Nat) < n := by
      rcases Int.lt_or_le ((65536 : Int) / (blen b.toNat : Nat)) n with h | h
      · exact h
      · exact absurd ⟨by omega, .inr h⟩ hno
    have L := Lib.hid (len32_calls b w hb.1 (by omega))
    have hbl : Lib.bitLen b.toNat = blen b.toNat := bitLen_blen _ (by omega)
    rw [hbl] at L
    have hp := blen_pos b.toNat (by omega)
    have hup : blen b.toNat ≤ 32 := by
      have h1 := blen_ge b.toNat (by omega)
      have : blen b.toNat - 1 < 32 := (Nat.pow_lt_pow_iff_right (a := 2) (by omega)).1 (Nat.lt_of_le_of_lt h1 (by rw [show (2 : Nat) ^ 32 = 4294967296 from by decide]; omega))
      omega
    generalize blen b.toNat = l at *
    clear hno hbl
    go_enter Tryd.func16, Tryd.ntmps16
    go_wp2_with fail
    with_reducible refine (L.out).mono ?_
    rintro e w' ⟨rfl, rfl⟩
    clear L
    go_wp2_with fail
    go_ret2
    exact ⟨_, _, _, rfl, Own.nil _ _ _ _ _, Below.refl _ _⟩

theorem pow_small (b n : Int) (w : World) (hb : 0 ≤ b ∧ b < 2) (hn : 0 ≤ n ∧ n < 9223372036854775808) :
    Calls Tryd.prog 16 #[.int .u32 b, .int .i64 n] w (RetLB 32 .u32 (dg 4294967296 (b ^ n.toNat)) true w) := by
  obtain ⟨v, hv⟩ : ∃ v, v = b ^ n.toNat := ⟨_, rfl⟩
  rw [← hv]
  have hv2 : v = (if n = 0 then 1 else b) := by
    rw [hv]
    split
    · rename_i h; subst h; simp
    · rename_i h
      obtain ⟨j, hj⟩ : ∃ j, n.toNat = j + 1 := ⟨n.toNat - 1, by omega⟩
      rw [hj]
      rcases (show b = 0 ∨ b = 1 by omega) with rfl | rfl
      · rw [Int.pow_succ, Int.mul_zero]
      · exact Int.one_pow
  have HV := Lib.hid hv2
  have F := fun (x : Int) (h0 : 0 ≤ x) (h1 : x < 2) => Lib.hid (from_calls x w h0 (by omega))
  clear hv hv2
  have m0 : min n 1 = (if n = 0 then 0 else 1) := by split <;> omega
  have A0 : bits .andNot .i64 1 0 = 1 := by decide
  have A1 : bits .andNot .i64 1 1 = 0 := by decide
  have O0 : bits .or .u64 0 0 = 0 := by decide
  have O1 : bits .or .u64 0 1 = 1 := by decide
  have O2 : bits .or .u64 1 0 = 1 := by decide
  have O3 : bits .or .u64 1 1 = 1 := by decide
  by_cases hn0 : n = 0
  · subst hn0
    obtain rfl : v = 1 := by have := HV.out; simpa using this
    have F1 := F 1 (by omega) (by omega)
    have m1 : min (0 : Int) 1 = 0 := by decide
    clear m0 A1 HV F

    rcases (show b = 0 ∨ b = 1 by omega) with rfl | rfl
    all_goals
      go_enter Tryd.func16, Tryd.ntmps16
      go_wp2_with fail
      with_reducible refine (F1.out).mono ?_
      rintro e w1 ⟨ad, k, c, rfl, o, b1⟩
      go_wp2_with fail
      go_ret2
      exact ⟨_, _, _, rfl, o, b1⟩
  · obtain rfl : v = b := by have := HV.out; simpa [hn0] using this
    rw [if_neg hn0] at m0
    have F1 := F v hb.1 hb.2
    clear A0 HV F hn0
    rcases (show v = 0 ∨ v = 1 by omega) with rfl | rfl
    all_goals
      go_enter Tryd.func16, Tryd.ntmps16
      go_wp2_with fail
      with_reducible refine (F1.out).mono ?_
      rintro e w1 ⟨ad, k, c, rfl, o, b1⟩
      go_wp2_with fail
      go_ret2
      exact ⟨_, _, _, rfl, o, b1⟩

set_option maxHeartbeats 1000000 in
set_option maxRecDepth 20000 in
theorem pow_great (b n : Int) (w : World) (hb : 2 ≤ b ∧ b < 4294967296) (hn0 : 0 ≤ n) (hn : n ≤ 65536 / (blen b.toNat : Nat)) (hT : Tab32 w) :
    Calls Tryd.prog 16 #[.int .u32 b, .int .i64 n] w (RetLB 32 .u32 (dg 4294967296 (b ^ n.toNat)) true w) := by
  have L := Lib.hid (len32_calls b w (by omega) (by omega))
  have hbl : Lib.bitLen b.toNat = blen b.toNat := bitLen_blen _ (by omega)
  rw [hbl] at L
  have HT := Lib.hid (tz32_calls b (by omega) w hT)
  have hp := blen_pos b.toNat (by omega)
  have hup : blen b.toNat ≤ 32 := by
    have h1 := blen_ge b.toNat (by omega)
    have : blen b.toNat - 1 < 32 := (Nat.pow_lt_pow_iff_right (a := 2) (by omega)).1 (Nat.lt_of_le_of_lt h1 (by rw [show (2 : Nat) ^ 32 = 4294967296 from by decide]; omega))
    omega
  have HN := Lib.hid hn
  have hn6 : n ≤ 65536 := by
    have : (65536 : Int) / (blen b.toNat : Nat) ≤ 65536 := Int.ediv_le_self _ (by omega)
    omega
  obtain ⟨l, HL⟩ : ∃ l : Int, Hid ((blen b.toNat : Int) = l) := ⟨_, rfl⟩
  have hp' : 0 < l := by rw [← HL.out]; omega
  have hup' : l ≤ 32 := by rw [← HL.out]; omega
  rw [HL.out] at L hn
  obtain ⟨zs, HZ⟩ : ∃ zs, Hid (zs = dg 4294967296 (b ^ n.toNat)) := ⟨_, rfl⟩
  rw [← HZ.out]
  clear hbl hp hup
  go_enter Tryd.func16, Tryd.ntmps16
  go_wp2_with fail
  with_reducible refine (L.out).mono ?_
  rintro e w' ⟨rfl, rfl⟩
  clear L
  go_wp2_with fail
  with_reducible refine (HT.out).mono ?_
  rintro e w' ⟨k, m, rfl, rfl, hk, hbm, hm⟩
  clear HT
  have hm0 : 0 < m := by omega
  have hkn : 0 ≤ (k : Int) * n ∧ (k : Int) * n ≤ 31 * 65536 := by
    refine ⟨Int.mul_nonneg (by omega) (by omega), Int.mul_le_mul (by omega) (by omega) (by omega) (by omega)⟩
  have hsh : b / 2 ^ k = (m : Int) := by
    rw [hbm, show ((m * 2 ^ k : Nat) : Int) = (m : Int) * 2 ^ k by simp]
    exact Int.mul_ediv_cancel _ (Int.ne_of_gt (Int.pow_pos (by omega)))
  have hmb : (m : Int) < 4294967296 := by
    have h1 : (m : Int) ≤ b := by
      rw [← hsh]; exact Int.ediv_le_self _ (by omega)
    omega
  have hmin : min k 64 = k := by omega
  obtain ⟨u, HU⟩ : ∃ u, Hid ((k : Int) * n = u) := ⟨_, rfl⟩
  rw [HU.out] at hkn
  have hu2 := HU.out
  have HB := Lib.hid hbm
  have hbN : b.toNat = m * 2 ^ k := by omega
  obtain ⟨SH1, SH2, SH3, SH4, -⟩ := pow_shl m k n.toNat 2048 rfl hm0 hk (by omega) (by
    have := HN.out
    rw [hbN] at this
    have e : ((65536 / blen (m * 2 ^ k) : Nat) : Int) = 65536 / (blen (m * 2 ^ k) : Nat) := by simp
    omega)
  rw [show ((n.toNat : Nat) : Int) = n by omega, HU.out] at SH1 SH2
  rw [← HB.out] at SH2
  have hmi0 : 0 < (m : Int) := by omega
  obtain ⟨mi, HMI⟩ : ∃ mi : Int, Hid ((m : Int) = mi) := ⟨_, rfl⟩
  rw [HMI.out] at hsh hmb hmi0 SH1 SH2 SH3 SH4
  obtain ⟨T, HT⟩ : ∃ T, Hid (mi ^ n.toNat = T) := ⟨_, rfl⟩
  rw [HT.out] at SH1 SH2 SH3 SH4
  rw [← SH2] at HZ
  have HS1 := Lib.hid SH1
  have HS3 := Lib.hid SH3
  clear SH1 SH2 SH3 hbN hbm HB HN hm0
  have F1 : Hid (∀ w1 : World, Calls Tryd.prog 30 #[.int .u64 1] w1 (RetL 32 .u32 (dg 4294967296 1) w1)) := Lib.hid fun w1 => from_calls 1 w1 (by omega) (by omega)
  have F2 : Hid (∀ w1 : World, Calls Tryd.prog 30 #[.int .u64 mi] w1 (RetL 32 .u32 (dg 4294967296 mi) w1)) := Lib.hid fun w1 => from_calls mi w1 (by omega) (by omega)
  have W1 : IntKind.u64.wrap mi = mi := IntWalk.u64_in _ (by omega)
  go_upto_region 7 with (fail)
  go_cut [8, 9] (fun s8 s9 wx => ∃ (x y : Option Addr) (i j c d : Nat), s8 = .slice x i c ∧ s9 = .slice y j d ∧ Own w.heap.size wx 32 .u32 x i c (dg 4294967296 1) ∧ Own w.heap.size wx 32 .u32 y j d (dg 4294967296 mi) ∧ Below w.heap.size w wx)
  case first =>
    go_region_with (go_at_call 30; first | ((with_reducible refine (F1.out _).mono ?_); rintro e w1 ⟨ad1, n1, c1, rfl, o1, b1⟩) | ((with_reducible refine (F2.out _).mono ?_); rintro e w2 ⟨ad2, n2, c2, rfl, o2, b2⟩))
    all_goals
      go_wp2_with fail
      go_meet
      case rel =>
        first
          | exact ⟨_, _, _, _, _, _, rfl, rfl, o1.below b2 (Nat.le_refl _), o2.mono b1.size, below_trans (below_drew (Below.refl _ _)) (below_trans b1 b2)⟩
          | exact ⟨_, _, _, _, _, _, rfl, rfl, o1.mono b2.size, o2.below b1 (Nat.le_refl _), below_trans (below_drew (Below.refl _ _)) (below_trans b2 b1)⟩
  case rest =>
    obtain ⟨x, y, i, j, c, d, rfl, rfl, ox, oy, bw⟩ := hcut
    clear F1 F2 W1 hu2
    go_upto_if 47 with (fail)
    go_cut [1] (fun s1 wx => ∃ kk : Int, s1 = .int .i64 kk ∧ 0 ≤ kk ∧ kk ≤ 65536 ∧ Hid (1 * mi ^ kk.toNat = T) ∧ wc = wx)
    case first =>
      by_cases hm1 : mi = 1
      · have HE : Hid (1 * mi ^ (0 : Int).toNat = T) := Lib.hid (by have := HT.out; rw [← this, hm1]; simp [Int.one_pow])
        subst hm1
        go_wp2_with fail
        go_meet
        case rel => exact ⟨0, rfl, by omega, by omega, HE, rfl⟩
      · have hm2 : (mi == 1) = false := by simpa using hm1
        clear hm1
        go_wp2_with fail
        go_meet
        case rel => exact ⟨n, rfl, hn0, hn6, Lib.hid (by have := HT.out; rw [Int.one_mul]; exact this), rfl⟩
    case rest =>
      obtain ⟨k0, rfl, hk0, hk1, hT0, rfl⟩ := hcut
      clear hsh
      go_wp2_with fail
      go_loopg [1, 8, 9] k0.toNat (fun g s1 s8 s9 wr => ∃ (x y : Option Addr) (i j c d : Nat) (A S : Int) (kk : Int), s1 = .int .i64 kk ∧ s8 = .slice x i c ∧ s9 = .slice y j d ∧ 0 ≤ kk ∧ kk ≤ 65536 ∧ 0 < A ∧ 0 < S ∧
        Own w.heap.size wr 32 .u32 x i c (dg 4294967296 A) ∧ Own w.heap.size wr 32 .u32 y j d (dg 4294967296 S) ∧ Below w.heap.size w wr ∧ Hid (A * S ^ kk.toNat = T) ∧ Hid (g = kk.toNat))
      case atStart => exact ⟨_, _, _, _, _, _, 1, mi, k0, rfl, rfl, rfl, hk0, hk1, by omega, by omega, ox, oy, bw, hT0, Lib.hid rfl⟩
      case round =>
        clear ox oy bw hT0 hk0 hk1 hn0 hn6
        obtain ⟨x, y, i, j, c, d, A, S, kk, rfl, rfl, rfl, hkk0, hkk, A0, S0, ox, oy, bw, hT, hme⟩ := hrel
        obtain ⟨pA, pS⟩ := pow_part A S T kk.toNat hT.out A0 S0
        have hi : i ≤ 2048 := by rw [← ox.len]; exact dg_length_le 4294967296 (by omega) 2048 A (Int.lt_of_le_of_lt pA HS3.out)
        have hic := ox.le
        have hjd := oy.le
        have eA := val_dg 4294967296 (by omega) A (by omega)
        have eS := val_dg 4294967296 (by omega) S (by omega)
        rw [show ((4294967296 : Nat) : Int) = 4294967296 from rfl] at eA eS
        have EA := Lib.hid eA
        have ES := Lib.hid eS
        clear eA eS
        by_cases hz : kk = 0
        · subst hz
          obtain rfl : A = T := by have := hT.out; simpa using this
          have SC := shl_calls x i c (dg 4294967296 A) u wr (by omega) hic ox.rds (dg_dig 4294967296 (by omega) _) (by omega)
          rw [EA.out, HS1.out, ← HZ.out] at SC
          have HSC := Lib.hid SC
          clear SC pS hT hme
          go_wp2_with fail
          with_reducible refine (HSC.out).mono ?_
          rintro e w5 ⟨rd, rn, rc, rfl, or, b5⟩
          go_wp2_with fail
          go_ret2
          exact ⟨_, _, _, rfl, or.mono bw.size, below_trans bw b5⟩
        · have hj : j ≤ 2048 := by rw [← oy.len]; exact dg_length_le 4294967296 (by omega) 2048 S (Int.lt_of_le_of_lt (pS (by omega)) HS3.out)
          have M1 := mul_calls x y i j c d (dg 4294967296 A) (dg 4294967296 S) wr (by omega) hic hjd ox.rds oy.rds (dg_dig 4294967296 (by omega) _) (dg_dig 4294967296 (by omega) _)
          have M2 := fun (wz : World) (bz : Below wr.heap.size wr wz) => mul_calls y y j j d d (dg 4294967296 S) (dg 4294967296 S) wz (by omega) hjd hjd (oy.rds.below bz (Nat.le_refl _)) (oy.rds.below bz (Nat.le_refl _)) (dg_dig 4294967296 (by omega) _) (dg_dig 4294967296 (by omega) _)
          rw [EA.out, ES.out] at M1
          rw [ES.out] at M2
          have HM1 := Lib.hid M1
          have HM2 : ∀ wz, Below wr.heap.size wr wz → Hid _ := fun wz bz => Lib.hid (M2 wz bz)
          have hk0 : 0 < kk := by omega
          obtain ⟨k2, hk2⟩ : ∃ k2, kk / 2 = k2 := ⟨_, rfl⟩
          have HK := Lib.hid hk2
          have AN := i64_and1' kk (by omega) (by omega)
          have hss : 0 < S * S := Int.mul_pos S0 S0
          have hAS : 0 < A * S := Int.mul_pos A0 S0
          have hk2b : 0 ≤ k2 ∧ k2 ≤ 65536 := by omega
          clear M1 M2 pS hz
          by_cases hodd : kk % 2 = 1
          · rw [hodd] at AN
            have hTT := pow_round_odd A S T kk.toNat hT.out (by omega)
            rw [show kk.toNat / 2 = k2.toNat by omega] at hTT
            have HTT := Lib.hid hTT
            have HO := Lib.hid hodd
            clear hTT hodd
            by_cases hk3 : k2 = 0
            · have HK3 := Lib.hid hk3
              have hTF : Hid (A * S * S ^ (0 : Int).toNat = T) := Lib.hid (by have := HTT.out; rw [HK3.out] at this; simpa using this)
              subst hk3
              go_wp2_with fail
              with_reducible refine (HM1.out).mono ?_
              rintro e w5 ⟨rd, rn, rc, rfl, or, b5⟩
              have oy5 := oy.below b5 (Nat.le_refl _)
              go_wp2_with fail
              go_roundg (0 : Nat)
              case measure => have h1 := hme.out; omega
              case rel => exact ⟨_, _, _, _, _, _, A * S, S, 0, rfl, rfl, rfl, by omega, by omega, hAS, S0, or.mono bw.size, oy5, below_trans bw b5, hTF, Lib.hid rfl⟩
            · have hle : 0 < k2 := by omega
              clear hk3
              go_wp2_with fail
              with_reducible refine (HM1.out).mono ?_
              rintro e w5 ⟨rd, rn, rc, rfl, or, b5⟩
              have HM5 := HM2 w5 b5
              clear HM2
              go_wp2_with fail
              with_reducible refine (HM5.out).mono ?_
              rintro e w6 ⟨sd, sn, sc, rfl, os, b6⟩
              go_wp2_with fail
              go_roundg k2.toNat
              case measure => have h1 := hme.out; have h2 := HK.out; omega
              case rel => exact ⟨_, _, _, _, _, _, A * S, S * S, k2, rfl, rfl, rfl, by omega, by omega, hAS, hss, (or.mono bw.size).below b6 (Nat.le_refl _), os.mono (by have := b5.size; have := bw.size; omega), below_trans bw (below_trans b5 b6), HTT, Lib.hid rfl⟩
          · have hev : kk % 2 = 0 := by omega
            rw [hev] at AN
            have hTT := pow_round_even A S T kk.toNat hT.out (by omega)
            rw [show kk.toNat / 2 = k2.toNat by omega] at hTT
            have HTT := Lib.hid hTT
            have hle : 0 < k2 := by omega
            have HM5 := HM2 wr (Below.refl _ _)
            clear hTT hev hodd HM1 HM2
            go_wp2_with fail
            with_reducible refine (HM5.out).mono ?_
            rintro e w6 ⟨sd, sn, sc, rfl, os, b6⟩
            go_wp2_with fail
            go_roundg k2.toNat
            case measure => have h1 := hme.out; have h2 := HK.out; omega
            case rel => exact ⟨_, _, _, _, _, _, A, S * S, k2, rfl, rfl, rfl, by omega, by omega, A0, hss, ox.below b6 (Nat.le_refl _), os.mono bw.size, below_trans bw b6, HTT, Lib.hid rfl⟩

theorem pow_calls (b n : Int) (w : World) (hb : 0 ≤ b ∧ b < 4294967296) (hn : -9223372036854775808 ≤ n ∧ n < 9223372036854775808) (hT : Tab32 w) :
    Calls Tryd.prog 16 #[.int .u32 b, .int .i64 n] w (RetLB 32 .u32 (dg 4294967296 (powNum b n)) (powOk b n) w) := by
  by_cases hok : powOk b n = true
  · unfold powNum
    rw [if_pos hok, hok]
    have h := of_decide_eq_true hok
    by_cases h2 : b < 2
    · exact pow_small b n w ⟨hb.1, h2⟩ ⟨h.1, hn.2⟩
    · exact pow_great b n w (by omega) h.1 (by rcases h.2 with h3 | h3
                                               · exact absurd h3 h2
                                               · exact h3) hT
  · have hok : powOk b n = false := by simpa using hok
    unfold powNum
    rw [hok, if_neg (by simp)]
    exact pow_none b n w hb hn hok
end Go.Proofs.YtgnophflogmmaaaDoor
