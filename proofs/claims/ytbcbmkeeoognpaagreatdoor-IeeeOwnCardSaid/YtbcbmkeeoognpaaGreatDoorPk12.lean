/- Contracts of functions, and plain facts, part 12. -/
import Derived.OneCell
import Derived.OwnWalk
import Derived.Test.YtbcbmkeeoognpaaGreatDoorProg
import Derived.BigRegion
import Derived.Test.YtbcbmkeeoognpaaGreatDoorPk2
import Derived.Test.YtbcbmkeeoognpaaGreatDoorPk4
import Derived.Test.YtbcbmkeeoognpaaGreatDoorPk9
set_option linter.unusedVariables false
set_option linter.unusedSimpArgs false
/- A slice of the call's own that is appended to: what else stays as it was. -/
namespace Go.Proofs.YtbcbmkeeoognpaaGreatDoor
open Go.RowKit

/-- The block that an address lies in. -/
def blkOf (ad : Option Addr) : Option Nat := ad.map (·.block)
theorem ownBlock_slice (ad : Option Addr) (n c : Nat) : (Value.slice ad n c).ownBlock = blkOf ad := by cases ad <;> rfl

theorem App.kept {B : Nat} {w w1 : World} {e : TypeId} {k : IntKind} {ad : Option Addr} {n c : Nat} {xs : List Int} (h : App B w e k ad n c xs) (hk : ∀ b, blkOf ad = some b → w1.heap[b]? = w.heap[b]?) : App B w1 e k ad n c xs := by
  refine ⟨h.1, ?_⟩
  rcases h.2 with h2 | ⟨g, cap, cur, h1, h2, h3, h4⟩
  · exact .inl h2
  · injection h1 with h1 _ _
    subst h1
    exact .inr ⟨g, cap, cur, by rename_i h5 h6; subst h6; rfl, h2, by rw [hk g rfl]; exact h3, h4⟩
theorem App.lt {B : Nat} {w : World} {e : TypeId} {k : IntKind} {ad : Option Addr} {n c : Nat} {xs : List Int} (h : App B w e k ad n c xs) (b : Nat) (hb : blkOf ad = some b) : B ≤ b ∧ b < w.heap.size :=
  World.ownsRow.lt h b (by rw [ownBlock_slice]; exact hb)
theorem Rds.kept {w w1 : World} {k : IntKind} {ad : Option Addr} {n : Nat} {xs : List Int} (h : Rds w k ad n xs) (hk : 0 < n → ∀ b, blkOf ad = some b → w1.heap[b]? = w.heap[b]?) : Rds w1 k ad n xs :=
  ⟨h.len, fun j hj => by
    obtain ⟨a, rfl, hc⟩ := h.cell j hj
    refine ⟨a, rfl, ?_⟩
    rw [← hc]
    have e2 : (a.add j).block = a.block := by unfold Addr.add; split <;> rfl
    simp only [World.cell?, e2, hk (by omega) a.block rfl]⟩

section
variable {P : Program} {ops : Array Oper} {rest : List Oper} {o : Oper} {a : Act} {Q : Exit → Act → World → Prop}
end
end Go.Proofs.YtbcbmkeeoognpaaGreatDoor


/- quot.below: a multiple is taken off a row. -/
namespace Go.Proofs.YtbcbmkeeoognpaaGreatDoor
open Go.RowKit

end Go.Proofs.YtbcbmkeeoognpaaGreatDoor


/- quot.back: a number is put upon a row again. -/
namespace Go.Proofs.YtbcbmkeeoognpaaGreatDoor
open Go.RowKit

end Go.Proofs.YtbcbmkeeoognpaaGreatDoor


/- Long division: what holds between two digits. -/
namespace Go.Proofs.YtbcbmkeeoognpaaGreatDoor

/-- The digits from place j on are found: q holds them, X what is left. -/
structure LongI (B V Y : Int) (n L : Nat) (X q : List Int) (j : Nat) : Prop where
  lx : X.length = L
  lq : q.length = L - n
  dx : Dig B X
  dq : Dig B q
  sum : val B X + val B q * Y = V
  lt : val B (X.drop j) < Y
  zero : ∀ i, i < j → q[i]?.getD 0 = 0

variable {B V Y : Int} {n L j : Nat} {X q ys : List Int}

/-- The window's worth: all that stands from place j on, below B times the divisor; nothing above it. -/
theorem LongI.window (h : LongI B V Y n L X q (j + 1)) (hB : 2 ≤ B) (hj : j + n + 1 ≤ L) (hY : Y < B ^ n) :
    val B (X.drop j) = val B ((X.drop j).take (n + 1)) ∧ val B (X.drop (j + n + 1)) = 0 ∧ val B ((X.drop j).take (n + 1)) < B * Y ∧ 0 ≤ val B ((X.drop j).take (n + 1)) := by
  have lx := h.lx
  have e1 := val_drop B X j (by omega)
  have e2 := val_split B (X.drop j) (n + 1) (by rw [List.length_drop]; omega)
  rw [List.drop_drop, ← Nat.add_assoc] at e2
  have d1 := h.dx.get (by omega) j
  have z1 := val_nonneg (by omega) ((h.dx.drop j).take (n + 1))
  have z2 := val_nonneg (by omega) (h.dx.drop (j + n + 1))
  have hl := h.lt
  have k1 : val B (X.drop j) < B * Y := by
    have : B * (val B (X.drop (j + 1)) + 1) ≤ B * Y := Int.mul_le_mul_of_nonneg_left (by omega) (by omega)
    rw [Int.mul_add, Int.mul_one] at this
    omega
  have k2 : B * Y < B ^ (n + 1) := by
    rw [Int.pow_succ, Int.mul_comm]
    exact Int.mul_lt_mul_of_pos_right hY (by omega)
  have hp : 0 < B ^ (n + 1) := Int.pow_pos (by omega)
  have k3 : val B (X.drop (j + n + 1)) = 0 := by
    rcases Int.lt_or_eq_of_le z2 with h1 | h1
    · exfalso
      have : B ^ (n + 1) * 1 ≤ B ^ (n + 1) * val B (X.drop (j + n + 1)) := Int.mul_le_mul_of_nonneg_left (by omega) (by omega)
      omega
    · exact h1.symm
  rw [k3, Int.mul_zero, Int.add_zero] at e2
  exact ⟨e2, k3, by omega, z1⟩

/-- A digit is found. -/
theorem LongI.step (h : LongI B V Y n L X q (j + 1)) (hB : 2 ≤ B) (hj : j + n + 1 ≤ L) (hY : 0 < Y ∧ Y < B ^ n) (g : Int) (hg : g = val B ((X.drop j).take (n + 1)) / Y) (hgb : 0 ≤ g ∧ g < B) (X1 : List Int) (l1 : X1.length = n + 1) (d1 : Dig B X1)
    (v1 : val B X1 = val B ((X.drop j).take (n + 1)) % Y) : LongI B V Y n L (putAt X j X1) (q.set j g) j := by
  have lx := h.lx
  have lq := h.lq
  obtain ⟨w1, w2, w3, w4⟩ := h.window hB hj hY.2
  have hm := Int.emod_add_mul_ediv (val B ((X.drop j).take (n + 1))) Y
  have hr := Int.emod_lt_of_pos (val B ((X.drop j).take (n + 1))) hY.1
  refine ⟨by rw [putAt_length _ _ _ (by omega)]; exact lx, by rw [List.length_set]; exact lq, putAt_dig h.dx d1 j, h.dq.set hgb.1 hgb.2 j, ?_, ?_, fun i hi => ?_⟩
  · rw [putAt_val B X j (n + 1) X1 l1 (by omega), val_set B q j g (by omega), h.zero j (by omega), v1]
    have hs := h.sum
    rw [← hg] at hm
    generalize val B ((X.drop j).take (n + 1)) = W at *
    generalize W % Y = r at *
    generalize val B X = A at *
    generalize val B q = Q at *
    generalize B ^ j = P at *
    subst hs
    have : W = r + Y * g := hm.symm
    subst this
    grind
  · have e : (putAt X j X1).drop j = X1 ++ X.drop (j + X1.length) := by
      unfold putAt
      rw [List.drop_append_of_le_length (by rw [List.length_take]; omega), List.drop_of_length_le (by rw [List.length_take]; omega), List.nil_append]
    rw [e, val_append, l1, ← Nat.add_assoc, w2, Int.mul_zero, Int.add_zero, v1]
    exact hr
  · rw [List.getElem?_set_ne (by omega)]
    exact h.zero i (by omega)

theorem LongI.skip (h : LongI B V Y n L X q (j + 1)) (hB : 2 ≤ B) (hj : j + n + 1 ≤ L) (hY : 0 < Y ∧ Y < B ^ n) (hg : val B ((X.drop j).take (n + 1)) / Y ≤ 0) : LongI B V Y n L X q j := by
  obtain ⟨w1, w2, w3, w4⟩ := h.window hB hj hY.2
  have hm := Int.emod_add_mul_ediv (val B ((X.drop j).take (n + 1))) Y
  have hr := Int.emod_lt_of_pos (val B ((X.drop j).take (n + 1))) hY.1
  have h0 : 0 ≤ val B ((X.drop j).take (n + 1)) / Y := Int.ediv_nonneg w4 (by omega)
  have e : val B ((X.drop j).take (n + 1)) / Y = 0 := by omega
  rw [e, Int.mul_zero, Int.add_zero] at hm
  refine ⟨h.lx, h.lq, h.dx, h.dq, h.sum, by omega, fun i hi => h.zero i (by omega)⟩

theorem LongI.done (h : LongI B V Y n L X q 0) (hB : 2 ≤ B) (hY : 0 < Y) : val B q = V / Y ∧ val B X = V % Y := by
  have h1 := h.sum
  have h2 := h.lt
  rw [List.drop_zero] at h2
  have h3 := val_nonneg (show 0 < B by omega) h.dx
  have e1 : V / Y = val B q := by
    rw [← h1, Int.add_mul_ediv_right _ _ (by omega), Int.ediv_eq_zero_of_lt h3 h2, Int.zero_add]
  have e2 : V % Y = val B X := by
    rw [← h1, Int.add_mul_emod_self_right, Int.emod_eq_of_lt h3 h2]
  exact ⟨e1.symm, e2.symm⟩

theorem LongI.start (hB : 2 ≤ B) (hn : n < L) (lx : X.length = L) (dx : Dig B X) (hV : val B X = V) (hlt : val B (X.drop (L - n)) < Y) : LongI B V Y n L X (List.replicate (L - n) 0) (L - n) :=
  ⟨lx, by simp, dx, Dig.replicate _ (by omega) _, by rw [val_replicate, Int.zero_mul, Int.add_zero]; exact hV, hlt, fun i hi => by simp [List.getElem?_replicate]; split <;> rfl⟩
end Go.Proofs.YtbcbmkeeoognpaaGreatDoor


/- slices.Reverse of bytes. -/
namespace Go.Proofs.YtbcbmkeeoognpaaGreatDoor
open Go.RowKit

end Go.Proofs.YtbcbmkeeoognpaaGreatDoor

