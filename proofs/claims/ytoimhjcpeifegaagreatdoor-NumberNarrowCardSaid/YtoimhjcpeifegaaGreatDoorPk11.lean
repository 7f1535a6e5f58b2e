/- Contracts of functions, and plain facts, part 11. -/
import Derived.Deep.RegionHeld3
import Derived.Test.YtoimhjcpeifegaaGreatDoorCards
import Derived.Lib.LaidTab
import Derived.Test.YtoimhjcpeifegaaGreatDoorPk4
import Derived.Test.YtoimhjcpeifegaaGreatDoorPk5
import Derived.Test.YtoimhjcpeifegaaGreatDoorPk7
import Derived.Test.YtoimhjcpeifegaaGreatDoorPk10
set_option linter.unusedVariables false
set_option linter.unusedSimpArgs false
/- Printed by ieee.py. -/
namespace Go.Proofs.YtoimhjcpeifegaaGreatDoor
open Go.RowKit

theorem shsign_16 (w : World) : Calls Tryz.prog 120 #[.agg #[.int .i64 10, .int .i64 (-24), .int .i64 5]] w (fun e w' => e = .returned (.int .u64 32768) ∧ Below w.heap.size w w') := by
  have b0 : Below w.heap.size w (w.alloc (.cells #[.int .i64 10, .int .i64 (-24), .int .i64 5] 95)) := (Below.refl _ _).alloc (Nat.le_refl _) _
  go_enter Tryz.func120, Tryz.ntmps120
  go_wp2
  go_ret
  exact ⟨rfl, b0⟩

theorem shinf_16 (w : World) : Calls Tryz.prog 61 #[.agg #[.int .i64 10, .int .i64 (-24), .int .i64 5]] w (fun e w' => e = .returned (.int .u64 31744) ∧ Below w.heap.size w w') := by
  have b0 : Below w.heap.size w (w.alloc (.cells #[.int .i64 10, .int .i64 (-24), .int .i64 5] 95)) := (Below.refl _ _).alloc (Nat.le_refl _) _
  go_enter Tryz.func61, Tryz.ntmps61
  go_wp2_with fail
  have c0 : (w.alloc (.cells #[.int .i64 10, .int .i64 (-24), .int .i64 5] 95)).cell? ⟨w.heap.size, 0, none⟩ = some (.int .i64 10) := World.cell?_alloc_at _ _ _ _ rfl
  have c1 : (w.alloc (.cells #[.int .i64 10, .int .i64 (-24), .int .i64 5] 95)).cell? ⟨w.heap.size, 1, none⟩ = some (.int .i64 (-24)) := World.cell?_alloc_at _ _ _ _ rfl
  have c2 : (w.alloc (.cells #[.int .i64 10, .int .i64 (-24), .int .i64 5] 95)).cell? ⟨w.heap.size, 2, none⟩ = some (.int .i64 5) := World.cell?_alloc_at _ _ _ _ rfl
  generalize w.alloc (.cells #[.int .i64 10, .int .i64 (-24), .int .i64 5] 95) = w1 at *
  have bd : Below w1.heap.size w1 w1.drew := below_drew (Below.refl _ _)
  go_region_held3 (fun w' => w'.cell? ⟨w.heap.size, 0, none⟩ = some (.int .i64 10) ∧ w'.cell? ⟨w.heap.size, 1, none⟩ = some (.int .i64 (-24)) ∧ w'.cell? ⟨w.heap.size, 2, none⟩ = some (.int .i64 5) ∧ Below w1.heap.size w1 w') (go_keep)
    (first
      | (go_at_call 120
         refine (shsign_16 _).mono ?_
         rintro e w2 ⟨rfl, hb⟩
         have d0 := below_cell hb (Nat.le_refl _) c0
         have d1 := below_cell hb (Nat.le_refl _) c1
         have d2 := below_cell hb (Nat.le_refl _) c2
         have bb : Below w1.heap.size w1 w2 := below_then bd (Nat.le_refl _) hb))
  go_wp2
  go_ret
  exact ⟨by first | rfl | simp, below_trans b0 (by assumption)⟩

theorem shnan_16 (w : World) : Calls Tryz.prog 58 #[.agg #[.int .i64 10, .int .i64 (-24), .int .i64 5]] w (fun e w' => e = .returned (.int .u64 32256) ∧ Below w.heap.size w w') := by
  have b0 : Below w.heap.size w (w.alloc (.cells #[.int .i64 10, .int .i64 (-24), .int .i64 5] 95)) := (Below.refl _ _).alloc (Nat.le_refl _) _
  have hw : IntKind.i64.wrap 9 = 9 := by decide
  go_enter Tryz.func58, Tryz.ntmps58
  go_wp2_with fail
  have c0 : (w.alloc (.cells #[.int .i64 10, .int .i64 (-24), .int .i64 5] 95)).cell? ⟨w.heap.size, 0, none⟩ = some (.int .i64 10) := World.cell?_alloc_at _ _ _ _ rfl
  have c1 : (w.alloc (.cells #[.int .i64 10, .int .i64 (-24), .int .i64 5] 95)).cell? ⟨w.heap.size, 1, none⟩ = some (.int .i64 (-24)) := World.cell?_alloc_at _ _ _ _ rfl
  have c2 : (w.alloc (.cells #[.int .i64 10, .int .i64 (-24), .int .i64 5] 95)).cell? ⟨w.heap.size, 2, none⟩ = some (.int .i64 5) := World.cell?_alloc_at _ _ _ _ rfl
  generalize w.alloc (.cells #[.int .i64 10, .int .i64 (-24), .int .i64 5] 95) = w1 at *
  have bd : Below w1.heap.size w1 w1.drew := below_drew (Below.refl _ _)
  go_region_held3 (fun w' => w'.cell? ⟨w.heap.size, 0, none⟩ = some (.int .i64 10) ∧ w'.cell? ⟨w.heap.size, 1, none⟩ = some (.int .i64 (-24)) ∧ w'.cell? ⟨w.heap.size, 2, none⟩ = some (.int .i64 5) ∧ Below w1.heap.size w1 w') (go_keep)
    (first
      | (go_at_call 61
         refine (shinf_16 _).mono ?_
         rintro e w2 ⟨rfl, hb⟩
         have d0 := below_cell hb (Nat.le_refl _) c0
         have d1 := below_cell hb (Nat.le_refl _) c1
         have d2 := below_cell hb (Nat.le_refl _) c2
         have bb : Below w1.heap.size w1 w2 := below_then bd (Nat.le_refl _) hb))
  go_wp2
  go_ret
  exact ⟨by first | rfl | simp, below_trans b0 (by assumption)⟩

theorem shsign_32 (w : World) : Calls Tryz.prog 120 #[.agg #[.int .i64 23, .int .i64 (-149), .int .i64 8]] w (fun e w' => e = .returned (.int .u64 2147483648) ∧ Below w.heap.size w w') := by
  have b0 : Below w.heap.size w (w.alloc (.cells #[.int .i64 23, .int .i64 (-149), .int .i64 8] 95)) := (Below.refl _ _).alloc (Nat.le_refl _) _
  go_enter Tryz.func120, Tryz.ntmps120
  go_wp2
  go_ret
  exact ⟨rfl, b0⟩

theorem shinf_32 (w : World) : Calls Tryz.prog 61 #[.agg #[.int .i64 23, .int .i64 (-149), .int .i64 8]] w (fun e w' => e = .returned (.int .u64 2139095040) ∧ Below w.heap.size w w') := by
  have b0 : Below w.heap.size w (w.alloc (.cells #[.int .i64 23, .int .i64 (-149), .int .i64 8] 95)) := (Below.refl _ _).alloc (Nat.le_refl _) _
  go_enter Tryz.func61, Tryz.ntmps61
  go_wp2_with fail
  have c0 : (w.alloc (.cells #[.int .i64 23, .int .i64 (-149), .int .i64 8] 95)).cell? ⟨w.heap.size, 0, none⟩ = some (.int .i64 23) := World.cell?_alloc_at _ _ _ _ rfl
  have c1 : (w.alloc (.cells #[.int .i64 23, .int .i64 (-149), .int .i64 8] 95)).cell? ⟨w.heap.size, 1, none⟩ = some (.int .i64 (-149)) := World.cell?_alloc_at _ _ _ _ rfl
  have c2 : (w.alloc (.cells #[.int .i64 23, .int .i64 (-149), .int .i64 8] 95)).cell? ⟨w.heap.size, 2, none⟩ = some (.int .i64 8) := World.cell?_alloc_at _ _ _ _ rfl
  generalize w.alloc (.cells #[.int .i64 23, .int .i64 (-149), .int .i64 8] 95) = w1 at *
  have bd : Below w1.heap.size w1 w1.drew := below_drew (Below.refl _ _)
  go_region_held3 (fun w' => w'.cell? ⟨w.heap.size, 0, none⟩ = some (.int .i64 23) ∧ w'.cell? ⟨w.heap.size, 1, none⟩ = some (.int .i64 (-149)) ∧ w'.cell? ⟨w.heap.size, 2, none⟩ = some (.int .i64 8) ∧ Below w1.heap.size w1 w') (go_keep)
    (first
      | (go_at_call 120
         refine (shsign_32 _).mono ?_
         rintro e w2 ⟨rfl, hb⟩
         have d0 := below_cell hb (Nat.le_refl _) c0
         have d1 := below_cell hb (Nat.le_refl _) c1
         have d2 := below_cell hb (Nat.le_refl _) c2
         have bb : Below w1.heap.size w1 w2 := below_then bd (Nat.le_refl _) hb))
  go_wp2
  go_ret
  exact ⟨by first | rfl | simp, below_trans b0 (by assumption)⟩

theorem shnan_32 (w : World) : Calls Tryz.prog 58 #[.agg #[.int .i64 23, .int .i64 (-149), .int .i64 8]] w (fun e w' => e = .returned (.int .u64 2143289344) ∧ Below w.heap.size w w') := by
  have b0 : Below w.heap.size w (w.alloc (.cells #[.int .i64 23, .int .i64 (-149), .int .i64 8] 95)) := (Below.refl _ _).alloc (Nat.le_refl _) _
  have hw : IntKind.i64.wrap 22 = 22 := by decide
  go_enter Tryz.func58, Tryz.ntmps58
  go_wp2_with fail
  have c0 : (w.alloc (.cells #[.int .i64 23, .int .i64 (-149), .int .i64 8] 95)).cell? ⟨w.heap.size, 0, none⟩ = some (.int .i64 23) := World.cell?_alloc_at _ _ _ _ rfl
  have c1 : (w.alloc (.cells #[.int .i64 23, .int .i64 (-149), .int .i64 8] 95)).cell? ⟨w.heap.size, 1, none⟩ = some (.int .i64 (-149)) := World.cell?_alloc_at _ _ _ _ rfl
  have c2 : (w.alloc (.cells #[.int .i64 23, .int .i64 (-149), .int .i64 8] 95)).cell? ⟨w.heap.size, 2, none⟩ = some (.int .i64 8) := World.cell?_alloc_at _ _ _ _ rfl
  generalize w.alloc (.cells #[.int .i64 23, .int .i64 (-149), .int .i64 8] 95) = w1 at *
  have bd : Below w1.heap.size w1 w1.drew := below_drew (Below.refl _ _)
  go_region_held3 (fun w' => w'.cell? ⟨w.heap.size, 0, none⟩ = some (.int .i64 23) ∧ w'.cell? ⟨w.heap.size, 1, none⟩ = some (.int .i64 (-149)) ∧ w'.cell? ⟨w.heap.size, 2, none⟩ = some (.int .i64 8) ∧ Below w1.heap.size w1 w') (go_keep)
    (first
      | (go_at_call 61
         refine (shinf_32 _).mono ?_
         rintro e w2 ⟨rfl, hb⟩
         have d0 := below_cell hb (Nat.le_refl _) c0
         have d1 := below_cell hb (Nat.le_refl _) c1
         have d2 := below_cell hb (Nat.le_refl _) c2
         have bb : Below w1.heap.size w1 w2 := below_then bd (Nat.le_refl _) hb))
  go_wp2
  go_ret
  exact ⟨by first | rfl | simp, below_trans b0 (by assumption)⟩

theorem shsign_64 (w : World) : Calls Tryz.prog 120 #[.agg #[.int .i64 52, .int .i64 (-1074), .int .i64 11]] w (fun e w' => e = .returned (.int .u64 9223372036854775808) ∧ Below w.heap.size w w') := by
  have b0 : Below w.heap.size w (w.alloc (.cells #[.int .i64 52, .int .i64 (-1074), .int .i64 11] 95)) := (Below.refl _ _).alloc (Nat.le_refl _) _
  go_enter Tryz.func120, Tryz.ntmps120
  go_wp2
  go_ret
  exact ⟨rfl, b0⟩

theorem shinf_64 (w : World) : Calls Tryz.prog 61 #[.agg #[.int .i64 52, .int .i64 (-1074), .int .i64 11]] w (fun e w' => e = .returned (.int .u64 9218868437227405312) ∧ Below w.heap.size w w') := by
  have b0 : Below w.heap.size w (w.alloc (.cells #[.int .i64 52, .int .i64 (-1074), .int .i64 11] 95)) := (Below.refl _ _).alloc (Nat.le_refl _) _
  go_enter Tryz.func61, Tryz.ntmps61
  go_wp2_with fail
  have c0 : (w.alloc (.cells #[.int .i64 52, .int .i64 (-1074), .int .i64 11] 95)).cell? ⟨w.heap.size, 0, none⟩ = some (.int .i64 52) := World.cell?_alloc_at _ _ _ _ rfl
  have c1 : (w.alloc (.cells #[.int .i64 52, .int .i64 (-1074), .int .i64 11] 95)).cell? ⟨w.heap.size, 1, none⟩ = some (.int .i64 (-1074)) := World.cell?_alloc_at _ _ _ _ rfl
  have c2 : (w.alloc (.cells #[.int .i64 52, .int .i64 (-1074), .int .i64 11] 95)).cell? ⟨w.heap.size, 2, none⟩ = some (.int .i64 11) := World.cell?_alloc_at _ _ _ _ rfl
  generalize w.alloc (.cells #[.int .i64 52, .int .i64 (-1074), .int .i64 11] 95) = w1 at *
  have bd : Below w1.heap.size w1 w1.drew := below_drew (Below.refl _ _)
  go_region_held3 (fun w' => w'.cell? ⟨w.heap.size, 0, none⟩ = some (.int .i64 52) ∧ w'.cell? ⟨w.heap.size, 1, none⟩ = some (.int .i64 (-1074)) ∧ w'.cell? ⟨w.heap.size, 2, none⟩ = some (.int .i64 11) ∧ Below w1.heap.size w1 w') (go_keep)
    (first
      | (go_at_call 120
         refine (shsign_64 _).mono ?_
         rintro e w2 ⟨rfl, hb⟩
         have d0 := below_cell hb (Nat.le_refl _) c0
         have d1 := below_cell hb (Nat.le_refl _) c1
         have d2 := below_cell hb (Nat.le_refl _) c2
         have bb : Below w1.heap.size w1 w2 := below_then bd (Nat.le_refl _) hb))
  go_wp2
  go_ret
  exact ⟨by first | rfl | simp, below_trans b0 (by assumption)⟩

theorem shnan_64 (w : World) : Calls Tryz.prog 58 #[.agg #[.int .i64 52, .int .i64 (-1074), .int .i64 11]] w (fun e w' => e = .returned (.int .u64 9221120237041090560) ∧ Below w.heap.size w w') := by
  have b0 : Below w.heap.size w (w.alloc (.cells #[.int .i64 52, .int .i64 (-1074), .int .i64 11] 95)) := (Below.refl _ _).alloc (Nat.le_refl _) _
  have hw : IntKind.i64.wrap 51 = 51 := by decide
  go_enter Tryz.func58, Tryz.ntmps58
  go_wp2_with fail
  have c0 : (w.alloc (.cells #[.int .i64 52, .int .i64 (-1074), .int .i64 11] 95)).cell? ⟨w.heap.size, 0, none⟩ = some (.int .i64 52) := World.cell?_alloc_at _ _ _ _ rfl
  have c1 : (w.alloc (.cells #[.int .i64 52, .int .i64 (-1074), .int .i64 11] 95)).cell? ⟨w.heap.size, 1, none⟩ = some (.int .i64 (-1074)) := World.cell?_alloc_at _ _ _ _ rfl
  have c2 : (w.alloc (.cells #[.int .i64 52, .int .i64 (-1074), .int .i64 11] 95)).cell? ⟨w.heap.size, 2, none⟩ = some (.int .i64 11) := World.cell?_alloc_at _ _ _ _ rfl
  generalize w.alloc (.cells #[.int .i64 52, .int .i64 (-1074), .int .i64 11] 95) = w1 at *
  have bd : Below w1.heap.size w1 w1.drew := below_drew (Below.refl _ _)
  go_region_held3 (fun w' => w'.cell? ⟨w.heap.size, 0, none⟩ = some (.int .i64 52) ∧ w'.cell? ⟨w.heap.size, 1, none⟩ = some (.int .i64 (-1074)) ∧ w'.cell? ⟨w.heap.size, 2, none⟩ = some (.int .i64 11) ∧ Below w1.heap.size w1 w') (go_keep)
    (first
      | (go_at_call 61
         refine (shinf_64 _).mono ?_
         rintro e w2 ⟨rfl, hb⟩
         have d0 := below_cell hb (Nat.le_refl _) c0
         have d1 := below_cell hb (Nat.le_refl _) c1
         have d2 := below_cell hb (Nat.le_refl _) c2
         have bb : Below w1.heap.size w1 w2 := below_then bd (Nat.le_refl _) hb))
  go_wp2
  go_ret
  exact ⟨by first | rfl | simp, below_trans b0 (by assumption)⟩
end Go.Proofs.YtoimhjcpeifegaaGreatDoor


/- The program's way to the nearest pattern: plain facts over whole numbers. -/
namespace Go.Proofs.YtoimhjcpeifegaaGreatDoor

theorem bitsOf_ge {M : Int} (hM : 0 < M) : 0 < bitsOf M ∧ 2 ^ (bitsOf M - 1).toNat ≤ M.toNat ∧ M.toNat < 2 ^ (bitsOf M).toNat := by
  have h0 : M.toNat ≠ 0 := by omega
  have h1 := blen_ge M.toNat h0
  have h2 := blen_lt M.toNat
  have h3 := blen_pos M.toNat h0
  unfold bitsOf
  refine ⟨by omega, ?_, ?_⟩
  · rw [show ((blen M.toNat : Int) - 1).toNat = blen M.toNat - 1 by omega]; exact h1
  · rw [Int.toNat_natCast]; exact h2

theorem prog_inf {W : Nat} (hW : Wide W) (M p last : Int) (hM : 0 < M) (h1 : last = bitsOf M - shF W - 1 + p) (h2 : 2 ^ shE W - 2 ≤ last - shL W) : nearE W M.toNat p = infN W := by
  obtain ⟨b0, b1, b2⟩ := bitsOf_ge hM
  refine nearE_inf hW _ _ p b1 ?_
  have h3 : (topP W : Int) = shF W + 2 ^ shE W - 2 := by rcases hW with rfl | rfl | rfl <;> decide
  omega

theorem prog_zero {W : Nat} (hW : Wide W) (V p : Int) (more : Bool) (hV : 0 ≤ V) (h : p < -3000 - bitsOf V) : nearE W (rM V more) (rE p more) = 0 := by
  have h1 := blen_lt V.toNat
  have h2 : rM V more < 2 ^ (blen V.toNat + 1) := by
    unfold rM
    rw [Nat.pow_succ]
    split <;> omega
  refine nearE_small hW _ _ _ h2 ?_
  have h3 : rE p more ≤ p := by unfold rE; split <;> omega
  have h4 : -1074 ≤ shL W := by rcases hW with rfl | rfl | rfl <;> decide
  unfold bitsOf at h
  omega

theorem prog_big {W : Nat} (hW : Wide W) (V p : Int) (more : Bool) (hV : 0 ≤ V) (h : ¬ (V = 0 ∧ more = false)) (hp : 2000 < p) : nearE W (rM V more) (rE p more) = infN W := by
  refine nearE_inf hW _ 0 _ ?_ ?_
  · rw [Nat.pow_zero]
    unfold rM
    cases more
    · have : V ≠ 0 := fun e => h ⟨e, rfl⟩
      simp
      omega
    · simp
  · have h1 : 2000 ≤ rE p more := by unfold rE; split <;> omega
    have h2 : (topP W : Int) + shL W ≤ 1100 := by rcases hW with rfl | rfl | rfl <;> decide
    omega

theorem bitsOf_double (V : Int) (hV : 0 ≤ V) : bitsOf (V + V + 1) = bitsOf V + 1 := by
  unfold bitsOf
  rw [blen_half (V + V + 1).toNat (by omega), show (V + V + 1).toNat / 2 = V.toNat by omega]
  omega

theorem pow_cast (k : Nat) : ((2 ^ k : Nat) : Int) = 2 ^ k := by simp

theorem prog_exact {W : Nat} (hW : Wide W) (M p N last d : Int) (hM : 0 < M) (hN : N = bitsOf M) (hl : N - shF W - 1 + p ≤ last) (h2 : d = last - shL W) (h0 : 0 ≤ d) (h3 : d < 2 ^ shE W - 2) (hor : d = 0 ∨ last = N - shF W - 1 + p) (hlp : last ≤ p) :
    (nearE W M.toNat p : Int) = d * 2 ^ shF W + M * 2 ^ (p - last).toNat ∧ M < 2 ^ (shF W + 1) ∧ M * 2 ^ (p - last).toNat < 2 ^ (shF W + 1) ∧ (d = 0 ∨ 2 ^ shF W ≤ M * 2 ^ (p - last).toNat) := by
  obtain ⟨b0, b1, b2⟩ := bitsOf_ge hM
  rw [← hN] at b0 b1 b2
  obtain ⟨m, rfl⟩ := Int.eq_ofNat_of_zero_le (Int.le_of_lt hM)
  obtain ⟨d, rfl⟩ := Int.eq_ofNat_of_zero_le h0
  rw [Int.toNat_natCast] at *
  obtain ⟨t, ht⟩ : ∃ t : Nat, p - last = t := ⟨(p - last).toNat, by omega⟩
  rw [ht, Int.toNat_natCast]
  have k1 : m * 2 ^ t < 2 ^ (shF W + 1) := by
    have h5 : 2 ^ N.toNat * 2 ^ t ≤ 2 ^ (shF W + 1) := by
      rw [← Nat.pow_add]
      exact Nat.pow_le_pow_right (by omega) (by omega)
    exact Nat.lt_of_lt_of_le (Nat.mul_lt_mul_of_pos_right b2 (Nat.two_pow_pos t)) h5
  have k2 : d = 0 ∨ 2 ^ shF W ≤ m * 2 ^ t := by
    rcases hor with h | h
    · left; omega
    · right
      refine Nat.le_trans ?_ (Nat.mul_le_mul_right _ b1)
      rw [← Nat.pow_add]
      exact Nat.pow_le_pow_right (by omega) (by omega)
  have k3 : d + 2 < 2 ^ shE W := by
    have : ((2 ^ shE W : Nat) : Int) = 2 ^ shE W := pow_cast _
    omega
  have k4 := nearE_exact hW m d t p (by omega) k2 k1 k3
  have k5 : m < 2 ^ (shF W + 1) := by
    have : m * 1 ≤ m * 2 ^ t := Nat.mul_le_mul_left m (Nat.one_le_two_pow)
    omega
  have c1 : ((m * 2 ^ t : Nat) : Int) = (m : Int) * 2 ^ t := by simp
  have c2 := pow_cast (shF W + 1)
  have c3 := pow_cast (shF W)
  refine ⟨by rw [k4]; simp, by omega, by omega, ?_⟩
  rcases k2 with h | h
  · left; omega
  · right; omega

theorem prog_cut {W : Nat} (hW : Wide W) (M p N last d q : Int) (hM : 0 < M) (hN : N = bitsOf M) (hl : N - shF W - 1 + p ≤ last) (h2 : d = last - shL W) (h0 : 0 ≤ d) (h3 : d < 2 ^ shE W - 2) (hor : d = 0 ∨ last = N - shF W - 1 + p) (hlp : p < last)
    (hq : q = M / 2 ^ (last - p - 1).toNat) (rest : Bool) (hr : rest = decide (M % 2 ^ (last - p - 1).toNat ≠ 0)) :
    (nearE W M.toNat p : Int) = d * 2 ^ shF W + (if q % 2 = 1 ∧ (rest = true ∨ q / 2 % 2 = 1) then q / 2 + 1 else q / 2) ∧ 0 ≤ q ∧ q < 2 ^ (shF W + 2) ∧ (d = 0 ∨ 2 ^ shF W ≤ q / 2) := by
  obtain ⟨b0, b1, b2⟩ := bitsOf_ge hM
  rw [← hN] at b0 b1 b2
  obtain ⟨m, rfl⟩ := Int.eq_ofNat_of_zero_le (Int.le_of_lt hM)
  obtain ⟨d, rfl⟩ := Int.eq_ofNat_of_zero_le h0
  rw [Int.toNat_natCast] at *
  obtain ⟨s, hs⟩ : ∃ s : Nat, last - p - 1 = s := ⟨(last - p - 1).toNat, by omega⟩
  rw [hs, Int.toNat_natCast] at hq hr
  have hq2 : q = ((m / 2 ^ s : Nat) : Int) := by rw [hq]; simp
  subst hq2
  clear hq
  have k1 : m / 2 ^ (s + 1) < 2 ^ (shF W + 1) := by
    rw [Nat.div_lt_iff_lt_mul (Nat.two_pow_pos _), ← Nat.pow_add]
    exact Nat.lt_of_lt_of_le b2 (Nat.pow_le_pow_right (by omega) (by omega))
  have k2 : d = 0 ∨ 2 ^ shF W ≤ m / 2 ^ (s + 1) := by
    rcases hor with h | h
    · left; omega
    · right
      rw [Nat.le_div_iff_mul_le (Nat.two_pow_pos _), ← Nat.pow_add]
      exact Nat.le_trans (Nat.pow_le_pow_right (by omega) (by omega)) b1
  have k3 : d + 2 < 2 ^ shE W := by
    have : ((2 ^ shE W : Nat) : Int) = 2 ^ shE W := pow_cast _
    omega
  have k4 := nearE_cut hW m d (s + 1) p (by omega) k2 k1 k3
  rw [rounded_prog m s _ rfl] at k4
  have e2 : m / 2 ^ (s + 1) = m / 2 ^ s / 2 := by rw [Nat.pow_succ, ← Nat.div_div_eq_div_mul]
  rw [e2] at k1 k2
  have c2 := pow_cast (shF W + 1)
  have c3 := pow_cast (shF W)
  have c4 : ((m : Int) % 2 ^ s) = ((m % 2 ^ s : Nat) : Int) := by simp
  rw [c4] at hr
  have hr2 : rest = true ↔ m % 2 ^ s ≠ 0 := by rw [hr]; simp only [decide_eq_true_eq]; omega
  generalize m / 2 ^ s = q at *
  refine ⟨?_, by omega, ?_, ?_⟩
  · rw [k4, ← pow_cast]
    have i1 : ((q : Int) % 2 = 1 ∧ (rest = true ∨ (q : Int) / 2 % 2 = 1)) ↔ (q % 2 = 1 ∧ (m % 2 ^ s ≠ 0 ∨ q / 2 % 2 = 1)) := by rw [hr2]; omega
    simp only [i1]
    rw [Int.natCast_add, Int.natCast_mul]
    split <;> simp
  · rw [Int.pow_succ]
    omega
  · rcases k2 with h | h
    · left; omega
    · right; omega
end Go.Proofs.YtoimhjcpeifegaaGreatDoor


/- Printed by ieee.py. -/
namespace Go.Proofs.YtoimhjcpeifegaaGreatDoor
open Go.RowKit

theorem of_16 (w : World) (hS : Shapes w) : Calls Tryz.prog 92 #[] w (fun e w' => e = .returned (.agg #[.int .i64 10, .int .i64 (-24), .int .i64 5]) ∧ Below w.heap.size w w') := by
  have b0 : Below w.heap.size w (w.alloc (.cells #[.int .i64 0, .int .i64 0, .int .i64 0] 95)) := (Below.refl _ _).alloc (Nat.le_refl _) _
  obtain ⟨c0, c1, c2, c3, c4, c5, c6, c7, c8⟩ := hS.below b0 (Nat.le_refl _)
  have x0 : bits BinOp.xor .u16 (if IntKind.u16.signed = true then -1 else IntKind.u16.max) 0 = 65535 := by decide
  have x1 : bits BinOp.xor .u16 IntKind.u16.max 0 = 65535 := by decide
  have x2 : IntKind.u64.wrap 65535 = 65535 := by decide
  clear b0
  go_enter Tryz.func92, Tryz.ntmps92
  go_wp2
  refine bodyPost_ret (results_cell_row rfl _ _ w.heap.size 95 #[.int .i64 10, .int .i64 (-24), .int .i64 5] (0, 0) _ rfl (heap_alloc_new _ _) Tryz.underlying95 rfl size_shape) rfl ?_
  exact ⟨rfl, (Below.refl _ _).alloc (Nat.le_refl _) _⟩
end Go.Proofs.YtoimhjcpeifegaaGreatDoor


/- Printed by ieee.py. -/
namespace Go.Proofs.YtoimhjcpeifegaaGreatDoor
open Go.RowKit

theorem of_32 (w : World) (hS : Shapes w) : Calls Tryz.prog 96 #[] w (fun e w' => e = .returned (.agg #[.int .i64 23, .int .i64 (-149), .int .i64 8]) ∧ Below w.heap.size w w') := by
  have b0 : Below w.heap.size w (w.alloc (.cells #[.int .i64 0, .int .i64 0, .int .i64 0] 95)) := (Below.refl _ _).alloc (Nat.le_refl _) _
  obtain ⟨c0, c1, c2, c3, c4, c5, c6, c7, c8⟩ := hS.below b0 (Nat.le_refl _)
  have x0 : bits BinOp.xor .u32 (if IntKind.u32.signed = true then -1 else IntKind.u32.max) 0 = 4294967295 := by decide
  have x1 : bits BinOp.xor .u32 IntKind.u32.max 0 = 4294967295 := by decide
  have x2 : IntKind.u64.wrap 4294967295 = 4294967295 := by decide
  clear b0
  go_enter Tryz.func96, Tryz.ntmps96
  go_wp2
  refine bodyPost_ret (results_cell_row rfl _ _ w.heap.size 95 #[.int .i64 23, .int .i64 (-149), .int .i64 8] (0, 0) _ rfl (heap_alloc_new _ _) Tryz.underlying95 rfl size_shape) rfl ?_
  exact ⟨rfl, (Below.refl _ _).alloc (Nat.le_refl _) _⟩
end Go.Proofs.YtoimhjcpeifegaaGreatDoor


/- The order of patterns by ranks: plain. -/
namespace Go.Proofs.YtoimhjcpeifegaaGreatDoor

theorem neg_size {W : Nat} (x : Int) : (negW W x = true ∧ sizeW W x = x - sgnW W ∧ sgnW W ≤ x) ∨ (negW W x = false ∧ sizeW W x = x ∧ x < sgnW W) := by
  unfold negW sizeW
  by_cases h : sgnW W ≤ x
  · left; rw [if_pos h, decide_eq_true h]; exact ⟨rfl, rfl, h⟩
  · right; rw [if_neg h, decide_eq_false h]; exact ⟨rfl, rfl, by omega⟩

end Go.Proofs.YtoimhjcpeifegaaGreatDoor


/- The table of shapes out of a row's list. -/
namespace Go.Proofs.YtoimhjcpeifegaaGreatDoor
open Go.RowKit

theorem trod_int {H : Type} {enc : TypeId × Value → H} {P : Program} {w : World} {base : Nat} {sp : Nat → Bool} {held : Bool} {fuel : Nat} {t : TypeId} {k : IntKind} {c : Value} {v : Int} {p : List MemPlace}
    (ht : P.underlying t = some (.int k)) (h : DataW.trod enc P w base sp held fuel t [c] = some (.lit (.int k v), p)) : c = .int k v := by
  cases fuel with
  | zero => simp [DataW.trod] at h
  | succ fuel =>
    simp only [DataW.trod, ht] at h
    split at h <;> simp_all

theorem trod_struct3 {H : Type} {enc : TypeId × Value → H} {P : Program} {w : World} {base : Nat} {sp : Nat → Bool} {held : Bool} {fuel : Nat} {t i : TypeId} {fs : Array Field} {k : IntKind} {cs : List Value} {a b c : Int} {p : List MemPlace}
    (ht : P.underlying t = some (.struct fs)) (hf : fs.toList.map (fun f => (f.type, f.offset)) = [(i, 0), (i, 1), (i, 2)]) (hi : P.underlying i = some (.int k)) (hc : P.cellsOf i = 1) (hct : P.cellsOf t = 3)
    (h : DataW.trod enc P w base sp held fuel t cs = some (.agg [.lit (.int k a), .lit (.int k b), .lit (.int k c)], p)) : cs = [.int k a, .int k b, .int k c] := by
  cases fuel with
  | zero => simp [DataW.trod] at h
  | succ fuel =>
    simp only [DataW.trod, ht, hct] at h
    split at h
    · rename_i hl
      rcases cs with _ | ⟨x, _ | ⟨y, _ | ⟨z, _ | ⟨u, cs⟩⟩⟩⟩ <;> simp at hl
      obtain ⟨f0, f1, f2, hfs⟩ : ∃ f0 f1 f2, fs.toList = [f0, f1, f2] := by
        have hl := congrArg List.length hf
        simp only [List.length_map, List.length_cons, List.length_nil] at hl
        rcases hh : fs.toList with _ | ⟨f0, _ | ⟨f1, _ | ⟨f2, _ | ⟨f3, r⟩⟩⟩⟩ <;> rw [hh] at hl <;> simp at hl
        exact ⟨f0, f1, f2, rfl⟩
      rw [hfs] at h hf
      simp only [List.map_cons, List.map_nil, List.cons.injEq, Prod.mk.injEq, and_true] at hf
      obtain ⟨⟨t0, o0⟩, ⟨t1, o1⟩, ⟨t2, o2⟩⟩ := hf
      simp only [List.mapM_cons, List.mapM_nil, t0, t1, t2, o0, o1, o2, hc] at h
      simp only [List.drop_zero, List.drop_succ_cons, List.take_succ_cons, List.take_zero, Option.bind_eq_bind, Option.pure_def, Option.map_eq_some_iff, Option.bind_eq_some_iff, Option.some.injEq] at h
      obtain ⟨xs, ⟨d0, e0, r0, ⟨d1, e1, r1, ⟨d2, e2, r2, rfl, rfl⟩, rfl⟩, rfl⟩, hx⟩ := h
      simp only [List.map_cons, List.map_nil, Prod.mk.injEq, DataW.agg.injEq, List.cons.injEq, and_true] at hx
      obtain ⟨⟨q0, q1, q2⟩, -⟩ := hx
      obtain ⟨d0, p0⟩ := d0
      obtain ⟨d1, p1⟩ := d1
      obtain ⟨d2, p2⟩ := d2
      simp only at q0 q1 q2
      subst q0 q1 q2
      rw [trod_int hi e0, trod_int hi e1, trod_int hi e2]
    · cases h
theorem trod_array3 {H : Type} {enc : TypeId × Value → H} {P : Program} {w : World} {base : Nat} {sp : Nat → Bool} {held : Bool} {fuel : Nat} {t e : TypeId} {cs : List Value} {d0 d1 d2 : DataW H} {p : List MemPlace}
    (ht : P.underlying t = some (.array 3 e)) (hc : P.cellsOf e = 3) (hct : P.cellsOf t = 9)
    (h : DataW.trod enc P w base sp held fuel t cs = some (.agg [d0, d1, d2], p)) :
    ∃ fuel c0 c1 c2 p0 p1 p2, cs = c0 ++ (c1 ++ c2) ∧ DataW.trod enc P w base sp held fuel e c0 = some (d0, p0) ∧ DataW.trod enc P w base sp held fuel e c1 = some (d1, p1) ∧ DataW.trod enc P w base sp held fuel e c2 = some (d2, p2) := by
  cases fuel with
  | zero => simp [DataW.trod] at h
  | succ fuel =>
    simp only [DataW.trod, ht, hct] at h
    split at h
    · rename_i hl
      simp only [show List.range 3 = [0, 1, 2] from rfl, List.mapM_cons, List.mapM_nil, hc] at h
      simp only [Option.bind_eq_bind, Option.pure_def, Option.map_eq_some_iff, Option.bind_eq_some_iff, Option.some.injEq] at h
      obtain ⟨xs, ⟨x0, e0, r0, ⟨x1, e1, r1, ⟨x2, e2, r2, rfl, rfl⟩, rfl⟩, rfl⟩, hx⟩ := h
      simp only [List.map_cons, List.map_nil, Prod.mk.injEq, DataW.agg.injEq, List.cons.injEq, and_true] at hx
      obtain ⟨⟨q0, q1, q2⟩, -⟩ := hx
      obtain ⟨x0, p0⟩ := x0
      obtain ⟨x1, p1⟩ := x1
      obtain ⟨x2, p2⟩ := x2
      simp only at q0 q1 q2
      subst q0 q1 q2
      refine ⟨fuel, _, _, _, _, _, _, ?_, e0, e1, e2⟩
      rcases cs with _ | ⟨a0, _ | ⟨a1, _ | ⟨a2, _ | ⟨a3, _ | ⟨a4, _ | ⟨a5, _ | ⟨a6, _ | ⟨a7, _ | ⟨a8, _ | ⟨a9, cs⟩⟩⟩⟩⟩⟩⟩⟩⟩⟩ <;> simp at hl
      rfl
    · cases h

theorem gShapes : Tryz.prog.globalNamed "crucible/ieee.shapes" = some 2 := by kernel_rfl
theorem gShapesType : (Tryz.prog.globals[2]?).map (·.type) = some 159 := by kernel_rfl
theorem cellsShapes : Tryz.prog.cellsOf 159 = 9 := by kernel_rfl
theorem cellsShape : Tryz.prog.cellsOf 95 = 3 := by kernel_rfl
theorem cellsInt : Tryz.prog.cellsOf 3 = 1 := by kernel_rfl

theorem shapes_of_laid {W : World} {r : List (String × DataW Unit)} {q : List MemPlace} (h : DataW.LaidVars Tryz.prog W (("crucible/ieee.shapes", Rows.laid_crucible_ieee_shapes) :: r) q) : Shapes W := by
  obtain ⟨g, t, cs, fuel, p, q1, hg, ht, hcs, htr, -, -⟩ := h
  rw [gShapes] at hg
  injection hg with hg
  subst hg
  rw [gShapesType] at ht
  injection ht with ht
  subst ht
  obtain ⟨f, c0, c1, c2, p0, p1, p2, hc, e0, e1, e2⟩ := trod_array3 Tryz.underlying159 cellsShape cellsShapes htr
  have k0 := trod_struct3 Tryz.underlying95 rfl Tryz.underlying3 cellsInt cellsShape e0
  have k1 := trod_struct3 Tryz.underlying95 rfl Tryz.underlying3 cellsInt cellsShape e1
  have k2 := trod_struct3 Tryz.underlying95 rfl Tryz.underlying3 cellsInt cellsShape e2
  rw [k0, k1, k2] at hc
  have hcs2 : cs = #[.int .i64 10, .int .i64 (-24), .int .i64 5, .int .i64 23, .int .i64 (-149), .int .i64 8, .int .i64 52, .int .i64 (-1074), .int .i64 11] := by
    apply Array.toList_inj.1
    rw [hc]
    rfl
  subst hcs2
  have c := World.var?_cell gShapes hcs
  exact ⟨by rw [c]; rfl, by rw [c]; rfl, by rw [c]; rfl, by rw [c]; rfl, by rw [c]; rfl, by rw [c]; rfl, by rw [c]; rfl, by rw [c]; rfl, by rw [c]; rfl⟩
end Go.Proofs.YtoimhjcpeifegaaGreatDoor


/- whole: From. (Printed by whole.py.) -/
namespace Go.Proofs.YtoimhjcpeifegaaGreatDoor
open Go.RowKit

theorem wfrom_made (n : Int) (h : -9223372036854775808 ≤ n ∧ n < 9223372036854775808) (s : Int) (hs : s = if n < 0 then -1 else 1) : (decide (s = -1) && decide (0 < (n.natAbs : Int))) = decide (n < 0) := by
  rw [hs]
  by_cases hn : n < 0
  · rw [if_pos hn, decide_eq_true hn]; simp; omega
  · rw [if_neg hn, decide_eq_false hn]; rfl

set_option maxHeartbeats 1000000 in
theorem wfrom_calls (n : Int) (w : World) (hn : -9223372036854775808 ≤ n ∧ n < 9223372036854775808) : Calls Tryz.prog 54 #[.int .i64 n] w (RetInt n w) := by
  by_cases hneg : n < 0
  · skip
    have b0 := Below.refl w.heap.size w
    have l0 : Below w.heap.size w (w.alloc (.cells #[.bool false, .slice none 0 0] 34)) := (Below.refl _ _).alloc (Nat.le_refl _) _
    have b1 : Below w.heap.size w (w.alloc (.cells #[.bool false, .slice none 0 0] 34)) := below_trans b0 l0
    have k0 : Cel (w.alloc (.cells #[.bool false, .slice none 0 0] 34)) w.heap.size 34 [.bool false, .slice none 0 0] := Cel.made _ _ _ _ (by simp)
    clear b0 l0
    have hg0 : w.heap.size ≤ w.heap.size := Nat.le_refl _
    obtain ⟨s, hs⟩ : ∃ s : Int, s = -1 := ⟨_, rfl⟩
    have HSE := Lib.hid hs
    obtain ⟨r, hr⟩ : ∃ r, decide (n < 0) = r := ⟨_, rfl⟩
    have HR := Lib.hid hr
    have hsg := wfrom_made n hn s (by rw [hs, if_pos hneg])
    rw [hr] at hsg
    have HSG := Lib.hid hsg
    clear hr hsg
    obtain ⟨V, hV⟩ : ∃ V, V = (n.natAbs : Int) := ⟨_, rfl⟩
    have hV0 : 0 ≤ V := by omega
    have hVb : V < 18446744073709551616 := by omega
    have HAB := Lib.hid hV
    rw [← hV] at HSG
    clear hs
    have W1 : IntKind.u64.wrap (-(IntKind.u64.wrap n)) = V := by rw [IntKind.wrap_u64, IntKind.wrap_u64]; omega
    have W2 : IntKind.u64.wrap (-n) = V := by rw [IntKind.wrap_u64]; omega
    clear hV
    go_enter Tryz.func54, Tryz.ntmps54
    have h := Lib.hid ((from_calls V (w.alloc (.cells #[.bool false, .slice none 0 0] 34)) hV0 hVb).mono fun e w' q => q.can)
    have e0a := k0.cell 0 _ rfl
    have e0b := k0.cell 1 _ rfl
    go_wp2_with fail
    with_reducible refine (h.out).mono ?_
    rintro e v1 ⟨fd, fn, fc, rfl, ff, b⟩
    clear h
    clear e0a e0b
    replace k0 := k0.next b
    have bb := below_trans b1 b
    clear b b1
    have b1 := bb
    clear bb
    clear W1 W2
    have HM := wmade_as s fd fn fc V r v1 ff hV0 HSG.out
    rw [HSE.out] at HM
    have h := Lib.hid (HM)
    have e0a := k0.cell 0 _ rfl
    have e0b := k0.cell 1 _ rfl
    go_wp2_with fail
    with_reducible refine (h.out).mono ?_
    rintro e v2 ⟨rfl, b⟩
    clear h
    clear e0a e0b
    replace k0 := k0.next b
    replace ff := ff.below b (Nat.le_refl _)
    have bb := below_trans b1 b
    clear b b1
    have b1 := bb
    clear bb
    clear HM
    have g0 := k0.free 0
    have g1 := k0.free 1
    have e0a := k0.cell 0 _ rfl
    have e0b := k0.cell 1 _ rfl
    go_wp2_with fail
    refine bodyPost_ret (results_cell_row rfl _ _ w.heap.size 34 #[.bool r, .slice fd fn fc] (0, 0) _ rfl ((k0.set 0 _).set 1 _).row Tryz.underlying34 rfl size_int) rfl ?_
    refine ⟨_, _, _, by rw [HR.out], ?_, below_set (below_set b1 _ _ _ hg0) _ _ _ hg0⟩
    rw [← HAB.out]
    exact ff.poke2 k0 _ _
  · skip
    have b0 := Below.refl w.heap.size w
    have l0 : Below w.heap.size w (w.alloc (.cells #[.bool false, .slice none 0 0] 34)) := (Below.refl _ _).alloc (Nat.le_refl _) _
    have b1 : Below w.heap.size w (w.alloc (.cells #[.bool false, .slice none 0 0] 34)) := below_trans b0 l0
    have k0 : Cel (w.alloc (.cells #[.bool false, .slice none 0 0] 34)) w.heap.size 34 [.bool false, .slice none 0 0] := Cel.made _ _ _ _ (by simp)
    clear b0 l0
    have hg0 : w.heap.size ≤ w.heap.size := Nat.le_refl _
    obtain ⟨s, hs⟩ : ∃ s : Int, s = 1 := ⟨_, rfl⟩
    have HSE := Lib.hid hs
    obtain ⟨r, hr⟩ : ∃ r, decide (n < 0) = r := ⟨_, rfl⟩
    have HR := Lib.hid hr
    have hsg := wfrom_made n hn s (by rw [hs, if_neg hneg])
    rw [hr] at hsg
    have HSG := Lib.hid hsg
    clear hr hsg
    obtain ⟨V, hV⟩ : ∃ V, V = (n.natAbs : Int) := ⟨_, rfl⟩
    have hV0 : 0 ≤ V := by omega
    have hVb : V < 18446744073709551616 := by omega
    have HAB := Lib.hid hV
    rw [← hV] at HSG
    clear hs
    have W1 : IntKind.u64.wrap n = V := by rw [IntKind.wrap_u64]; omega
    clear hV
    go_enter Tryz.func54, Tryz.ntmps54
    have h := Lib.hid ((from_calls V (w.alloc (.cells #[.bool false, .slice none 0 0] 34)) hV0 hVb).mono fun e w' q => q.can)
    have e0a := k0.cell 0 _ rfl
    have e0b := k0.cell 1 _ rfl
    go_wp2_with fail
    with_reducible refine (h.out).mono ?_
    rintro e v1 ⟨fd, fn, fc, rfl, ff, b⟩
    clear h
    clear e0a e0b
    replace k0 := k0.next b
    have bb := below_trans b1 b
    clear b b1
    have b1 := bb
    clear bb
    clear W1
    have HM := wmade_as s fd fn fc V r v1 ff hV0 HSG.out
    rw [HSE.out] at HM
    have h := Lib.hid (HM)
    have e0a := k0.cell 0 _ rfl
    have e0b := k0.cell 1 _ rfl
    go_wp2_with fail
    with_reducible refine (h.out).mono ?_
    rintro e v2 ⟨rfl, b⟩
    clear h
    clear e0a e0b
    replace k0 := k0.next b
    replace ff := ff.below b (Nat.le_refl _)
    have bb := below_trans b1 b
    clear b b1
    have b1 := bb
    clear bb
    clear HM
    have g0 := k0.free 0
    have g1 := k0.free 1
    have e0a := k0.cell 0 _ rfl
    have e0b := k0.cell 1 _ rfl
    go_wp2_with fail
    refine bodyPost_ret (results_cell_row rfl _ _ w.heap.size 34 #[.bool r, .slice fd fn fc] (0, 0) _ rfl ((k0.set 0 _).set 1 _).row Tryz.underlying34 rfl size_int) rfl ?_
    refine ⟨_, _, _, by rw [HR.out], ?_, below_set (below_set b1 _ _ _ hg0) _ _ _ hg0⟩
    rw [← HAB.out]
    exact ff.poke2 k0 _ _
end Go.Proofs.YtoimhjcpeifegaaGreatDoor


/- whole: Neg. (Printed by whole.py.) -/
namespace Go.Proofs.YtoimhjcpeifegaaGreatDoor
open Go.RowKit

theorem sg_neg (N : Int) : IntKind.i8.wrap (-sgI N) = sgI (-N) ∧ -sgI N = sgI (-N) := by
  have e : -sgI N = sgI (-N) := by unfold sgI; split <;> (try split) <;> (try split) <;> (try split) <;> omega
  refine ⟨?_, e⟩
  rw [e]
  unfold sgI
  split
  · decide
  · split <;> decide

set_option maxHeartbeats 1000000 in
theorem wneg_calls (ng1 : Bool) (ad1 : Option Addr) (n1 c1 : Nat) (V1 : Int) (w : World) (h1 : Num w ad1 n1 c1 V1) (hn1 : n1 ≤ 70368744177663) : Calls Tryz.prog 116 #[.agg #[.bool ng1, .slice ad1 n1 c1]] w (RetInt (-sI ng1 V1) w) := by
  have hV0 := h1.nonneg
  have b0 := Below.refl w.heap.size w
  have l0 : Below w.heap.size w (w.alloc (.cells #[.bool ng1, .slice ad1 n1 c1] 34)) := (Below.refl _ _).alloc (Nat.le_refl _) _
  have b1 : Below w.heap.size w (w.alloc (.cells #[.bool ng1, .slice ad1 n1 c1] 34)) := below_trans b0 l0
  have k0 : Cel (w.alloc (.cells #[.bool ng1, .slice ad1 n1 c1] 34)) w.heap.size 34 [.bool ng1, .slice ad1 n1 c1] := Cel.made _ _ _ _ (by simp)
  have l1 : Below (w.alloc (.cells #[.bool ng1, .slice ad1 n1 c1] 34)).heap.size (w.alloc (.cells #[.bool ng1, .slice ad1 n1 c1] 34)) ((w.alloc (.cells #[.bool ng1, .slice ad1 n1 c1] 34)).alloc (.cells #[.bool false, .slice none 0 0] 34)) := (Below.refl _ _).alloc (Nat.le_refl _) _
  have b2 : Below w.heap.size w ((w.alloc (.cells #[.bool ng1, .slice ad1 n1 c1] 34)).alloc (.cells #[.bool false, .slice none 0 0] 34)) := below_trans b1 l1
  have k1 : Cel ((w.alloc (.cells #[.bool ng1, .slice ad1 n1 c1] 34)).alloc (.cells #[.bool false, .slice none 0 0] 34)) (w.heap.size + 1) 34 [.bool false, .slice none 0 0] := Cel.made _ _ _ _ (by simp)
  replace k0 := k0.next l1
  replace h1 := h1.below b2 (Nat.le_refl _)
  clear b0 b1 l0 l1
  have hg0 : w.heap.size ≤ w.heap.size := Nat.le_refl _
  have hg1 : w.heap.size ≤ w.heap.size + 1 := Nat.le_add_right _ _
  have HAB := Lib.hid (show V1 = ((-sI ng1 V1).natAbs : Int) by rw [Int.natAbs_neg, sI_abs ng1 V1 hV0])
  obtain ⟨r, hr⟩ : ∃ r, decide (-sI ng1 V1 < 0) = r := ⟨_, rfl⟩
  have HR := Lib.hid hr
  have hsg := made_sign (-sI ng1 V1) V1 HAB.out
  rw [hr] at hsg
  have HSG := Lib.hid hsg
  clear hr hsg
  obtain ⟨q1, q2⟩ := sg_neg (sI ng1 V1)
  have hS := wsigned_calls ng1 ad1 n1 c1 V1 ((w.alloc (.cells #[.bool ng1, .slice ad1 n1 c1] 34)).alloc (.cells #[.bool false, .slice none 0 0] 34)) h1 hn1
  generalize sI ng1 V1 = N at *
  generalize sgI N = s1 at *
  generalize hs2 : sgI (-N) = s2 at *
  have HQ := Lib.hid hs2
  clear hs2 h1 q2
  go_enter Tryz.func116, Tryz.ntmps116
  have h := Lib.hid (hS)
  have e0a := k0.cell 0 _ rfl
  have e0b := k0.cell 1 _ rfl
  have e1a := k1.cell 0 _ rfl
  have e1b := k1.cell 1 _ rfl
  go_wp2_with fail
  with_reducible refine (h.out).mono ?_
  rintro e v1 ⟨fd, fn, fc, rfl, ff, b⟩
  clear h
  clear e0a e0b e1a e1b
  replace k0 := k0.next b
  replace k1 := k1.next b
  have bb := below_trans b2 b
  clear b b2
  have b2 := bb
  clear bb
  clear hS
  have HM := wmade_as s2 fd fn fc V1 r v1 ff hV0 HSG.out
  have h := Lib.hid (HM)
  have e0a := k0.cell 0 _ rfl
  have e0b := k0.cell 1 _ rfl
  have e1a := k1.cell 0 _ rfl
  have e1b := k1.cell 1 _ rfl
  go_wp2_with fail
  with_reducible refine (h.out).mono ?_
  rintro e v2 ⟨rfl, b⟩
  clear h
  clear e0a e0b e1a e1b
  replace k0 := k0.next b
  replace k1 := k1.next b
  replace ff := ff.below b (Nat.le_refl _)
  have bb := below_trans b2 b
  clear b b2
  have b2 := bb
  clear bb
  clear HM
  have g0 := k1.free 0
  have g1 := k1.free 1
  have e0a := k0.cell 0 _ rfl
  have e0b := k0.cell 1 _ rfl
  have e1a := k1.cell 0 _ rfl
  have e1b := k1.cell 1 _ rfl
  go_wp2_with fail
  refine bodyPost_ret (results_cell_row rfl _ _ (w.heap.size + 1) 34 #[.bool r, .slice fd fn fc] (0, 0) _ rfl ((k1.set 0 _).set 1 _).row Tryz.underlying34 rfl size_int) rfl ?_
  refine ⟨_, _, _, by rw [HR.out], ?_, below_set (below_set b2 _ _ _ hg1) _ _ _ hg1⟩
  rw [← HAB.out]
  exact ff.poke2 k1 _ _
end Go.Proofs.YtoimhjcpeifegaaGreatDoor

