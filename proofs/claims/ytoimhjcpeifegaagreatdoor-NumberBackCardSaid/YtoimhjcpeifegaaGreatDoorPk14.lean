/- Contracts of functions, and plain facts, part 14. -/
import Derived.Deep.RegionHeld3
import Derived.Test.YtoimhjcpeifegaaGreatDoorPk7
import Derived.Test.YtoimhjcpeifegaaGreatDoorPk9
import Derived.Test.YtoimhjcpeifegaaGreatDoorPk12
import Derived.Test.YtoimhjcpeifegaaGreatDoorPk13
set_option linter.unusedVariables false
set_option linter.unusedSimpArgs false
/- Printed by ieee.py. -/
namespace Go.Proofs.YtoimhjcpeifegaaGreatDoor
open Go.RowKit

theorem shsign_16 (w : World) : Calls Tryz.prog 120 #[.agg #[.int .i64 10, .int .i64 (-24), .int .i64 5]] w (fun e w' => e = .returned (.int .u64 32768) ∧ Below w.heap.size w w') := by
  have b0 : Below w.heap.size w (w.alloc (.cells #[.int .i64 10, .int .i64 (-24), .int .i64 5] 95)) := (Below.refl _ _).alloc (Nat.le_refl _) _
  go_enter Tryz.func120, Tryz.ntmps120
  go_wp2
  go_ret
  exact ⟨rfl, b0⟩

theorem shinf_16 (w : World) : Calls Tryz.prog 61 #[.agg #[.int .i64 10, .int .i64 (-24), .int .i64 5]] w (fun e w' => e = .returned (.int .u64 31744) ∧ Below w.heap.size w w') := by
  have b0 : Below w.heap.size w (w.alloc (.cells #[.int .i64 10, .int .i64 (-24), .int .i64 5] 95)) := (Below.refl _ _).alloc (Nat.le_refl _) _
  go_enter Tryz.func61, Tryz.ntmps61
  go_wp2_with fail
  have c0 : (w.alloc (.cells #[.int .i64 10, .int .i64 (-24), .int .i64 5] 95)).cell? ⟨w.heap.size, 0, none⟩ = some (.int .i64 10) := World.cell?_alloc_at _ _ _ _ rfl
  have c1 : (w.alloc (.cells #[.int .i64 10, .int .i64 (-24), .int .i64 5] 95)).cell? ⟨w.heap.size, 1, none⟩ = some (.int .i64 (-24)) := World.cell?_alloc_at _ _ _ _ rfl
  have c2 : (w.alloc (.cells #[.int .i64 10, .int .i64 (-24), .int .i64 5] 95)).cell? ⟨w.heap.size, 2, none⟩ = some (.int .i64 5) := World.cell?_alloc_at _ _ _ _ rfl
  generalize w.alloc (.cells #[.int .i64 10, .int .i64 (-24), .int .i64 5] 95) = w1 at *
  have bd : Below w1.heap.size w1 w1.drew := below_drew (Below.refl _ _)
  go_region_held3 (fun w' => w'.cell? ⟨w.heap.size, 0, none⟩ = some (.int .i64 10) ∧ w'.cell? ⟨w.heap.size, 1, none⟩ = some (.int .i64 (-24)) ∧ w'.cell? ⟨w.heap.size, 2, none⟩ = some (.int .i64 5) ∧ Below w1.heap.size w1 w') (go_keep)
    (first
      | (go_at_call 120
         refine (shsign_16 _).mono ?_
         rintro e w2 ⟨rfl, hb⟩
         have d0 := below_cell hb (Nat.le_refl _) c0
         have d1 := below_cell hb (Nat.le_refl _) c1
         have d2 := below_cell hb (Nat.le_refl _) c2
         have bb : Below w1.heap.size w1 w2 := below_then bd (Nat.le_refl _) hb))
  go_wp2
  go_ret
  exact ⟨by first | rfl | simp, below_trans b0 (by assumption)⟩

theorem shnan_16 (w : World) : Calls Tryz.prog 58 #[.agg #[.int .i64 10, .int .i64 (-24), .int .i64 5]] w (fun e w' => e = .returned (.int .u64 32256) ∧ Below w.heap.size w w') := by
  have b0 : Below w.heap.size w (w.alloc (.cells #[.int .i64 10, .int .i64 (-24), .int .i64 5] 95)) := (Below.refl _ _).alloc (Nat.le_refl _) _
  have hw : IntKind.i64.wrap 9 = 9 := by decide
  go_enter Tryz.func58, Tryz.ntmps58
  go_wp2_with fail
  have c0 : (w.alloc (.cells #[.int .i64 10, .int .i64 (-24), .int .i64 5] 95)).cell? ⟨w.heap.size, 0, none⟩ = some (.int .i64 10) := World.cell?_alloc_at _ _ _ _ rfl
  have c1 : (w.alloc (.cells #[.int .i64 10, .int .i64 (-24), .int .i64 5] 95)).cell? ⟨w.heap.size, 1, none⟩ = some (.int .i64 (-24)) := World.cell?_alloc_at _ _ _ _ rfl
  have c2 : (w.alloc (.cells #[.int .i64 10, .int .i64 (-24), .int .i64 5] 95)).cell? ⟨w.heap.size, 2, none⟩ = some (.int .i64 5) := World.cell?_alloc_at _ _ _ _ rfl
  generalize w.alloc (.cells #[.int .i64 10, .int .i64 (-24), .int .i64 5] 95) = w1 at *
  have bd : Below w1.heap.size w1 w1.drew := below_drew (Below.refl _ _)
  go_region_held3 (fun w' => w'.cell? ⟨w.heap.size, 0, none⟩ = some (.int .i64 10) ∧ w'.cell? ⟨w.heap.size, 1, none⟩ = some (.int .i64 (-24)) ∧ w'.cell? ⟨w.heap.size, 2, none⟩ = some (.int .i64 5) ∧ Below w1.heap.size w1 w') (go_keep)
    (first
      | (go_at_call 61
         refine (shinf_16 _).mono ?_
         rintro e w2 ⟨rfl, hb⟩
         have d0 := below_cell hb (Nat.le_refl _) c0
         have d1 := below_cell hb (Nat.le_refl _) c1
         have d2 := below_cell hb (Nat.le_refl _) c2
         have bb : Below w1.heap.size w1 w2 := below_then bd (Nat.le_refl _) hb))
  go_wp2
  go_ret
  exact ⟨by first | rfl | simp, below_trans b0 (by assumption)⟩

theorem shsign_32 (w : World) : Calls Tryz.prog 120 #[.agg #[.int .i64 23, .int .i64 (-149), .int .i64 8]] w (fun e w' => e = .returned (.int .u64 2147483648) ∧ Below w.heap.size w w') := by
  have b0 : Below w.heap.size w (w.alloc (.cells #[.int .i64 23, .int .i64 (-149), .int .i64 8] 95)) := (Below.refl _ _).alloc (Nat.le_refl _) _
  go_enter Tryz.func120, Tryz.ntmps120
  go_wp2
  go_ret
  exact ⟨rfl, b0⟩

theorem shinf_32 (w : World) : Calls Tryz.prog 61 #[.agg #[.int .i64 23, .int .i64 (-149), .int .i64 8]] w (fun e w' => e = .returned (.int .u64 2139095040) ∧ Below w.heap.size w w') := by
  have b0 : Below w.heap.size w (w.alloc (.cells #[.int .i64 23, .int .i64 (-149), .int .i64 8] 95)) := (Below.refl _ _).alloc (Nat.le_refl _) _
  go_enter Tryz.func61, Tryz.ntmps61
  go_wp2_with fail
  have c0 : (w.alloc (.cells #[.int .i64 23, .int .i64 (-149), .int .i64 8] 95)).cell? ⟨w.heap.size, 0, none⟩ = some (.int .i64 23) := World.cell?_alloc_at _ _ _ _ rfl
  have c1 : (w.alloc (.cells #[.int .i64 23, .int .i64 (-149), .int .i64 8] 95)).cell? ⟨w.heap.size, 1, none⟩ = some (.int .i64 (-149)) := World.cell?_alloc_at _ _ _ _ rfl
  have c2 : (w.alloc (.cells #[.int .i64 23, .int .i64 (-149), .int .i64 8] 95)).cell? ⟨w.heap.size, 2, none⟩ = some (.int .i64 8) := World.cell?_alloc_at _ _ _ _ rfl
  generalize w.alloc (.cells #[.int .i64 23, .int .i64 (-149), .int .i64 8] 95) = w1 at *
  have bd : Below w1.heap.size w1 w1.drew := below_drew (Below.refl _ _)
  go_region_held3 (fun w' => w'.cell? ⟨w.heap.size, 0, none⟩ = some (.int .i64 23) ∧ w'.cell? ⟨w.heap.size, 1, none⟩ = some (.int .i64 (-149)) ∧ w'.cell? ⟨w.heap.size, 2, none⟩ = some (.int .i64 8) ∧ Below w1.heap.size w1 w') (go_keep)
    (first
      | (go_at_call 120
         refine (shsign_32 _).mono ?_
         rintro e w2 ⟨rfl, hb⟩
         have d0 := below_cell hb (Nat.le_refl _) c0
         have d1 := below_cell hb (Nat.le_refl _) c1
         have d2 := below_cell hb (Nat.le_refl _) c2
         have bb : Below w1.heap.size w1 w2 := below_then bd (Nat.le_refl _) hb))
  go_wp2
  go_ret
  exact ⟨by first | rfl | simp, below_trans b0 (by assumption)⟩

theorem shnan_32 (w : World) : Calls Tryz.prog 58 #[.agg #[.int .i64 23, .int .i64 (-149), .int .i64 8]] w (fun e w' => e = .returned (.int .u64 2143289344) ∧ Below w.heap.size w w') := by
  have b0 : Below w.heap.size w (w.alloc (.cells #[.int .i64 23, .int .i64 (-149), .int .i64 8] 95)) := (Below.refl _ _).alloc (Nat.le_refl _) _
  have hw : IntKind.i64.wrap 22 = 22 := by decide
  go_enter Tryz.func58, Tryz.ntmps58
  go_wp2_with fail
  have c0 : (w.alloc (.cells #[.int .i64 23, .int .i64 (-149), .int .i64 8] 95)).cell? ⟨w.heap.size, 0, none⟩ = some (.int .i64 23) := World.cell?_alloc_at _ _ _ _ rfl
  have c1 : (w.alloc (.cells #[.int .i64 23, .int .i64 (-149), .int .i64 8] 95)).cell? ⟨w.heap.size, 1, none⟩ = some (.int .i64 (-149)) := World.cell?_alloc_at _ _ _ _ rfl
  have c2 : (w.alloc (.cells #[.int .i64 23, .int .i64 (-149), .int .i64 8] 95)).cell? ⟨w.heap.size, 2, none⟩ = some (.int .i64 8) := World.cell?_alloc_at _ _ _ _ rfl
  generalize w.alloc (.cells #[.int .i64 23, .int .i64 (-149), .int .i64 8] 95) = w1 at *
  have bd : Below w1.heap.size w1 w1.drew := below_drew (Below.refl _ _)
  go_region_held3 (fun w' => w'.cell? ⟨w.heap.size, 0, none⟩ = some (.int .i64 23) ∧ w'.cell? ⟨w.heap.size, 1, none⟩ = some (.int .i64 (-149)) ∧ w'.cell? ⟨w.heap.size, 2, none⟩ = some (.int .i64 8) ∧ Below w1.heap.size w1 w') (go_keep)
    (first
      | (go_at_call 61
         refine (shinf_32 _).mono ?_
         rintro e w2 ⟨rfl, hb⟩
         have d0 := below_cell hb (Nat.le_refl _) c0
         have d1 := below_cell hb (Nat.le_refl _) c1
         have d2 := below_cell hb (Nat.le_refl _) c2
         have bb : Below w1.heap.size w1 w2 := below_then bd (Nat.le_refl _) hb))
  go_wp2
  go_ret
  exact ⟨by first | rfl | simp, below_trans b0 (by assumption)⟩

theorem shsign_64 (w : World) : Calls Tryz.prog 120 #[.agg #[.int .i64 52, .int .i64 (-1074), .int .i64 11]] w (fun e w' => e = .returned (.int .u64 9223372036854775808) ∧ Below w.heap.size w w') := by
  have b0 : Below w.heap.size w (w.alloc (.cells #[.int .i64 52, .int .i64 (-1074), .int .i64 11] 95)) := (Below.refl _ _).alloc (Nat.le_refl _) _
  go_enter Tryz.func120, Tryz.ntmps120
  go_wp2
  go_ret
  exact ⟨rfl, b0⟩

theorem shinf_64 (w : World) : Calls Tryz.prog 61 #[.agg #[.int .i64 52, .int .i64 (-1074), .int .i64 11]] w (fun e w' => e = .returned (.int .u64 9218868437227405312) ∧ Below w.heap.size w w') := by
  have b0 : Below w.heap.size w (w.alloc (.cells #[.int .i64 52, .int .i64 (-1074), .int .i64 11] 95)) := (Below.refl _ _).alloc (Nat.le_refl _) _
  go_enter Tryz.func61, Tryz.ntmps61
  go_wp2_with fail
  have c0 : (w.alloc (.cells #[.int .i64 52, .int .i64 (-1074), .int .i64 11] 95)).cell? ⟨w.heap.size, 0, none⟩ = some (.int .i64 52) := World.cell?_alloc_at _ _ _ _ rfl
  have c1 : (w.alloc (.cells #[.int .i64 52, .int .i64 (-1074), .int .i64 11] 95)).cell? ⟨w.heap.size, 1, none⟩ = some (.int .i64 (-1074)) := World.cell?_alloc_at _ _ _ _ rfl
  have c2 : (w.alloc (.cells #[.int .i64 52, .int .i64 (-1074), .int .i64 11] 95)).cell? ⟨w.heap.size, 2, none⟩ = some (.int .i64 11) := World.cell?_alloc_at _ _ _ _ rfl
  generalize w.alloc (.cells #[.int .i64 52, .int .i64 (-1074), .int .i64 11] 95) = w1 at *
  have bd : Below w1.heap.size w1 w1.drew := below_drew (Below.refl _ _)
  go_region_held3 (fun w' => w'.cell? ⟨w.heap.size, 0, none⟩ = some (.int .i64 52) ∧ w'.cell? ⟨w.heap.size, 1, none⟩ = some (.int .i64 (-1074)) ∧ w'.cell? ⟨w.heap.size, 2, none⟩ = some (.int .i64 11) ∧ Below w1.heap.size w1 w') (go_keep)
    (first
      | (go_at_call 120
         refine (shsign_64 _).mono ?_
         rintro e w2 ⟨rfl, hb⟩
         have d0 := below_cell hb (Nat.le_refl _) c0
         have d1 := below_cell hb (Nat.le_refl _) c1
         have d2 := below_cell hb (Nat.le_refl _) c2
         have bb : Below w1.heap.size w1 w2 := below_then bd (Nat.le_refl _) hb))
  go_wp2
  go_ret
  exact ⟨by first | rfl | simp, below_trans b0 (by assumption)⟩

theorem shnan_64 (w : World) : Calls Tryz.prog 58 #[.agg #[.int .i64 52, .int .i64 (-1074), .int .i64 11]] w (fun e w' => e = .returned (.int .u64 9221120237041090560) ∧ Below w.heap.size w w') := by
  have b0 : Below w.heap.size w (w.alloc (.cells #[.int .i64 52, .int .i64 (-1074), .int .i64 11] 95)) := (Below.refl _ _).alloc (Nat.le_refl _) _
  have hw : IntKind.i64.wrap 51 = 51 := by decide
  go_enter Tryz.func58, Tryz.ntmps58
  go_wp2_with fail
  have c0 : (w.alloc (.cells #[.int .i64 52, .int .i64 (-1074), .int .i64 11] 95)).cell? ⟨w.heap.size, 0, none⟩ = some (.int .i64 52) := World.cell?_alloc_at _ _ _ _ rfl
  have c1 : (w.alloc (.cells #[.int .i64 52, .int .i64 (-1074), .int .i64 11] 95)).cell? ⟨w.heap.size, 1, none⟩ = some (.int .i64 (-1074)) := World.cell?_alloc_at _ _ _ _ rfl
  have c2 : (w.alloc (.cells #[.int .i64 52, .int .i64 (-1074), .int .i64 11] 95)).cell? ⟨w.heap.size, 2, none⟩ = some (.int .i64 11) := World.cell?_alloc_at _ _ _ _ rfl
  generalize w.alloc (.cells #[.int .i64 52, .int .i64 (-1074), .int .i64 11] 95) = w1 at *
  have bd : Below w1.heap.size w1 w1.drew := below_drew (Below.refl _ _)
  go_region_held3 (fun w' => w'.cell? ⟨w.heap.size, 0, none⟩ = some (.int .i64 52) ∧ w'.cell? ⟨w.heap.size, 1, none⟩ = some (.int .i64 (-1074)) ∧ w'.cell? ⟨w.heap.size, 2, none⟩ = some (.int .i64 11) ∧ Below w1.heap.size w1 w') (go_keep)
    (first
      | (go_at_call 61
         refine (shinf_64 _).mono ?_
         rintro e w2 ⟨rfl, hb⟩
         have d0 := below_cell hb (Nat.le_refl _) c0
         have d1 := below_cell hb (Nat.le_refl _) c1
         have d2 := below_cell hb (Nat.le_refl _) c2
         have bb : Below w1.heap.size w1 w2 := below_then bd (Nat.le_refl _) hb))
  go_wp2
  go_ret
  exact ⟨by first | rfl | simp, below_trans b0 (by assumption)⟩
end Go.Proofs.YtoimhjcpeifegaaGreatDoor


/- The program's way to the nearest pattern: plain facts over whole numbers. -/
namespace Go.Proofs.YtoimhjcpeifegaaGreatDoor

theorem bitsOf_ge {M : Int} (hM : 0 < M) : 0 < bitsOf M ∧ 2 ^ (bitsOf M - 1).toNat ≤ M.toNat ∧ M.toNat < 2 ^ (bitsOf M).toNat := by
  have h0 : M.toNat ≠ 0 := by omega
  have h1 := blen_ge M.toNat h0
  have h2 := blen_lt M.toNat
  have h3 := blen_pos M.toNat h0
  unfold bitsOf
  refine ⟨by omega, ?_, ?_⟩
  · rw [show ((blen M.toNat : Int) - 1).toNat = blen M.toNat - 1 by omega]; exact h1
  · rw [Int.toNat_natCast]; exact h2

theorem prog_inf {W : Nat} (hW : Wide W) (M p last : Int) (hM : 0 < M) (h1 : last = bitsOf M - shF W - 1 + p) (h2 : 2 ^ shE W - 2 ≤ last - shL W) : nearE W M.toNat p = infN W := by
  obtain ⟨b0, b1, b2⟩ := bitsOf_ge hM
  refine nearE_inf hW _ _ p b1 ?_
  have h3 : (topP W : Int) = shF W + 2 ^ shE W - 2 := by rcases hW with rfl | rfl | rfl <;> decide
  omega

theorem prog_zero {W : Nat} (hW : Wide W) (V p : Int) (more : Bool) (hV : 0 ≤ V) (h : p < -3000 - bitsOf V) : nearE W (rM V more) (rE p more) = 0 := by
  have h1 := blen_lt V.toNat
  have h2 : rM V more < 2 ^ (blen V.toNat + 1) := by
    unfold rM
    rw [Nat.pow_succ]
    split <;> omega
  refine nearE_small hW _ _ _ h2 ?_
  have h3 : rE p more ≤ p := by unfold rE; split <;> omega
  have h4 : -1074 ≤ shL W := by rcases hW with rfl | rfl | rfl <;> decide
  unfold bitsOf at h
  omega

theorem prog_big {W : Nat} (hW : Wide W) (V p : Int) (more : Bool) (hV : 0 ≤ V) (h : ¬ (V = 0 ∧ more = false)) (hp : 2000 < p) : nearE W (rM V more) (rE p more) = infN W := by
  refine nearE_inf hW _ 0 _ ?_ ?_
  · rw [Nat.pow_zero]
    unfold rM
    cases more
    · have : V ≠ 0 := fun e => h ⟨e, rfl⟩
      simp
      omega
    · simp
  · have h1 : 2000 ≤ rE p more := by unfold rE; split <;> omega
    have h2 : (topP W : Int) + shL W ≤ 1100 := by rcases hW with rfl | rfl | rfl <;> decide
    omega

theorem bitsOf_double (V : Int) (hV : 0 ≤ V) : bitsOf (V + V + 1) = bitsOf V + 1 := by
  unfold bitsOf
  rw [blen_half (V + V + 1).toNat (by omega), show (V + V + 1).toNat / 2 = V.toNat by omega]
  omega

theorem pow_cast (k : Nat) : ((2 ^ k : Nat) : Int) = 2 ^ k := by simp

theorem prog_exact {W : Nat} (hW : Wide W) (M p N last d : Int) (hM : 0 < M) (hN : N = bitsOf M) (hl : N - shF W - 1 + p ≤ last) (h2 : d = last - shL W) (h0 : 0 ≤ d) (h3 : d < 2 ^ shE W - 2) (hor : d = 0 ∨ last = N - shF W - 1 + p) (hlp : last ≤ p) :
    (nearE W M.toNat p : Int) = d * 2 ^ shF W + M * 2 ^ (p - last).toNat ∧ M < 2 ^ (shF W + 1) ∧ M * 2 ^ (p - last).toNat < 2 ^ (shF W + 1) ∧ (d = 0 ∨ 2 ^ shF W ≤ M * 2 ^ (p - last).toNat) := by
  obtain ⟨b0, b1, b2⟩ := bitsOf_ge hM
  rw [← hN] at b0 b1 b2
  obtain ⟨m, rfl⟩ := Int.eq_ofNat_of_zero_le (Int.le_of_lt hM)
  obtain ⟨d, rfl⟩ := Int.eq_ofNat_of_zero_le h0
  rw [Int.toNat_natCast] at *
  obtain ⟨t, ht⟩ : ∃ t : Nat, p - last = t := ⟨(p - last).toNat, by omega⟩
  rw [ht, Int.toNat_natCast]
  have k1 : m * 2 ^ t < 2 ^ (shF W + 1) := by
    have h5 : 2 ^ N.toNat * 2 ^ t ≤ 2 ^ (shF W + 1) := by
      rw [← Nat.pow_add]
      exact Nat.pow_le_pow_right (by omega) (by omega)
    exact Nat.lt_of_lt_of_le (Nat.mul_lt_mul_of_pos_right b2 (Nat.two_pow_pos t)) h5
  have k2 : d = 0 ∨ 2 ^ shF W ≤ m * 2 ^ t := by
    rcases hor with h | h
    · left; omega
    · right
      refine Nat.le_trans ?_ (Nat.mul_le_mul_right _ b1)
      rw [← Nat.pow_add]
      exact Nat.pow_le_pow_right (by omega) (by omega)
  have k3 : d + 2 < 2 ^ shE W := by
    have : ((2 ^ shE W : Nat) : Int) = 2 ^ shE W := pow_cast _
    omega
  have k4 := nearE_exact hW m d t p (by omega) k2 k1 k3
  have k5 : m < 2 ^ (shF W + 1) := by
    have : m * 1 ≤ m * 2 ^ t := Nat.mul_le_mul_left m (Nat.one_le_two_pow)
    omega
  have c1 : ((m * 2 ^ t : Nat) : Int) = (m : Int) * 2 ^ t := by simp
  have c2 := pow_cast (shF W + 1)
  have c3 := pow_cast (shF W)
  refine ⟨by rw [k4]; simp, by omega, by omega, ?_⟩
  rcases k2 with h | h
  · left; omega
  · right; omega

theorem prog_cut {W : Nat} (hW : Wide W) (M p N last d q : Int) (hM : 0 < M) (hN : N = bitsOf M) (hl : N - shF W - 1 + p ≤ last) (h2 : d = last - shL W) (h0 : 0 ≤ d) (h3 : d < 2 ^ shE W - 2) (hor : d = 0 ∨ last = N - shF W - 1 + p) (hlp : p < last)
    (hq : q = M / 2 ^ (last - p - 1).toNat) (rest : Bool) (hr : rest = decide (M % 2 ^ (last - p - 1).toNat ≠ 0)) :
    (nearE W M.toNat p : Int) = d * 2 ^ shF W + (if q % 2 = 1 ∧ (rest = true ∨ q / 2 % 2 = 1) then q / 2 + 1 else q / 2) ∧ 0 ≤ q ∧ q < 2 ^ (shF W + 2) ∧ (d = 0 ∨ 2 ^ shF W ≤ q / 2) := by
  obtain ⟨b0, b1, b2⟩ := bitsOf_ge hM
  rw [← hN] at b0 b1 b2
  obtain ⟨m, rfl⟩ := Int.eq_ofNat_of_zero_le (Int.le_of_lt hM)
  obtain ⟨d, rfl⟩ := Int.eq_ofNat_of_zero_le h0
  rw [Int.toNat_natCast] at *
  obtain ⟨s, hs⟩ : ∃ s : Nat, last - p - 1 = s := ⟨(last - p - 1).toNat, by omega⟩
  rw [hs, Int.toNat_natCast] at hq hr
  have hq2 : q = ((m / 2 ^ s : Nat) : Int) := by rw [hq]; simp
  subst hq2
  clear hq
  have k1 : m / 2 ^ (s + 1) < 2 ^ (shF W + 1) := by
    rw [Nat.div_lt_iff_lt_mul (Nat.two_pow_pos _), ← Nat.pow_add]
    exact Nat.lt_of_lt_of_le b2 (Nat.pow_le_pow_right (by omega) (by omega))
  have k2 : d = 0 ∨ 2 ^ shF W ≤ m / 2 ^ (s + 1) := by
    rcases hor with h | h
    · left; omega
    · right
      rw [Nat.le_div_iff_mul_le (Nat.two_pow_pos _), ← Nat.pow_add]
      exact Nat.le_trans (Nat.pow_le_pow_right (by omega) (by omega)) b1
  have k3 : d + 2 < 2 ^ shE W := by
    have : ((2 ^ shE W : Nat) : Int) = 2 ^ shE W := pow_cast _
    omega
  have k4 := nearE_cut hW m d (s + 1) p (by omega) k2 k1 k3
  rw [rounded_prog m s _ rfl] at k4
  have e2 : m / 2 ^ (s + 1) = m / 2 ^ s / 2 := by rw [Nat.pow_succ, ← Nat.div_div_eq_div_mul]
  rw [e2] at k1 k2
  have c2 := pow_cast (shF W + 1)
  have c3 := pow_cast (shF W)
  have c4 : ((m : Int) % 2 ^ s) = ((m % 2 ^ s : Nat) : Int) := by simp
  rw [c4] at hr
  have hr2 : rest = true ↔ m % 2 ^ s ≠ 0 := by rw [hr]; simp only [decide_eq_true_eq]; omega
  generalize m / 2 ^ s = q at *
  refine ⟨?_, by omega, ?_, ?_⟩
  · rw [k4, ← pow_cast]
    have i1 : ((q : Int) % 2 = 1 ∧ (rest = true ∨ (q : Int) / 2 % 2 = 1)) ↔ (q % 2 = 1 ∧ (m % 2 ^ s ≠ 0 ∨ q / 2 % 2 = 1)) := by rw [hr2]; omega
    simp only [i1]
    rw [Int.natCast_add, Int.natCast_mul]
    split <;> simp
  · rw [Int.pow_succ]
    omega
  · rcases k2 with h | h
    · left; omega
    · right; omega
end Go.Proofs.YtoimhjcpeifegaaGreatDoor


/- Printed by ieee.py. -/
namespace Go.Proofs.YtoimhjcpeifegaaGreatDoor
open Go.RowKit

theorem of_16 (w : World) (hS : Shapes w) : Calls Tryz.prog 92 #[] w (fun e w' => e = .returned (.agg #[.int .i64 10, .int .i64 (-24), .int .i64 5]) ∧ Below w.heap.size w w') := by
  have b0 : Below w.heap.size w (w.alloc (.cells #[.int .i64 0, .int .i64 0, .int .i64 0] 95)) := (Below.refl _ _).alloc (Nat.le_refl _) _
  obtain ⟨c0, c1, c2, c3, c4, c5, c6, c7, c8⟩ := hS.below b0 (Nat.le_refl _)
  have x0 : bits BinOp.xor .u16 (if IntKind.u16.signed = true then -1 else IntKind.u16.max) 0 = 65535 := by decide
  have x1 : bits BinOp.xor .u16 IntKind.u16.max 0 = 65535 := by decide
  have x2 : IntKind.u64.wrap 65535 = 65535 := by decide
  clear b0
  go_enter Tryz.func92, Tryz.ntmps92
  go_wp2
  refine bodyPost_ret (results_cell_row rfl _ _ w.heap.size 95 #[.int .i64 10, .int .i64 (-24), .int .i64 5] (0, 0) _ rfl (heap_alloc_new _ _) Tryz.underlying95 rfl size_shape) rfl ?_
  exact ⟨rfl, (Below.refl _ _).alloc (Nat.le_refl _) _⟩
end Go.Proofs.YtoimhjcpeifegaaGreatDoor


/- Printed by ieee.py. -/
namespace Go.Proofs.YtoimhjcpeifegaaGreatDoor
open Go.RowKit

theorem of_32 (w : World) (hS : Shapes w) : Calls Tryz.prog 96 #[] w (fun e w' => e = .returned (.agg #[.int .i64 23, .int .i64 (-149), .int .i64 8]) ∧ Below w.heap.size w w') := by
  have b0 : Below w.heap.size w (w.alloc (.cells #[.int .i64 0, .int .i64 0, .int .i64 0] 95)) := (Below.refl _ _).alloc (Nat.le_refl _) _
  obtain ⟨c0, c1, c2, c3, c4, c5, c6, c7, c8⟩ := hS.below b0 (Nat.le_refl _)
  have x0 : bits BinOp.xor .u32 (if IntKind.u32.signed = true then -1 else IntKind.u32.max) 0 = 4294967295 := by decide
  have x1 : bits BinOp.xor .u32 IntKind.u32.max 0 = 4294967295 := by decide
  have x2 : IntKind.u64.wrap 4294967295 = 4294967295 := by decide
  clear b0
  go_enter Tryz.func96, Tryz.ntmps96
  go_wp2
  refine bodyPost_ret (results_cell_row rfl _ _ w.heap.size 95 #[.int .i64 23, .int .i64 (-149), .int .i64 8] (0, 0) _ rfl (heap_alloc_new _ _) Tryz.underlying95 rfl size_shape) rfl ?_
  exact ⟨rfl, (Below.refl _ _).alloc (Nat.le_refl _) _⟩
end Go.Proofs.YtoimhjcpeifegaaGreatDoor


/- The order of patterns by ranks: plain. -/
namespace Go.Proofs.YtoimhjcpeifegaaGreatDoor

/-- The rank of a pattern in the total order; the rank of its number. -/
def rk (W : Nat) (x : Int) : Int := if negW W x then -sizeW W x - 1 else sizeW W x
def qk (W : Nat) (x : Int) : Int := if negW W x then -sizeW W x else sizeW W x

theorem neg_size {W : Nat} (x : Int) : (negW W x = true ∧ sizeW W x = x - sgnW W ∧ sgnW W ≤ x) ∨ (negW W x = false ∧ sizeW W x = x ∧ x < sgnW W) := by
  unfold negW sizeW
  by_cases h : sgnW W ≤ x
  · left; rw [if_pos h, decide_eq_true h]; exact ⟨rfl, rfl, h⟩
  · right; rw [if_neg h, decide_eq_false h]; exact ⟨rfl, rfl, by omega⟩

theorem cmpI_add (a b c : Int) : cmpI (a + c) (b + c) = cmpI a b := by
  rcases Int.lt_trichotomy a b with h | h | h
  · rw [cmpI_lt h, cmpI_lt (by omega)]
  · rw [cmpI_eq h, cmpI_eq (by omega)]
  · rw [cmpI_gt h, cmpI_gt (by omega)]
theorem total_rk {W : Nat} (hW : Wide W) (x y : Int) (hx : 0 ≤ x ∧ x < 2 ^ W) (hy : 0 ≤ y ∧ y < 2 ^ W) : totalW W x y = cmpI (rk W x) (rk W y) := by
  have bx := size_bounds hW x hx
  have by' := size_bounds hW y hy
  unfold totalW rk
  rcases neg_size (W := W) x with ⟨n1, s1, -⟩ | ⟨n1, s1, -⟩ <;> rcases neg_size (W := W) y with ⟨n2, s2, -⟩ | ⟨n2, s2, -⟩ <;> rw [n1, n2] <;> simp only [if_true, Bool.false_eq_true, if_false]
  · rw [s1, s2]
    rcases Int.lt_trichotomy x y with h | h | h
    · rw [cmpI_gt h, cmpI_gt (by omega)]
    · rw [cmpI_eq h.symm, cmpI_eq (by omega)]
    · rw [cmpI_lt h, cmpI_lt (by omega)]
  · rw [cmpI_lt (by omega)]
  · rw [cmpI_gt (by omega)]
  · rw [s1, s2]

theorem cmp_qk {W : Nat} (hW : Wide W) (x y : Int) (hx : 0 ≤ x ∧ x < 2 ^ W) (hy : 0 ≤ y ∧ y < 2 ^ W) : cmpW W x y = if isNaN W x || isNaN W y then (0, false) else (cmpI (qk W x) (qk W y), true) := by
  have bx := size_bounds hW x hx
  have by' := size_bounds hW y hy
  have ht := total_rk hW x y hx hy
  unfold cmpW
  split
  · rfl
  · split
    · rename_i h
      congr 1
      unfold qk
      rw [h.1, h.2, cmpI_eq]
      simp
    · rename_i h
      congr 1
      rw [ht]
      unfold rk qk
      rcases neg_size (W := W) x with ⟨n1, s1, -⟩ | ⟨n1, s1, -⟩ <;> rcases neg_size (W := W) y with ⟨n2, s2, -⟩ | ⟨n2, s2, -⟩ <;> rw [n1, n2] <;> simp only [if_true, Bool.false_eq_true, if_false]
      · exact cmpI_add _ _ (-1)
      · rw [cmpI_lt (by omega), cmpI_lt (by omega)]
      · rw [cmpI_gt (by omega), cmpI_gt (by omega)]

end Go.Proofs.YtoimhjcpeifegaaGreatDoor

