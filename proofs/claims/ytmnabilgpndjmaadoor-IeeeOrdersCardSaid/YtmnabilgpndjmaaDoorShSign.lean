/- Printed by ieee.py. -/
import Derived.Test.YtmnabilgpndjmaaDoorShapes
import Derived.Deep.RegionHeld3
set_option linter.unusedVariables false
set_option linter.unusedSimpArgs false
namespace Go.Proofs.YtmnabilgpndjmaaDoor
open Go.RowKit

theorem shsign_16 (w : World) : Calls Tryd.prog 152 #[.agg #[.int .i64 10, .int .i64 (-24), .int .i64 5]] w (fun e w' => e = .returned (.int .u64 32768) ∧ Below w.heap.size w w') := by
  have b0 : Below w.heap.size w (w.alloc (.cells #[.int .i64 10, .int .i64 (-24), .int .i64 5] 142)) := (Below.refl _ _).alloc (Nat.le_refl _) _
  go_enter Tryd.func152, Tryd.ntmps152
  go_wp2
  go_ret
  exact ⟨rfl, b0⟩

theorem shinf_16 (w : World) : Calls Tryd.prog 119 #[.agg #[.int .i64 10, .int .i64 (-24), .int .i64 5]] w (fun e w' => e = .returned (.int .u64 31744) ∧ Below w.heap.size w w') := by
  have b0 : Below w.heap.size w (w.alloc (.cells #[.int .i64 10, .int .i64 (-24), .int .i64 5] 142)) := (Below.refl _ _).alloc (Nat.le_refl _) _
  go_enter Tryd.func119, Tryd.ntmps119
  go_wp2_with fail
  have c0 : (w.alloc (.cells #[.int .i64 10, .int .i64 (-24), .int .i64 5] 142)).cell? ⟨w.heap.size, 0, none⟩ = some (.int .i64 10) := World.cell?_alloc_at _ _ _ _ rfl
  have c1 : (w.alloc (.cells #[.int .i64 10, .int .i64 (-24), .int .i64 5] 142)).cell? ⟨w.heap.size, 1, none⟩ = some (.int .i64 (-24)) := World.cell?_alloc_at _ _ _ _ rfl
  have c2 : (w.alloc (.cells #[.int .i64 10, .int .i64 (-24), .int .i64 5] 142)).cell? ⟨w.heap.size, 2, none⟩ = some (.int .i64 5) := World.cell?_alloc_at _ _ _ _ rfl
  generalize w.alloc (.cells #[.int .i64 10, .int .i64 (-24), .int .i64 5] 142) = w1 at *
  have bd : Below w1.heap.size w1 w1.drew := below_drew (Below.refl _ _)
  go_region_held3 (fun w' => w'.cell? ⟨w.heap.size, 0, none⟩ = some (.int .i64 10) ∧ w'.cell? ⟨w.heap.size, 1, none⟩ = some (.int .i64 (-24)) ∧ w'.cell? ⟨w.heap.size, 2, none⟩ = some (.int .i64 5) ∧ Below w1.heap.size w1 w') (go_keep)
    (first
      | (go_at_call 152
         refine (shsign_16 _).mono ?_
         rintro e w2 ⟨rfl, hb⟩
         have d0 := below_cell hb (Nat.le_refl _) c0
         have d1 := below_cell hb (Nat.le_refl _) c1
         have d2 := below_cell hb (Nat.le_refl _) c2
         have bb : Below w1.heap.size w1 w2 := below_then bd (Nat.le_refl _) hb))
  go_wp2
  go_ret
  exact ⟨by first | rfl | simp, below_trans b0 (by assumption)⟩

theorem shnan_16 (w : World) : Calls Tryd.prog 160 #[.agg #[.int .i64 10, .int .i64 (-24), .int .i64 5]] w (fun e w' => e = .returned (.int .u64 32256) ∧ Below w.heap.size w w') := by
  have b0 : Below w.heap.size w (w.alloc (.cells #[.int .i64 10, .int .i64 (-24), .int .i64 5] 142)) := (Below.refl _ _).alloc (Nat.le_refl _) _
  have hw : IntKind.i64.wrap 9 = 9 := by decide
  go_enter Tryd.func160, Tryd.ntmps160
  go_wp2_with fail
  have c0 : (w.alloc (.cells #[.int .i64 10, .int .i64 (-24), .int .i64 5] 142)).cell? ⟨w.heap.size, 0, none⟩ = some (.int .i64 10) := World.cell?_alloc_at _ _ _ _ rfl
  have c1 : (w.alloc (.cells #[.int .i64 10, .int .i64 (-24), .int .i64 5] 142)).cell? ⟨w.heap.size, 1, none⟩ = some (.int .i64 (-24)) := World.cell?_alloc_at _ _ _ _ rfl
  have c2 : (w.alloc (.cells #[.int .i64 10, .int .i64 (-24), .int .i64 5] 142)).cell? ⟨w.heap.size, 2, none⟩ = some (.int .i64 5) := World.cell?_alloc_at _ _ _ _ rfl
  generalize w.alloc (.cells #[.int .i64 10, .int .i64 (-24), .int .i64 5] 142) = w1 at *
  have bd : Below w1.heap.size w1 w1.drew := below_drew (Below.refl _ _)
  go_region_held3 (fun w' => w'.cell? ⟨w.heap.size, 0, none⟩ = some (.int .i64 10) ∧ w'.cell? ⟨w.heap.size, 1, none⟩ = some (.int .i64 (-24)) ∧ w'.cell? ⟨w.heap.size, 2, none⟩ = some (.int .i64 5) ∧ Below w1.heap.size w1 w') (go_keep)
    (first
      | (go_at_call 119
         refine (shinf_16 _).mono ?_
         rintro e w2 ⟨rfl, hb⟩
         have d0 := below_cell hb (Nat.le_refl _) c0
         have d1 := below_cell hb (Nat.le_refl _) c1
         have d2 := below_cell hb (Nat.le_refl _) c2
         have bb : Below w1.heap.size w1 w2 := below_then bd (Nat.le_refl _) hb))
  go_wp2
  go_ret
  exact ⟨by first | rfl | simp, below_trans b0 (by assumption)⟩

theorem shsign_32 (w : World) : Calls Tryd.prog 152 #[.agg #[.int .i64 23, .int .i64 (-149), .int .i64 8]] w (fun e w' => e = .returned (.int .u64 2147483648) ∧ Below w.heap.size w w') := by
  have b0 : Below w.heap.size w (w.alloc (.cells #[.int .i64 23, .int .i64 (-149), .int .i64 8] 142)) := (Below.refl _ _).alloc (Nat.le_refl _) _
  go_enter Tryd.func152, Tryd.ntmps152
  go_wp2
  go_ret
  exact ⟨rfl, b0⟩

theorem shinf_32 (w : World) : Calls Tryd.prog 119 #[.agg #[.int .i64 23, .int .i64 (-149), .int .i64 8]] w (fun e w' => e = .returned (.int .u64 2139095040) ∧ Below w.heap.size w w') := by
  have b0 : Below w.heap.size w (w.alloc (.cells #[.int .i64 23, .int .i64 (-149), .int .i64 8] 142)) := (Below.refl _ _).alloc (Nat.le_refl _) _
  go_enter Tryd.func119, Tryd.ntmps119
  go_wp2_with fail
  have c0 : (w.alloc (.cells #[.int .i64 23, .int .i64 (-149), .int .i64 8] 142)).cell? ⟨w.heap.size, 0, none⟩ = some (.int .i64 23) := World.cell?_alloc_at _ _ _ _ rfl
  have c1 : (w.alloc (.cells #[.int .i64 23, .int .i64 (-149), .int .i64 8] 142)).cell? ⟨w.heap.size, 1, none⟩ = some (.int .i64 (-149)) := World.cell?_alloc_at _ _ _ _ rfl
  have c2 : (w.alloc (.cells #[.int .i64 23, .int .i64 (-149), .int .i64 8] 142)).cell? ⟨w.heap.size, 2, none⟩ = some (.int .i64 8) := World.cell?_alloc_at _ _ _ _ rfl
  generalize w.alloc (.cells #[.int .i64 23, .int .i64 (-149), .int .i64 8] 142) = w1 at *
  have bd : Below w1.heap.size w1 w1.drew := below_drew (Below.refl _ _)
  go_region_held3 (fun w' => w'.cell? ⟨w.heap.size, 0, none⟩ = some (.int .i64 23) ∧ w'.cell? ⟨w.heap.size, 1, none⟩ = some (.int .i64 (-149)) ∧ w'.cell? ⟨w.heap.size, 2, none⟩ = some (.int .i64 8) ∧ Below w1.heap.size w1 w') (go_keep)
    (first
      | (go_at_call 152
         refine (shsign_32 _).mono ?_
         rintro e w2 ⟨rfl, hb⟩
         have d0 := below_cell hb (Nat.le_refl _) c0
         have d1 := below_cell hb (Nat.le_refl _) c1
         have d2 := below_cell hb (Nat.le_refl _) c2
         have bb : Below w1.heap.size w1 w2 := below_then bd (Nat.le_refl _) hb))
  go_wp2
  go_ret
  exact ⟨by first | rfl | simp, below_trans b0 (by assumption)⟩

theorem shnan_32 (w : World) : Calls Tryd.prog 160 #[.agg #[.int .i64 23, .int .i64 (-149), .int .i64 8]] w (fun e w' => e = .returned (.int .u64 2143289344) ∧ Below w.heap.size w w') := by
  have b0 : Below w.heap.size w (w.alloc (.cells #[.int .i64 23, .int .i64 (-149), .int .i64 8] 142)) := (Below.refl _ _).alloc (Nat.le_refl _) _
  have hw : IntKind.i64.wrap 22 = 22 := by decide
  go_enter Tryd.func160, Tryd.ntmps160
  go_wp2_with fail
  have c0 : (w.alloc (.cells #[.int .i64 23, .int .i64 (-149), .int .i64 8] 142)).cell? ⟨w.heap.size, 0, none⟩ = some (.int .i64 23) := World.cell?_alloc_at _ _ _ _ rfl
  have c1 : (w.alloc (.cells #[.int .i64 23, .int .i64 (-149), .int .i64 8] 142)).cell? ⟨w.heap.size, 1, none⟩ = some (.int .i64 (-149)) := World.cell?_alloc_at _ _ _ _ rfl
  have c2 : (w.alloc (.cells #[.int .i64 23, .int .i64 (-149), .int .i64 8] 142)).cell? ⟨w.heap.size, 2, none⟩ = some (.int .i64 8) := World.cell?_alloc_at _ _ _ _ rfl
  generalize w.alloc (.cells #[.int .i64 23, .int .i64 (-149), .int .i64 8] 142) = w1 at *
  have bd : Below w1.heap.size w1 w1.drew := below_drew (Below.refl _ _)
  go_region_held3 (fun w' => w'.cell? ⟨w.heap.size, 0, none⟩ = some (.int .i64 23) ∧ w'.cell? ⟨w.heap.size, 1, none⟩ = some (.int .i64 (-149)) ∧ w'.cell? ⟨w.heap.size, 2, none⟩ = some (.int .i64 8) ∧ Below w1.heap.size w1 w') (go_keep)
    (first
      | (go_at_call 119
         refine (shinf_32 _).mono ?_
         rintro e w2 ⟨rfl, hb⟩
         have d0 := below_cell hb (Nat.le_refl _) c0
         have d1 := below_cell hb (Nat.le_refl _) c1
         have d2 := below_cell hb (Nat.le_refl _) c2
         have bb : Below w1.heap.size w1 w2 := below_then bd (Nat.le_refl _) hb))
  go_wp2
  go_ret
  exact ⟨by first | rfl | simp, below_trans b0 (by assumption)⟩

theorem shsign_64 (w : World) : Calls Tryd.prog 152 #[.agg #[.int .i64 52, .int .i64 (-1074), .int .i64 11]] w (fun e w' => e = .returned (.int .u64 9223372036854775808) ∧ Below w.heap.size w w') := by
  have b0 : Below w.heap.size w (w.alloc (.cells #[.int .i64 52, .int .i64 (-1074), .int .i64 11] 142)) := (Below.refl _ _).alloc (Nat.le_refl _) _
  go_enter Tryd.func152, Tryd.ntmps152
  go_wp2
  go_ret
  exact ⟨rfl, b0⟩

theorem shinf_64 (w : World) : Calls Tryd.prog 119 #[.agg #[.int .i64 52, .int .i64 (-1074), .int .i64 11]] w (fun e w' => e = .returned (.int .u64 9218868437227405312) ∧ Below w.heap.size w w') := by
  have b0 : Below w.heap.size w (w.alloc (.cells #[.int .i64 52, .int .i64 (-1074), .int .i64 11] 142)) := (Below.refl _ _).alloc (Nat.le_refl _) _
  go_enter Tryd.func119, Tryd.ntmps119
  go_wp2_with fail
  have c0 : (w.alloc (.cells #[.int .i64 52, .int .i64 (-1074), .int .i64 11] 142)).cell? ⟨w.heap.size, 0, none⟩ = some (.int .i64 52) := World.cell?_alloc_at _ _ _ _ rfl
  have c1 : (w.alloc (.cells #[.int .i64 52, .int .i64 (-1074), .int .i64 11] 142)).cell? ⟨w.heap.size, 1, none⟩ = some (.int .i64 (-1074)) := World.cell?_alloc_at _ _ _ _ rfl
  have c2 : (w.alloc (.cells #[.int .i64 52, .int .i64 (-1074), .int .i64 11] 142)).cell? ⟨w.heap.size, 2, none⟩ = some (.int .i64 11) := World.cell?_alloc_at _ _ _ _ rfl
  generalize w.alloc (.cells #[.int .i64 52, .int .i64 (-1074), .int .i64 11] 142) = w1 at *
  have bd : Below w1.heap.size w1 w1.drew := below_drew (Below.refl _ _)
  go_region_held3 (fun w' => w'.cell? ⟨w.heap.size, 0, none⟩ = some (.int .i64 52) ∧ w'.cell? ⟨w.heap.size, 1, none⟩ = some (.int .i64 (-1074)) ∧ w'.cell? ⟨w.heap.size, 2, none⟩ = some (.int .i64 11) ∧ Below w1.heap.size w1 w') (go_keep)
    (first
      | (go_at_call 152
         refine (shsign_64 _).mono ?_
         rintro e w2 ⟨rfl, hb⟩
         have d0 := below_cell hb (Nat.le_refl _) c0
         have d1 := below_cell hb (Nat.le_refl _) c1
         have d2 := below_cell hb (Nat.le_refl _) c2
         have bb : Below w1.heap.size w1 w2 := below_then bd (Nat.le_refl _) hb))
  go_wp2
  go_ret
  exact ⟨by first | rfl | simp, below_trans b0 (by assumption)⟩

theorem shnan_64 (w : World) : Calls Tryd.prog 160 #[.agg #[.int .i64 52, .int .i64 (-1074), .int .i64 11]] w (fun e w' => e = .returned (.int .u64 9221120237041090560) ∧ Below w.heap.size w w') := by
  have b0 : Below w.heap.size w (w.alloc (.cells #[.int .i64 52, .int .i64 (-1074), .int .i64 11] 142)) := (Below.refl _ _).alloc (Nat.le_refl _) _
  have hw : IntKind.i64.wrap 51 = 51 := by decide
  go_enter Tryd.func160, Tryd.ntmps160
  go_wp2_with fail
  have c0 : (w.alloc (.cells #[.int .i64 52, .int .i64 (-1074), .int .i64 11] 142)).cell? ⟨w.heap.size, 0, none⟩ = some (.int .i64 52) := World.cell?_alloc_at _ _ _ _ rfl
  have c1 : (w.alloc (.cells #[.int .i64 52, .int .i64 (-1074), .int .i64 11] 142)).cell? ⟨w.heap.size, 1, none⟩ = some (.int .i64 (-1074)) := World.cell?_alloc_at _ _ _ _ rfl
  have c2 : (w.alloc (.cells #[.int .i64 52, .int .i64 (-1074), .int .i64 11] 142)).cell? ⟨w.heap.size, 2, none⟩ = some (.int .i64 11) := World.cell?_alloc_at _ _ _ _ rfl
  generalize w.alloc (.cells #[.int .i64 52, .int .i64 (-1074), .int .i64 11] 142) = w1 at *
  have bd : Below w1.heap.size w1 w1.drew := below_drew (Below.refl _ _)
  go_region_held3 (fun w' => w'.cell? ⟨w.heap.size, 0, none⟩ = some (.int .i64 52) ∧ w'.cell? ⟨w.heap.size, 1, none⟩ = some (.int .i64 (-1074)) ∧ w'.cell? ⟨w.heap.size, 2, none⟩ = some (.int .i64 11) ∧ Below w1.heap.size w1 w') (go_keep)
    (first
      | (go_at_call 119
         refine (shinf_64 _).mono ?_
         rintro e w2 ⟨rfl, hb⟩
         have d0 := below_cell hb (Nat.le_refl _) c0
         have d1 := below_cell hb (Nat.le_refl _) c1
         have d2 := below_cell hb (Nat.le_refl _) c2
         have bb : Below w1.heap.size w1 w2 := below_then bd (Nat.le_refl _) hb))
  go_wp2
  go_ret
  exact ⟨by first | rfl | simp, below_trans b0 (by assumption)⟩
end Go.Proofs.YtmnabilgpndjmaaDoor
