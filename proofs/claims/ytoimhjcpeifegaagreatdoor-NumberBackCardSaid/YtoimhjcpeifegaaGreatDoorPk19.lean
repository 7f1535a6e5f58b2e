/- Contracts of functions, and plain facts, part 19. -/
import Derived.Test.YtoimhjcpeifegaaGreatDoorPk12
import Derived.Test.YtoimhjcpeifegaaGreatDoorPk13
import Derived.Test.YtoimhjcpeifegaaGreatDoorPk15
set_option linter.unusedVariables false
set_option linter.unusedSimpArgs false
/- Printed by ieee2.py. -/
namespace Go.Proofs.YtoimhjcpeifegaaGreatDoor
open Go.RowKit

theorem class_16 (w : World) (hS : Shapes w) (x : Int) (hx : 0 ≤ x ∧ x < 65536) : Calls Tryz.prog 56 #[.int .u16 x] w (fun e w' => e = .returned (.int .i8 (clsW 16 x)) ∧ Below w.heap.size w w') := by
  have HC := Lib.hid (show clsW 16 x = if 31744 < sizeW 16 x then 5 else if sizeW 16 x = 31744 then 4 else if sizeW 16 x = 0 then 1 else if sizeW 16 x < 1024 then 2 else 3 by unfold clsW; rw [inf16, show (2 : Int) ^ shF 16 = 1024 from by decide])
  have H1 := Lib.hid (of_16 w hS)
  have H2 := Lib.hid (fun (w : World) (hS : Shapes w) => split_16 w hS x hx)
  have hz0 := (size_bounds (W := 16) (by unfold Wide; omega) x ⟨hx.1, by exact hx.2⟩).1
  generalize clsW 16 x = C at *
  generalize sizeW 16 x = z at *
  by_cases t1 : 31744 < z
  · have HR := Lib.hid (show C = 5 by rw [HC.out, if_pos t1])
    clear HC
    go_enter Tryz.func56, Tryz.ntmps56
    go_wp2_with fail
    refine (H1.out).mono ?_
    rintro e w1 ⟨rfl, b1⟩
    have bA : Below w1.heap.size w1 (w1.alloc (.cells #[.int .i64 10, .int .i64 (-24), .int .i64 5] 95)) := (Below.refl _ _).alloc (Nat.le_refl _) _
    have c0 : (w1.alloc (.cells #[.int .i64 10, .int .i64 (-24), .int .i64 5] 95)).cell? ⟨w1.heap.size, 0, none⟩ = some (.int .i64 (10)) := World.cell?_alloc_at _ _ _ _ rfl
    have c1 : (w1.alloc (.cells #[.int .i64 10, .int .i64 (-24), .int .i64 5] 95)).cell? ⟨w1.heap.size, 1, none⟩ = some (.int .i64 (-24)) := World.cell?_alloc_at _ _ _ _ rfl
    have c2 : (w1.alloc (.cells #[.int .i64 10, .int .i64 (-24), .int .i64 5] 95)).cell? ⟨w1.heap.size, 2, none⟩ = some (.int .i64 (5)) := World.cell?_alloc_at _ _ _ _ rfl
    have HS2 := Lib.hid (H2.out (w1.alloc (.cells #[.int .i64 10, .int .i64 (-24), .int .i64 5] 95)) ((hS.below b1 (Nat.le_refl _)).below bA (Nat.le_refl _)))
    go_wp2_with fail
    refine (HS2.out).mono ?_
    rintro e w2 ⟨rfl, b2⟩
    have d0 := below_cell b2 (Nat.le_refl _) c0
    have d1 := below_cell b2 (Nat.le_refl _) c1
    have d2 := below_cell b2 (Nat.le_refl _) c2
    have b2' := below_trans bA b2
    go_wp2_with fail
    refine (shinf_16 w2).mono ?_
    rintro e w3 ⟨rfl, b3⟩
    have e0 := below_cell b3 (Nat.le_refl _) d0
    have e1 := below_cell b3 (Nat.le_refl _) d1
    have e2 := below_cell b3 (Nat.le_refl _) d2
    go_wp2
    go_ret
    rw [HR.out]
    exact ⟨rfl, below_trans b1 (below_trans b2' b3)⟩
  · by_cases t2 : z = 31744
    · have HR := Lib.hid (show C = 4 by rw [HC.out, if_neg t1, if_pos t2])
      have t2' : (z == 31744) = true := by simpa using t2
      clear HC t2
      go_enter Tryz.func56, Tryz.ntmps56
      go_wp2_with fail
      refine (H1.out).mono ?_
      rintro e w1 ⟨rfl, b1⟩
      have bA : Below w1.heap.size w1 (w1.alloc (.cells #[.int .i64 10, .int .i64 (-24), .int .i64 5] 95)) := (Below.refl _ _).alloc (Nat.le_refl _) _
      have c0 : (w1.alloc (.cells #[.int .i64 10, .int .i64 (-24), .int .i64 5] 95)).cell? ⟨w1.heap.size, 0, none⟩ = some (.int .i64 (10)) := World.cell?_alloc_at _ _ _ _ rfl
      have c1 : (w1.alloc (.cells #[.int .i64 10, .int .i64 (-24), .int .i64 5] 95)).cell? ⟨w1.heap.size, 1, none⟩ = some (.int .i64 (-24)) := World.cell?_alloc_at _ _ _ _ rfl
      have c2 : (w1.alloc (.cells #[.int .i64 10, .int .i64 (-24), .int .i64 5] 95)).cell? ⟨w1.heap.size, 2, none⟩ = some (.int .i64 (5)) := World.cell?_alloc_at _ _ _ _ rfl
      have HS2 := Lib.hid (H2.out (w1.alloc (.cells #[.int .i64 10, .int .i64 (-24), .int .i64 5] 95)) ((hS.below b1 (Nat.le_refl _)).below bA (Nat.le_refl _)))
      go_wp2_with fail
      refine (HS2.out).mono ?_
      rintro e w2 ⟨rfl, b2⟩
      have d0 := below_cell b2 (Nat.le_refl _) c0
      have d1 := below_cell b2 (Nat.le_refl _) c1
      have d2 := below_cell b2 (Nat.le_refl _) c2
      have b2' := below_trans bA b2
      go_wp2_with fail
      refine (shinf_16 w2).mono ?_
      rintro e w3 ⟨rfl, b3⟩
      have e0 := below_cell b3 (Nat.le_refl _) d0
      have e1 := below_cell b3 (Nat.le_refl _) d1
      have e2 := below_cell b3 (Nat.le_refl _) d2
      go_wp2_with fail
      refine (shinf_16 w3).mono ?_
      rintro e w4 ⟨rfl, b4⟩
      have g0 := below_cell b4 (Nat.le_refl _) e0
      have g1 := below_cell b4 (Nat.le_refl _) e1
      have g2 := below_cell b4 (Nat.le_refl _) e2
      go_wp2
      go_ret
      rw [HR.out]
      exact ⟨rfl, below_trans b1 (below_trans b2' (below_trans b3 b4))⟩
    · have t2' : (z == 31744) = false := by simpa using t2
      by_cases t3 : z = 0
      · have HR := Lib.hid (show C = 1 by rw [HC.out, if_neg t1, if_neg t2, if_pos t3])
        have t3' : (z == 0) = true := by simpa using t3
        clear HC t3 t2
        go_enter Tryz.func56, Tryz.ntmps56
        go_wp2_with fail
        refine (H1.out).mono ?_
        rintro e w1 ⟨rfl, b1⟩
        have bA : Below w1.heap.size w1 (w1.alloc (.cells #[.int .i64 10, .int .i64 (-24), .int .i64 5] 95)) := (Below.refl _ _).alloc (Nat.le_refl _) _
        have c0 : (w1.alloc (.cells #[.int .i64 10, .int .i64 (-24), .int .i64 5] 95)).cell? ⟨w1.heap.size, 0, none⟩ = some (.int .i64 (10)) := World.cell?_alloc_at _ _ _ _ rfl
        have c1 : (w1.alloc (.cells #[.int .i64 10, .int .i64 (-24), .int .i64 5] 95)).cell? ⟨w1.heap.size, 1, none⟩ = some (.int .i64 (-24)) := World.cell?_alloc_at _ _ _ _ rfl
        have c2 : (w1.alloc (.cells #[.int .i64 10, .int .i64 (-24), .int .i64 5] 95)).cell? ⟨w1.heap.size, 2, none⟩ = some (.int .i64 (5)) := World.cell?_alloc_at _ _ _ _ rfl
        have HS2 := Lib.hid (H2.out (w1.alloc (.cells #[.int .i64 10, .int .i64 (-24), .int .i64 5] 95)) ((hS.below b1 (Nat.le_refl _)).below bA (Nat.le_refl _)))
        go_wp2_with fail
        refine (HS2.out).mono ?_
        rintro e w2 ⟨rfl, b2⟩
        have d0 := below_cell b2 (Nat.le_refl _) c0
        have d1 := below_cell b2 (Nat.le_refl _) c1
        have d2 := below_cell b2 (Nat.le_refl _) c2
        have b2' := below_trans bA b2
        go_wp2_with fail
        refine (shinf_16 w2).mono ?_
        rintro e w3 ⟨rfl, b3⟩
        have e0 := below_cell b3 (Nat.le_refl _) d0
        have e1 := below_cell b3 (Nat.le_refl _) d1
        have e2 := below_cell b3 (Nat.le_refl _) d2
        go_wp2_with fail
        refine (shinf_16 w3).mono ?_
        rintro e w4 ⟨rfl, b4⟩
        have g0 := below_cell b4 (Nat.le_refl _) e0
        have g1 := below_cell b4 (Nat.le_refl _) e1
        have g2 := below_cell b4 (Nat.le_refl _) e2
        go_wp2
        go_ret
        rw [HR.out]
        exact ⟨rfl, below_trans b1 (below_trans b2' (below_trans b3 b4))⟩
      · have t3' : (z == 0) = false := by simpa using t3
        by_cases t4 : z < 1024
        · have HR := Lib.hid (show C = 2 by rw [HC.out, if_neg t1, if_neg t2, if_neg t3, if_pos t4])
          have t4' : (z / 1024 == 0) = true := by simp; omega
          clear HC t3 t2 t4
          go_enter Tryz.func56, Tryz.ntmps56
          go_wp2_with fail
          refine (H1.out).mono ?_
          rintro e w1 ⟨rfl, b1⟩
          have bA : Below w1.heap.size w1 (w1.alloc (.cells #[.int .i64 10, .int .i64 (-24), .int .i64 5] 95)) := (Below.refl _ _).alloc (Nat.le_refl _) _
          have c0 : (w1.alloc (.cells #[.int .i64 10, .int .i64 (-24), .int .i64 5] 95)).cell? ⟨w1.heap.size, 0, none⟩ = some (.int .i64 (10)) := World.cell?_alloc_at _ _ _ _ rfl
          have c1 : (w1.alloc (.cells #[.int .i64 10, .int .i64 (-24), .int .i64 5] 95)).cell? ⟨w1.heap.size, 1, none⟩ = some (.int .i64 (-24)) := World.cell?_alloc_at _ _ _ _ rfl
          have c2 : (w1.alloc (.cells #[.int .i64 10, .int .i64 (-24), .int .i64 5] 95)).cell? ⟨w1.heap.size, 2, none⟩ = some (.int .i64 (5)) := World.cell?_alloc_at _ _ _ _ rfl
          have HS2 := Lib.hid (H2.out (w1.alloc (.cells #[.int .i64 10, .int .i64 (-24), .int .i64 5] 95)) ((hS.below b1 (Nat.le_refl _)).below bA (Nat.le_refl _)))
          go_wp2_with fail
          refine (HS2.out).mono ?_
          rintro e w2 ⟨rfl, b2⟩
          have d0 := below_cell b2 (Nat.le_refl _) c0
          have d1 := below_cell b2 (Nat.le_refl _) c1
          have d2 := below_cell b2 (Nat.le_refl _) c2
          have b2' := below_trans bA b2
          go_wp2_with fail
          refine (shinf_16 w2).mono ?_
          rintro e w3 ⟨rfl, b3⟩
          have e0 := below_cell b3 (Nat.le_refl _) d0
          have e1 := below_cell b3 (Nat.le_refl _) d1
          have e2 := below_cell b3 (Nat.le_refl _) d2
          go_wp2_with fail
          refine (shinf_16 w3).mono ?_
          rintro e w4 ⟨rfl, b4⟩
          have g0 := below_cell b4 (Nat.le_refl _) e0
          have g1 := below_cell b4 (Nat.le_refl _) e1
          have g2 := below_cell b4 (Nat.le_refl _) e2
          go_wp2
          go_ret
          rw [HR.out]
          exact ⟨rfl, below_trans b1 (below_trans b2' (below_trans b3 b4))⟩
        · have HR := Lib.hid (show C = 3 by rw [HC.out, if_neg t1, if_neg t2, if_neg t3, if_neg t4])
          have t4' : (z / 1024 == 0) = false := by simp; omega
          clear HC t3 t2 t4
          go_enter Tryz.func56, Tryz.ntmps56
          go_wp2_with fail
          refine (H1.out).mono ?_
          rintro e w1 ⟨rfl, b1⟩
          have bA : Below w1.heap.size w1 (w1.alloc (.cells #[.int .i64 10, .int .i64 (-24), .int .i64 5] 95)) := (Below.refl _ _).alloc (Nat.le_refl _) _
          have c0 : (w1.alloc (.cells #[.int .i64 10, .int .i64 (-24), .int .i64 5] 95)).cell? ⟨w1.heap.size, 0, none⟩ = some (.int .i64 (10)) := World.cell?_alloc_at _ _ _ _ rfl
          have c1 : (w1.alloc (.cells #[.int .i64 10, .int .i64 (-24), .int .i64 5] 95)).cell? ⟨w1.heap.size, 1, none⟩ = some (.int .i64 (-24)) := World.cell?_alloc_at _ _ _ _ rfl
          have c2 : (w1.alloc (.cells #[.int .i64 10, .int .i64 (-24), .int .i64 5] 95)).cell? ⟨w1.heap.size, 2, none⟩ = some (.int .i64 (5)) := World.cell?_alloc_at _ _ _ _ rfl
          have HS2 := Lib.hid (H2.out (w1.alloc (.cells #[.int .i64 10, .int .i64 (-24), .int .i64 5] 95)) ((hS.below b1 (Nat.le_refl _)).below bA (Nat.le_refl _)))
          go_wp2_with fail
          refine (HS2.out).mono ?_
          rintro e w2 ⟨rfl, b2⟩
          have d0 := below_cell b2 (Nat.le_refl _) c0
          have d1 := below_cell b2 (Nat.le_refl _) c1
          have d2 := below_cell b2 (Nat.le_refl _) c2
          have b2' := below_trans bA b2
          go_wp2_with fail
          refine (shinf_16 w2).mono ?_
          rintro e w3 ⟨rfl, b3⟩
          have e0 := below_cell b3 (Nat.le_refl _) d0
          have e1 := below_cell b3 (Nat.le_refl _) d1
          have e2 := below_cell b3 (Nat.le_refl _) d2
          go_wp2_with fail
          refine (shinf_16 w3).mono ?_
          rintro e w4 ⟨rfl, b4⟩
          have g0 := below_cell b4 (Nat.le_refl _) e0
          have g1 := below_cell b4 (Nat.le_refl _) e1
          have g2 := below_cell b4 (Nat.le_refl _) e2
          go_wp2
          go_ret
          rw [HR.out]
          exact ⟨rfl, below_trans b1 (below_trans b2' (below_trans b3 b4))⟩
end Go.Proofs.YtoimhjcpeifegaaGreatDoor


/- A pattern in another width, and the nearest pattern to a whole number: plain definitions. -/
namespace Go.Proofs.YtoimhjcpeifegaaGreatDoor

theorem pow_wide {W : Nat} (hW : Wide W) : (2 : Int) ^ W = sgnW W + sgnW W ∧ 0 < sgnW W ∧ (2 : Int) ^ W ≤ 18446744073709551616 := by rcases hW with rfl | rfl | rfl <;> decide
theorem roundW_bd {W : Nat} (hW : Wide W) (neg : Bool) (V p : Int) (more : Bool) : 0 ≤ roundW W neg V p more ∧ roundW W neg V p more < 2 ^ W := by
  have h1 := nearE_le W (rM V more) (rE p more)
  have h2 := infN_lt hW
  have h3 := pow_wide hW
  unfold roundW
  cases neg <;> simp <;> omega

/-- Has y of width V the number that x of width W has? -/
def sameW (V W : Nat) (x y : Int) : Bool := pOk V y && decide (pM V y = pM W x) && decide (pE V y = pE W x)
noncomputable def toW (V W : Nat) (x : Int) : Int × Bool :=
  if isNaN W x then (nanW V, true) else if sizeW W x = infW W then ((if negW W x then sgnW V else 0) + infW V, true)
  else (roundW V (pNeg W x) (pM W x) (pE W x) false, sameW V W x (roundW V (pNeg W x) (pM W x) (pE W x) false))
/-- The nearest pattern to a whole number, and is it that number? -/
noncomputable def fromW (W : Nat) (N : Int) : Int × Bool :=
  (roundW W (decide (N < 0)) N.natAbs 0 false, intOk W (roundW W (decide (N < 0)) N.natAbs 0 false) && decide ((intN W (roundW W (decide (N < 0)) N.natAbs 0 false)).natAbs = N.natAbs))
theorem inf_fits {W : Nat} (hW : Wide W) : 0 < infW W ∧ infW W < sgnW W ∧ nanW W < sgnW W ∧ 0 < nanW W := by rcases hW with rfl | rfl | rfl <;> decide
end Go.Proofs.YtoimhjcpeifegaaGreatDoor


/- Printed by ieee2.py. -/
namespace Go.Proofs.YtoimhjcpeifegaaGreatDoor
open Go.RowKit

theorem class_32 (w : World) (hS : Shapes w) (x : Int) (hx : 0 ≤ x ∧ x < 4294967296) : Calls Tryz.prog 66 #[.int .u32 x] w (fun e w' => e = .returned (.int .i8 (clsW 32 x)) ∧ Below w.heap.size w w') := by
  have HC := Lib.hid (show clsW 32 x = if 2139095040 < sizeW 32 x then 5 else if sizeW 32 x = 2139095040 then 4 else if sizeW 32 x = 0 then 1 else if sizeW 32 x < 8388608 then 2 else 3 by unfold clsW; rw [inf32, show (2 : Int) ^ shF 32 = 8388608 from by decide])
  have H1 := Lib.hid (of_32 w hS)
  have H2 := Lib.hid (fun (w : World) (hS : Shapes w) => split_32 w hS x hx)
  have hz0 := (size_bounds (W := 32) (by unfold Wide; omega) x ⟨hx.1, by exact hx.2⟩).1
  generalize clsW 32 x = C at *
  generalize sizeW 32 x = z at *
  by_cases t1 : 2139095040 < z
  · have HR := Lib.hid (show C = 5 by rw [HC.out, if_pos t1])
    clear HC
    go_enter Tryz.func66, Tryz.ntmps66
    go_wp2_with fail
    refine (H1.out).mono ?_
    rintro e w1 ⟨rfl, b1⟩
    have bA : Below w1.heap.size w1 (w1.alloc (.cells #[.int .i64 23, .int .i64 (-149), .int .i64 8] 95)) := (Below.refl _ _).alloc (Nat.le_refl _) _
    have c0 : (w1.alloc (.cells #[.int .i64 23, .int .i64 (-149), .int .i64 8] 95)).cell? ⟨w1.heap.size, 0, none⟩ = some (.int .i64 (23)) := World.cell?_alloc_at _ _ _ _ rfl
    have c1 : (w1.alloc (.cells #[.int .i64 23, .int .i64 (-149), .int .i64 8] 95)).cell? ⟨w1.heap.size, 1, none⟩ = some (.int .i64 (-149)) := World.cell?_alloc_at _ _ _ _ rfl
    have c2 : (w1.alloc (.cells #[.int .i64 23, .int .i64 (-149), .int .i64 8] 95)).cell? ⟨w1.heap.size, 2, none⟩ = some (.int .i64 (8)) := World.cell?_alloc_at _ _ _ _ rfl
    have HS2 := Lib.hid (H2.out (w1.alloc (.cells #[.int .i64 23, .int .i64 (-149), .int .i64 8] 95)) ((hS.below b1 (Nat.le_refl _)).below bA (Nat.le_refl _)))
    go_wp2_with fail
    refine (HS2.out).mono ?_
    rintro e w2 ⟨rfl, b2⟩
    have d0 := below_cell b2 (Nat.le_refl _) c0
    have d1 := below_cell b2 (Nat.le_refl _) c1
    have d2 := below_cell b2 (Nat.le_refl _) c2
    have b2' := below_trans bA b2
    go_wp2_with fail
    refine (shinf_32 w2).mono ?_
    rintro e w3 ⟨rfl, b3⟩
    have e0 := below_cell b3 (Nat.le_refl _) d0
    have e1 := below_cell b3 (Nat.le_refl _) d1
    have e2 := below_cell b3 (Nat.le_refl _) d2
    go_wp2
    go_ret
    rw [HR.out]
    exact ⟨rfl, below_trans b1 (below_trans b2' b3)⟩
  · by_cases t2 : z = 2139095040
    · have HR := Lib.hid (show C = 4 by rw [HC.out, if_neg t1, if_pos t2])
      have t2' : (z == 2139095040) = true := by simpa using t2
      clear HC t2
      go_enter Tryz.func66, Tryz.ntmps66
      go_wp2_with fail
      refine (H1.out).mono ?_
      rintro e w1 ⟨rfl, b1⟩
      have bA : Below w1.heap.size w1 (w1.alloc (.cells #[.int .i64 23, .int .i64 (-149), .int .i64 8] 95)) := (Below.refl _ _).alloc (Nat.le_refl _) _
      have c0 : (w1.alloc (.cells #[.int .i64 23, .int .i64 (-149), .int .i64 8] 95)).cell? ⟨w1.heap.size, 0, none⟩ = some (.int .i64 (23)) := World.cell?_alloc_at _ _ _ _ rfl
      have c1 : (w1.alloc (.cells #[.int .i64 23, .int .i64 (-149), .int .i64 8] 95)).cell? ⟨w1.heap.size, 1, none⟩ = some (.int .i64 (-149)) := World.cell?_alloc_at _ _ _ _ rfl
      have c2 : (w1.alloc (.cells #[.int .i64 23, .int .i64 (-149), .int .i64 8] 95)).cell? ⟨w1.heap.size, 2, none⟩ = some (.int .i64 (8)) := World.cell?_alloc_at _ _ _ _ rfl
      have HS2 := Lib.hid (H2.out (w1.alloc (.cells #[.int .i64 23, .int .i64 (-149), .int .i64 8] 95)) ((hS.below b1 (Nat.le_refl _)).below bA (Nat.le_refl _)))
      go_wp2_with fail
      refine (HS2.out).mono ?_
      rintro e w2 ⟨rfl, b2⟩
      have d0 := below_cell b2 (Nat.le_refl _) c0
      have d1 := below_cell b2 (Nat.le_refl _) c1
      have d2 := below_cell b2 (Nat.le_refl _) c2
      have b2' := below_trans bA b2
      go_wp2_with fail
      refine (shinf_32 w2).mono ?_
      rintro e w3 ⟨rfl, b3⟩
      have e0 := below_cell b3 (Nat.le_refl _) d0
      have e1 := below_cell b3 (Nat.le_refl _) d1
      have e2 := below_cell b3 (Nat.le_refl _) d2
      go_wp2_with fail
      refine (shinf_32 w3).mono ?_
      rintro e w4 ⟨rfl, b4⟩
      have g0 := below_cell b4 (Nat.le_refl _) e0
      have g1 := below_cell b4 (Nat.le_refl _) e1
      have g2 := below_cell b4 (Nat.le_refl _) e2
      go_wp2
      go_ret
      rw [HR.out]
      exact ⟨rfl, below_trans b1 (below_trans b2' (below_trans b3 b4))⟩
    · have t2' : (z == 2139095040) = false := by simpa using t2
      by_cases t3 : z = 0
      · have HR := Lib.hid (show C = 1 by rw [HC.out, if_neg t1, if_neg t2, if_pos t3])
        have t3' : (z == 0) = true := by simpa using t3
        clear HC t3 t2
        go_enter Tryz.func66, Tryz.ntmps66
        go_wp2_with fail
        refine (H1.out).mono ?_
        rintro e w1 ⟨rfl, b1⟩
        have bA : Below w1.heap.size w1 (w1.alloc (.cells #[.int .i64 23, .int .i64 (-149), .int .i64 8] 95)) := (Below.refl _ _).alloc (Nat.le_refl _) _
        have c0 : (w1.alloc (.cells #[.int .i64 23, .int .i64 (-149), .int .i64 8] 95)).cell? ⟨w1.heap.size, 0, none⟩ = some (.int .i64 (23)) := World.cell?_alloc_at _ _ _ _ rfl
        have c1 : (w1.alloc (.cells #[.int .i64 23, .int .i64 (-149), .int .i64 8] 95)).cell? ⟨w1.heap.size, 1, none⟩ = some (.int .i64 (-149)) := World.cell?_alloc_at _ _ _ _ rfl
        have c2 : (w1.alloc (.cells #[.int .i64 23, .int .i64 (-149), .int .i64 8] 95)).cell? ⟨w1.heap.size, 2, none⟩ = some (.int .i64 (8)) := World.cell?_alloc_at _ _ _ _ rfl
        have HS2 := Lib.hid (H2.out (w1.alloc (.cells #[.int .i64 23, .int .i64 (-149), .int .i64 8] 95)) ((hS.below b1 (Nat.le_refl _)).below bA (Nat.le_refl _)))
        go_wp2_with fail
        refine (HS2.out).mono ?_
        rintro e w2 ⟨rfl, b2⟩
        have d0 := below_cell b2 (Nat.le_refl _) c0
        have d1 := below_cell b2 (Nat.le_refl _) c1
        have d2 := below_cell b2 (Nat.le_refl _) c2
        have b2' := below_trans bA b2
        go_wp2_with fail
        refine (shinf_32 w2).mono ?_
        rintro e w3 ⟨rfl, b3⟩
        have e0 := below_cell b3 (Nat.le_refl _) d0
        have e1 := below_cell b3 (Nat.le_refl _) d1
        have e2 := below_cell b3 (Nat.le_refl _) d2
        go_wp2_with fail
        refine (shinf_32 w3).mono ?_
        rintro e w4 ⟨rfl, b4⟩
        have g0 := below_cell b4 (Nat.le_refl _) e0
        have g1 := below_cell b4 (Nat.le_refl _) e1
        have g2 := below_cell b4 (Nat.le_refl _) e2
        go_wp2
        go_ret
        rw [HR.out]
        exact ⟨rfl, below_trans b1 (below_trans b2' (below_trans b3 b4))⟩
      · have t3' : (z == 0) = false := by simpa using t3
        by_cases t4 : z < 8388608
        · have HR := Lib.hid (show C = 2 by rw [HC.out, if_neg t1, if_neg t2, if_neg t3, if_pos t4])
          have t4' : (z / 8388608 == 0) = true := by simp; omega
          clear HC t3 t2 t4
          go_enter Tryz.func66, Tryz.ntmps66
          go_wp2_with fail
          refine (H1.out).mono ?_
          rintro e w1 ⟨rfl, b1⟩
          have bA : Below w1.heap.size w1 (w1.alloc (.cells #[.int .i64 23, .int .i64 (-149), .int .i64 8] 95)) := (Below.refl _ _).alloc (Nat.le_refl _) _
          have c0 : (w1.alloc (.cells #[.int .i64 23, .int .i64 (-149), .int .i64 8] 95)).cell? ⟨w1.heap.size, 0, none⟩ = some (.int .i64 (23)) := World.cell?_alloc_at _ _ _ _ rfl
          have c1 : (w1.alloc (.cells #[.int .i64 23, .int .i64 (-149), .int .i64 8] 95)).cell? ⟨w1.heap.size, 1, none⟩ = some (.int .i64 (-149)) := World.cell?_alloc_at _ _ _ _ rfl
          have c2 : (w1.alloc (.cells #[.int .i64 23, .int .i64 (-149), .int .i64 8] 95)).cell? ⟨w1.heap.size, 2, none⟩ = some (.int .i64 (8)) := World.cell?_alloc_at _ _ _ _ rfl
          have HS2 := Lib.hid (H2.out (w1.alloc (.cells #[.int .i64 23, .int .i64 (-149), .int .i64 8] 95)) ((hS.below b1 (Nat.le_refl _)).below bA (Nat.le_refl _)))
          go_wp2_with fail
          refine (HS2.out).mono ?_
          rintro e w2 ⟨rfl, b2⟩
          have d0 := below_cell b2 (Nat.le_refl _) c0
          have d1 := below_cell b2 (Nat.le_refl _) c1
          have d2 := below_cell b2 (Nat.le_refl _) c2
          have b2' := below_trans bA b2
          go_wp2_with fail
          refine (shinf_32 w2).mono ?_
          rintro e w3 ⟨rfl, b3⟩
          have e0 := below_cell b3 (Nat.le_refl _) d0
          have e1 := below_cell b3 (Nat.le_refl _) d1
          have e2 := below_cell b3 (Nat.le_refl _) d2
          go_wp2_with fail
          refine (shinf_32 w3).mono ?_
          rintro e w4 ⟨rfl, b4⟩
          have g0 := below_cell b4 (Nat.le_refl _) e0
          have g1 := below_cell b4 (Nat.le_refl _) e1
          have g2 := below_cell b4 (Nat.le_refl _) e2
          go_wp2
          go_ret
          rw [HR.out]
          exact ⟨rfl, below_trans b1 (below_trans b2' (below_trans b3 b4))⟩
        · have HR := Lib.hid (show C = 3 by rw [HC.out, if_neg t1, if_neg t2, if_neg t3, if_neg t4])
          have t4' : (z / 8388608 == 0) = false := by simp; omega
          clear HC t3 t2 t4
          go_enter Tryz.func66, Tryz.ntmps66
          go_wp2_with fail
          refine (H1.out).mono ?_
          rintro e w1 ⟨rfl, b1⟩
          have bA : Below w1.heap.size w1 (w1.alloc (.cells #[.int .i64 23, .int .i64 (-149), .int .i64 8] 95)) := (Below.refl _ _).alloc (Nat.le_refl _) _
          have c0 : (w1.alloc (.cells #[.int .i64 23, .int .i64 (-149), .int .i64 8] 95)).cell? ⟨w1.heap.size, 0, none⟩ = some (.int .i64 (23)) := World.cell?_alloc_at _ _ _ _ rfl
          have c1 : (w1.alloc (.cells #[.int .i64 23, .int .i64 (-149), .int .i64 8] 95)).cell? ⟨w1.heap.size, 1, none⟩ = some (.int .i64 (-149)) := World.cell?_alloc_at _ _ _ _ rfl
          have c2 : (w1.alloc (.cells #[.int .i64 23, .int .i64 (-149), .int .i64 8] 95)).cell? ⟨w1.heap.size, 2, none⟩ = some (.int .i64 (8)) := World.cell?_alloc_at _ _ _ _ rfl
          have HS2 := Lib.hid (H2.out (w1.alloc (.cells #[.int .i64 23, .int .i64 (-149), .int .i64 8] 95)) ((hS.below b1 (Nat.le_refl _)).below bA (Nat.le_refl _)))
          go_wp2_with fail
          refine (HS2.out).mono ?_
          rintro e w2 ⟨rfl, b2⟩
          have d0 := below_cell b2 (Nat.le_refl _) c0
          have d1 := below_cell b2 (Nat.le_refl _) c1
          have d2 := below_cell b2 (Nat.le_refl _) c2
          have b2' := below_trans bA b2
          go_wp2_with fail
          refine (shinf_32 w2).mono ?_
          rintro e w3 ⟨rfl, b3⟩
          have e0 := below_cell b3 (Nat.le_refl _) d0
          have e1 := below_cell b3 (Nat.le_refl _) d1
          have e2 := below_cell b3 (Nat.le_refl _) d2
          go_wp2_with fail
          refine (shinf_32 w3).mono ?_
          rintro e w4 ⟨rfl, b4⟩
          have g0 := below_cell b4 (Nat.le_refl _) e0
          have g1 := below_cell b4 (Nat.le_refl _) e1
          have g2 := below_cell b4 (Nat.le_refl _) e2
          go_wp2
          go_ret
          rw [HR.out]
          exact ⟨rfl, below_trans b1 (below_trans b2' (below_trans b3 b4))⟩
end Go.Proofs.YtoimhjcpeifegaaGreatDoor

