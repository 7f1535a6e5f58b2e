/- Contracts of functions, and plain facts, part 36. -/
import Derived.Test.YtbcbmkeeoognpaaGreatDoorCards
import Derived.Lib.LaidTab
import Derived.Test.YtbcbmkeeoognpaaGreatDoorPk5
import Derived.Test.YtbcbmkeeoognpaaGreatDoorPk6
import Derived.Test.YtbcbmkeeoognpaaGreatDoorPk7
import Derived.Test.YtbcbmkeeoognpaaGreatDoorPk8
import Derived.Test.YtbcbmkeeoognpaaGreatDoorPk11
import Derived.Test.YtbcbmkeeoognpaaGreatDoorPk13
import Derived.Test.YtbcbmkeeoognpaaGreatDoorPk20
import Derived.Test.YtbcbmkeeoognpaaGreatDoorPk23
import Derived.Test.YtbcbmkeeoognpaaGreatDoorPk32
import Derived.Test.YtbcbmkeeoognpaaGreatDoorPk33
import Derived.Test.YtbcbmkeeoognpaaGreatDoorPk34
import Derived.Test.YtbcbmkeeoognpaaGreatDoorPk35
set_option linter.unusedVariables false
set_option linter.unusedSimpArgs false
/- Printed by ieee2.py. -/
namespace Go.Proofs.YtbcbmkeeoognpaaGreatDoor
open Go.RowKit

theorem next_16 (w : World) (hS : Shapes w) (x : Int) (hx : 0 ≤ x ∧ x < 65536) : Calls Tryz.prog 108 #[.int .u16 x] w (fun e w' => e = .returned (.int .u16 (nextW 16 x)) ∧ Below w.heap.size w w') := by
  have HC := Lib.hid (show nextW 16 x = if 31744 < sizeW 16 x ∨ x = 31744 then x else if sizeW 16 x = 0 then 1 else if negW 16 x then x - 1 else x + 1 by unfold nextW; rw [inf16])
  have H1 := Lib.hid (of_16 w hS)
  have H2 := Lib.hid (fun (w : World) (hS : Shapes w) => split_16 w hS x hx)
  have hn1 : negW 16 x = true → 32768 ≤ x := fun h => by have := of_decide_eq_true h; rwa [sgn16] at this
  have hn2 : negW 16 x = false → x < 32768 ∧ sizeW 16 x = x := fun h => by
    have h2 := of_decide_eq_false h
    have h3 : sizeW 16 x = x := by unfold sizeW; rw [if_neg h2]
    rw [sgn16] at h2
    exact ⟨by omega, h3⟩
  generalize nextW 16 x = C at *
  generalize sizeW 16 x = z at *
  generalize negW 16 x = n at *
  by_cases t1 : 31744 < z
  · have HR := Lib.hid (show C = x by rw [HC.out, if_pos (.inl t1)])
    clear HC hn1 hn2
    go_enter Tryz.func108, Tryz.ntmps108
    go_wp2_with fail
    refine (H1.out).mono ?_
    rintro e w1 ⟨rfl, b1⟩
    have bA : Below w1.heap.size w1 (w1.alloc (.cells #[.int .i64 10, .int .i64 (-24), .int .i64 5] 228)) := (Below.refl _ _).alloc (Nat.le_refl _) _
    have c0 : (w1.alloc (.cells #[.int .i64 10, .int .i64 (-24), .int .i64 5] 228)).cell? ⟨w1.heap.size, 0, none⟩ = some (.int .i64 (10)) := World.cell?_alloc_at _ _ _ _ rfl
    have c1 : (w1.alloc (.cells #[.int .i64 10, .int .i64 (-24), .int .i64 5] 228)).cell? ⟨w1.heap.size, 1, none⟩ = some (.int .i64 (-24)) := World.cell?_alloc_at _ _ _ _ rfl
    have c2 : (w1.alloc (.cells #[.int .i64 10, .int .i64 (-24), .int .i64 5] 228)).cell? ⟨w1.heap.size, 2, none⟩ = some (.int .i64 (5)) := World.cell?_alloc_at _ _ _ _ rfl
    have HS2 := Lib.hid (H2.out (w1.alloc (.cells #[.int .i64 10, .int .i64 (-24), .int .i64 5] 228)) ((hS.below b1 (Nat.le_refl _)).below bA (Nat.le_refl _)))
    go_wp2_with fail
    refine (HS2.out).mono ?_
    rintro e w2 ⟨rfl, b2⟩
    have d0 := below_cell b2 (Nat.le_refl _) c0
    have d1 := below_cell b2 (Nat.le_refl _) c1
    have d2 := below_cell b2 (Nat.le_refl _) c2
    have b2' := below_trans bA b2
    go_wp2_with fail
    refine (shinf_16 w2).mono ?_
    rintro e w3 ⟨rfl, b3⟩
    have e0 := below_cell b3 (Nat.le_refl _) d0
    have e1 := below_cell b3 (Nat.le_refl _) d1
    have e2 := below_cell b3 (Nat.le_refl _) d2
    go_wp2
    go_ret
    rw [HR.out]
    exact ⟨rfl, below_trans b1 (below_trans b2' b3)⟩
  · cases n
    · obtain ⟨hx1, hxz⟩ := hn2 rfl
      subst hxz
      clear hn1 hn2
      by_cases t2 : z = 31744
      · have HR := Lib.hid (show C = z by rw [HC.out, if_pos (.inr t2)])
        have t2' : (z == 31744) = true := by simpa using t2
        clear HC t2
        go_enter Tryz.func108, Tryz.ntmps108
        go_wp2_with fail
        refine (H1.out).mono ?_
        rintro e w1 ⟨rfl, b1⟩
        have bA : Below w1.heap.size w1 (w1.alloc (.cells #[.int .i64 10, .int .i64 (-24), .int .i64 5] 228)) := (Below.refl _ _).alloc (Nat.le_refl _) _
        have c0 : (w1.alloc (.cells #[.int .i64 10, .int .i64 (-24), .int .i64 5] 228)).cell? ⟨w1.heap.size, 0, none⟩ = some (.int .i64 (10)) := World.cell?_alloc_at _ _ _ _ rfl
        have c1 : (w1.alloc (.cells #[.int .i64 10, .int .i64 (-24), .int .i64 5] 228)).cell? ⟨w1.heap.size, 1, none⟩ = some (.int .i64 (-24)) := World.cell?_alloc_at _ _ _ _ rfl
        have c2 : (w1.alloc (.cells #[.int .i64 10, .int .i64 (-24), .int .i64 5] 228)).cell? ⟨w1.heap.size, 2, none⟩ = some (.int .i64 (5)) := World.cell?_alloc_at _ _ _ _ rfl
        have HS2 := Lib.hid (H2.out (w1.alloc (.cells #[.int .i64 10, .int .i64 (-24), .int .i64 5] 228)) ((hS.below b1 (Nat.le_refl _)).below bA (Nat.le_refl _)))
        go_wp2_with fail
        refine (HS2.out).mono ?_
        rintro e w2 ⟨rfl, b2⟩
        have d0 := below_cell b2 (Nat.le_refl _) c0
        have d1 := below_cell b2 (Nat.le_refl _) c1
        have d2 := below_cell b2 (Nat.le_refl _) c2
        have b2' := below_trans bA b2
        go_wp2_with fail
        refine (shinf_16 w2).mono ?_
        rintro e w3 ⟨rfl, b3⟩
        have e0 := below_cell b3 (Nat.le_refl _) d0
        have e1 := below_cell b3 (Nat.le_refl _) d1
        have e2 := below_cell b3 (Nat.le_refl _) d2
        go_wp2_with fail
        refine (shinf_16 w3).mono ?_
        rintro e w4 ⟨rfl, b4⟩
        have g0 := below_cell b4 (Nat.le_refl _) e0
        have g1 := below_cell b4 (Nat.le_refl _) e1
        have g2 := below_cell b4 (Nat.le_refl _) e2
        go_wp2
        go_ret
        rw [HR.out]
        exact ⟨rfl, below_trans b1 (below_trans b2' (below_trans b3 b4))⟩
      · have t2' : (z == 31744) = false := by simpa using t2
        have hor : ¬ (31744 < z ∨ z = 31744) := fun h => h.elim t1 t2
        by_cases t3 : z = 0
        · have HR := Lib.hid (show C = 1 by rw [HC.out, if_neg hor, if_pos t3])
          have t3' : (z == 0) = true := by simpa using t3
          clear HC t3 t2 hor
          go_enter Tryz.func108, Tryz.ntmps108
          go_wp2_with fail
          refine (H1.out).mono ?_
          rintro e w1 ⟨rfl, b1⟩
          have bA : Below w1.heap.size w1 (w1.alloc (.cells #[.int .i64 10, .int .i64 (-24), .int .i64 5] 228)) := (Below.refl _ _).alloc (Nat.le_refl _) _
          have c0 : (w1.alloc (.cells #[.int .i64 10, .int .i64 (-24), .int .i64 5] 228)).cell? ⟨w1.heap.size, 0, none⟩ = some (.int .i64 (10)) := World.cell?_alloc_at _ _ _ _ rfl
          have c1 : (w1.alloc (.cells #[.int .i64 10, .int .i64 (-24), .int .i64 5] 228)).cell? ⟨w1.heap.size, 1, none⟩ = some (.int .i64 (-24)) := World.cell?_alloc_at _ _ _ _ rfl
          have c2 : (w1.alloc (.cells #[.int .i64 10, .int .i64 (-24), .int .i64 5] 228)).cell? ⟨w1.heap.size, 2, none⟩ = some (.int .i64 (5)) := World.cell?_alloc_at _ _ _ _ rfl
          have HS2 := Lib.hid (H2.out (w1.alloc (.cells #[.int .i64 10, .int .i64 (-24), .int .i64 5] 228)) ((hS.below b1 (Nat.le_refl _)).below bA (Nat.le_refl _)))
          go_wp2_with fail
          refine (HS2.out).mono ?_
          rintro e w2 ⟨rfl, b2⟩
          have d0 := below_cell b2 (Nat.le_refl _) c0
          have d1 := below_cell b2 (Nat.le_refl _) c1
          have d2 := below_cell b2 (Nat.le_refl _) c2
          have b2' := below_trans bA b2
          go_wp2_with fail
          refine (shinf_16 w2).mono ?_
          rintro e w3 ⟨rfl, b3⟩
          have e0 := below_cell b3 (Nat.le_refl _) d0
          have e1 := below_cell b3 (Nat.le_refl _) d1
          have e2 := below_cell b3 (Nat.le_refl _) d2
          go_wp2_with fail
          refine (shinf_16 w3).mono ?_
          rintro e w4 ⟨rfl, b4⟩
          have g0 := below_cell b4 (Nat.le_refl _) e0
          have g1 := below_cell b4 (Nat.le_refl _) e1
          have g2 := below_cell b4 (Nat.le_refl _) e2
          go_wp2
          go_ret
          rw [HR.out]
          exact ⟨rfl, below_trans b1 (below_trans b2' (below_trans b3 b4))⟩
        · have HR := Lib.hid (show C = z + 1 by rw [HC.out, if_neg hor, if_neg t3, if_neg (by decide)])
          have t3' : (z == 0) = false := by simpa using t3
          have W1 : IntKind.u16.wrap (z + 1) = z + 1 := by rw [IntKind.wrap_u16]; omega
          have W2 : (z + 1) % 65536 = z + 1 := by omega
          clear HC t3 t2 hor
          go_enter Tryz.func108, Tryz.ntmps108
          go_wp2_with fail
          refine (H1.out).mono ?_
          rintro e w1 ⟨rfl, b1⟩
          have bA : Below w1.heap.size w1 (w1.alloc (.cells #[.int .i64 10, .int .i64 (-24), .int .i64 5] 228)) := (Below.refl _ _).alloc (Nat.le_refl _) _
          have c0 : (w1.alloc (.cells #[.int .i64 10, .int .i64 (-24), .int .i64 5] 228)).cell? ⟨w1.heap.size, 0, none⟩ = some (.int .i64 (10)) := World.cell?_alloc_at _ _ _ _ rfl
          have c1 : (w1.alloc (.cells #[.int .i64 10, .int .i64 (-24), .int .i64 5] 228)).cell? ⟨w1.heap.size, 1, none⟩ = some (.int .i64 (-24)) := World.cell?_alloc_at _ _ _ _ rfl
          have c2 : (w1.alloc (.cells #[.int .i64 10, .int .i64 (-24), .int .i64 5] 228)).cell? ⟨w1.heap.size, 2, none⟩ = some (.int .i64 (5)) := World.cell?_alloc_at _ _ _ _ rfl
          have HS2 := Lib.hid (H2.out (w1.alloc (.cells #[.int .i64 10, .int .i64 (-24), .int .i64 5] 228)) ((hS.below b1 (Nat.le_refl _)).below bA (Nat.le_refl _)))
          go_wp2_with fail
          refine (HS2.out).mono ?_
          rintro e w2 ⟨rfl, b2⟩
          have d0 := below_cell b2 (Nat.le_refl _) c0
          have d1 := below_cell b2 (Nat.le_refl _) c1
          have d2 := below_cell b2 (Nat.le_refl _) c2
          have b2' := below_trans bA b2
          go_wp2_with fail
          refine (shinf_16 w2).mono ?_
          rintro e w3 ⟨rfl, b3⟩
          have e0 := below_cell b3 (Nat.le_refl _) d0
          have e1 := below_cell b3 (Nat.le_refl _) d1
          have e2 := below_cell b3 (Nat.le_refl _) d2
          go_wp2_with fail
          refine (shinf_16 w3).mono ?_
          rintro e w4 ⟨rfl, b4⟩
          have g0 := below_cell b4 (Nat.le_refl _) e0
          have g1 := below_cell b4 (Nat.le_refl _) e1
          have g2 := below_cell b4 (Nat.le_refl _) e2
          go_wp2
          go_ret
          rw [HR.out]
          exact ⟨rfl, below_trans b1 (below_trans b2' (below_trans b3 b4))⟩
    · have hx1 := hn1 rfl
      clear hn1 hn2
      have hor : ¬ (31744 < z ∨ x = 31744) := fun h => h.elim t1 (fun e => by omega)
      by_cases t3 : z = 0
      · have HR := Lib.hid (show C = 1 by rw [HC.out, if_neg hor, if_pos t3])
        have t3' : (z == 0) = true := by simpa using t3
        clear HC t3 hor
        go_enter Tryz.func108, Tryz.ntmps108
        go_wp2_with fail
        refine (H1.out).mono ?_
        rintro e w1 ⟨rfl, b1⟩
        have bA : Below w1.heap.size w1 (w1.alloc (.cells #[.int .i64 10, .int .i64 (-24), .int .i64 5] 228)) := (Below.refl _ _).alloc (Nat.le_refl _) _
        have c0 : (w1.alloc (.cells #[.int .i64 10, .int .i64 (-24), .int .i64 5] 228)).cell? ⟨w1.heap.size, 0, none⟩ = some (.int .i64 (10)) := World.cell?_alloc_at _ _ _ _ rfl
        have c1 : (w1.alloc (.cells #[.int .i64 10, .int .i64 (-24), .int .i64 5] 228)).cell? ⟨w1.heap.size, 1, none⟩ = some (.int .i64 (-24)) := World.cell?_alloc_at _ _ _ _ rfl
        have c2 : (w1.alloc (.cells #[.int .i64 10, .int .i64 (-24), .int .i64 5] 228)).cell? ⟨w1.heap.size, 2, none⟩ = some (.int .i64 (5)) := World.cell?_alloc_at _ _ _ _ rfl
        have HS2 := Lib.hid (H2.out (w1.alloc (.cells #[.int .i64 10, .int .i64 (-24), .int .i64 5] 228)) ((hS.below b1 (Nat.le_refl _)).below bA (Nat.le_refl _)))
        go_wp2_with fail
        refine (HS2.out).mono ?_
        rintro e w2 ⟨rfl, b2⟩
        have d0 := below_cell b2 (Nat.le_refl _) c0
        have d1 := below_cell b2 (Nat.le_refl _) c1
        have d2 := below_cell b2 (Nat.le_refl _) c2
        have b2' := below_trans bA b2
        go_wp2_with fail
        refine (shinf_16 w2).mono ?_
        rintro e w3 ⟨rfl, b3⟩
        have e0 := below_cell b3 (Nat.le_refl _) d0
        have e1 := below_cell b3 (Nat.le_refl _) d1
        have e2 := below_cell b3 (Nat.le_refl _) d2
        go_wp2
        go_ret
        rw [HR.out]
        exact ⟨rfl, below_trans b1 (below_trans b2' b3)⟩
      · have HR := Lib.hid (show C = x - 1 by rw [HC.out, if_neg hor, if_neg t3, if_pos rfl])
        have t3' : (z == 0) = false := by simpa using t3
        have W1 : IntKind.u16.wrap (x - 1) = x - 1 := by rw [IntKind.wrap_u16]; omega
        have W2 : (x - 1) % 65536 = x - 1 := by omega
        clear HC t3 hor
        go_enter Tryz.func108, Tryz.ntmps108
        go_wp2_with fail
        refine (H1.out).mono ?_
        rintro e w1 ⟨rfl, b1⟩
        have bA : Below w1.heap.size w1 (w1.alloc (.cells #[.int .i64 10, .int .i64 (-24), .int .i64 5] 228)) := (Below.refl _ _).alloc (Nat.le_refl _) _
        have c0 : (w1.alloc (.cells #[.int .i64 10, .int .i64 (-24), .int .i64 5] 228)).cell? ⟨w1.heap.size, 0, none⟩ = some (.int .i64 (10)) := World.cell?_alloc_at _ _ _ _ rfl
        have c1 : (w1.alloc (.cells #[.int .i64 10, .int .i64 (-24), .int .i64 5] 228)).cell? ⟨w1.heap.size, 1, none⟩ = some (.int .i64 (-24)) := World.cell?_alloc_at _ _ _ _ rfl
        have c2 : (w1.alloc (.cells #[.int .i64 10, .int .i64 (-24), .int .i64 5] 228)).cell? ⟨w1.heap.size, 2, none⟩ = some (.int .i64 (5)) := World.cell?_alloc_at _ _ _ _ rfl
        have HS2 := Lib.hid (H2.out (w1.alloc (.cells #[.int .i64 10, .int .i64 (-24), .int .i64 5] 228)) ((hS.below b1 (Nat.le_refl _)).below bA (Nat.le_refl _)))
        go_wp2_with fail
        refine (HS2.out).mono ?_
        rintro e w2 ⟨rfl, b2⟩
        have d0 := below_cell b2 (Nat.le_refl _) c0
        have d1 := below_cell b2 (Nat.le_refl _) c1
        have d2 := below_cell b2 (Nat.le_refl _) c2
        have b2' := below_trans bA b2
        go_wp2_with fail
        refine (shinf_16 w2).mono ?_
        rintro e w3 ⟨rfl, b3⟩
        have e0 := below_cell b3 (Nat.le_refl _) d0
        have e1 := below_cell b3 (Nat.le_refl _) d1
        have e2 := below_cell b3 (Nat.le_refl _) d2
        go_wp2
        go_ret
        rw [HR.out]
        exact ⟨rfl, below_trans b1 (below_trans b2' b3)⟩
end Go.Proofs.YtbcbmkeeoognpaaGreatDoor


/- The table of places out of a row's list. -/
namespace Go.Proofs.YtbcbmkeeoognpaaGreatDoor
open Go.RowKit

theorem gTz : Tryz.prog.globalNamed "math/bits.deBruijn64tab" = some 3 := by kernel_rfl
theorem gTzType : (Tryz.prog.globals[3]?).map (·.type) = some 279 := by kernel_rfl
theorem cellsTz : Tryz.prog.cellsOf 279 = 64 := by kernel_rfl
theorem cellsU8 : Tryz.prog.cellsOf 5 = 1 := by kernel_rfl
theorem tz_get : ∀ j, j < 64 → (Lib.deBruijn64tab.map (fun n : Nat => (n : Int))).getD j 0 = ((Lib.deBruijn64tab.getD j 0 : Nat) : Int) := by decide

theorem tab_of_laid {W : World} {rest : List (String × DataW Unit)} (h : laidMet Tryz.prog (("math/bits.deBruijn64tab", Rows.laid_math_bits_deBruijn64tab) :: rest) W) : Tab W := by
  have ht : Lib.TabIs Tryz.prog W "math/bits.deBruijn64tab" .u8 (Lib.deBruijn64tab.map (fun n : Nat => (n : Int))) :=
    Lib.tabIs_of_head (rest := rest) gTz gTzType Tryz.underlying279 Tryz.underlying5 cellsU8 cellsTz h
  intro j hj
  rw [← tz_get j hj]
  exact ht.cell gTz j (by decide +revert)
end Go.Proofs.YtbcbmkeeoognpaaGreatDoor


/- Printed by law4.py. -/
namespace Go.Proofs.YtbcbmkeeoognpaaGreatDoor
open Go.RowKit

theorem lives_near : nearE 16 3 (-1) = 15872 := by
  have h := nearE_exact (W := 16) (by unfold Wide; omega) 3 14 9 (-1) (by decide) (.inr (by decide)) (by decide) (by decide)
  rw [h]
  decide
theorem lives_round : roundW 16 true 3 (-1) false = 48640 := by
  unfold roundW
  rw [show rM 3 false = 3 from rfl, show rE (-1) false = -1 from rfl, lives_near]
  decide

theorem num_three (w : World) : Num (w.alloc (.cells #[.int .u32 3] 44)) (some ⟨w.heap.size, 0, none⟩) 1 1 3 :=
  ⟨Nat.le_refl _, [3], (Blk.made w 44 .u32 [3] _ rfl).rds, Dig.cons (by omega) (by omega) (Dig.nil _), rfl⟩

set_option maxHeartbeats 2000000 in
theorem llives_calls (w : World) (hS : Shapes w) (hT : Tab w) : Calls Tryz.prog 19 #[] w (fun e w' => e = .returned (.bool true) ∧ Below w.heap.size w w') := by
  have P := parts_16 w hS hT 48640 (by omega)
  rw [show pNeg 16 48640 = true by decide, show pM 16 48640 = 3 by decide, show pE 16 48640 = -1 by decide, show pOk 16 48640 = true by decide] at P
  have P1 := Lib.hid P
  clear P
  go_enter Tryz.func19, Tryz.ntmps19
  go_wp2_with fail
  refine (P1.out).mono ?_
  rintro e w1 ⟨rfl, b1⟩
  have bA : Below w1.heap.size w1 (w1.alloc (.cells #[.int .u32 3] 44)) := (Below.refl _ _).alloc (Nat.le_refl _) _
  have a1 := below_trans b1 bA
  have R := round_16 _ (hS.below a1 (Nat.le_refl _)) true _ 1 1 3 (-1) false (num_three w1) (by omega) (by omega)
  rw [lives_round] at R
  have R1 := Lib.hid R
  clear R
  go_wp2_with fail
  refine (R1.out).mono ?_
  rintro e w2 ⟨rfl, b2⟩
  have a2 := below_trans a1 b2
  have N := next_16 w2 (hS.below a2 (Nat.le_refl _)) 48640 (by omega)
  rw [show nextW 16 48640 = 48639 by decide] at N
  have N1 := Lib.hid N
  clear N
  go_wp2_with fail
  refine (N1.out).mono ?_
  rintro e w3 ⟨rfl, b3⟩
  go_wp2
  go_ret
  exact ⟨rfl, below_trans a2 b3⟩
end Go.Proofs.YtbcbmkeeoognpaaGreatDoor


/- Functions that read the laid variables shapes and deBruijn64tab. -/
namespace Go.Proofs.YtbcbmkeeoognpaaGreatDoor
open Go Go.RowKit

structure EnvP (w : World) (B : Bx) : Prop where
  sh : Shapes w
  tab : Tab w
  no : ¬ B 2
theorem cell_mv {w w' : World} {B B' : Bx} (h : Mv w B w' B') {a : Addr} {v : Value} (hc : w.cell? a = some v) (hn : ¬ B a.block ∨ ¬ Plain w a.block) : w'.cell? a = some v := by
  have hl := World.block_lt_of_cell? w a hc
  rcases h.same _ hl with h1 | ⟨h1, h2⟩
  · rw [← hc]; exact World.cell?_of_block h1
  · rcases hn with h3 | h3
    · exact absurd h1 h3
    · exact absurd h2 h3
theorem EnvP.mv {w w' : World} {B B' : Bx} (h : Mv w B w' B') (e : EnvP w B) : EnvP w' B' := by
  obtain ⟨⟨c0, c1, c2, c3, c4, c5, c6, c7, c8⟩, ht, hn⟩ := e
  have k : ∀ {j : Nat} {v : Value}, w.cell? ⟨2, j, none⟩ = some v → w'.cell? ⟨2, j, none⟩ = some v := fun hc => cell_mv h hc (.inl hn)
  refine ⟨⟨k c0, k c1, k c2, k c3, k c4, k c5, k c6, k c7, k c8⟩, fun j hj => cell_mv h (ht j hj) (.inr fun hp => hp _ .u8 _ rfl (.inr rfl) (ht j hj)), fun hb => hn (h.box _ (World.block_lt_of_cell? w _ c0) hb)⟩
def EnvV : VP := ⟨fun _ w B => EnvP w B, fun _ _ _ _ _ h e => e.mv h⟩
structure ConE (P : Program) (f : FuncId) (Ds : List VP) (R : VP) : Prop where
  enters : ∀ (vs : Array Value) (w : World), (callFunc f vs).run P w = .ok (.enter f vs) w
  calls : ∀ (vs : List Value) (w : World) (B : Bx), Own1 B w → EnvP w B → VAll vs Ds w B → Calls P f vs.toArray w (fun e w' => ∃ v, e = .returned v ∧ R.p v w' B ∧ Below w.heap.size w w')
theorem ConE.weak {P : Program} {f : FuncId} {Ds : List VP} {R R' : VP} (h : ConE P f Ds R) (hw : ∀ v w B, R.p v w B → R'.p v w B) : ConE P f Ds R' :=
  ⟨h.enters, fun vs w B hB hE hV => (h.calls vs w B hB hE hV).mono fun e w' ⟨v, e1, h1, h2⟩ => ⟨v, e1, hw _ _ _ h1, h2⟩⟩
section
variable {P : Program} {need : List (Tmp × FD)} {d : Option Tmp} {ty : TypeId} {pos : String} {af : Array Edge} {g : Option (Nat × Bool)}
theorem ok_callE {f : FuncId} {args : List Operand} {ts : Array TypeId} {Ds : List VP} {R : VP} (C : ConE P f Ds R) (k : Nat) {s : Tmp} (hk : need[k]? = some (s, .val EnvV)) (h : Opds need args Ds) : OpOk P ⟨d, .call { callee := .value (.func f), args := args.toArray, argTypes := ts }, ty, pos, af, g⟩ need (.val R) false := by
  intro Q K a w B hB hF hK
  have hr : (execOp a.eval ⟨d, .call { callee := .value (.func f), args := args.toArray, argTypes := ts }, ty, pos, af, g⟩).run P w = .ok (.enter f (args.map a.eval).toArray) w := by
    simp [execOp, resolve, Act.eval, Deferred.ofValue, invoke, Sem.run_bind, C.enters]
  unfold Oper.wp
  rw [hr]
  have hE : EnvP w B := hF.get k hk
  refine (C.calls (args.map a.eval) w B hB hE (h.all hF)).mono ?_
  rintro e w' ⟨v, rfl, h1, h2⟩
  have hbl := Bl.of_below B h2
  exact hK v w' B h1 hbl h2 (fun k hk => Nat.lt_of_lt_of_le (hB k hk) h2.size) (by simp)
end
end Go.Proofs.YtbcbmkeeoognpaaGreatDoor


/- Lists and whole numbers that are memory of their own: as words on values, and the base contracts that answer such. -/
set_option maxRecDepth 50000
namespace Go.Proofs.YtbcbmkeeoognpaaGreatDoor
open Go Go.RowKit

/-- A list in a block of its own. -/
def Hdd : VP := ⟨fun v w B => ∃ g, PHd g v w B, fun v w B w' B' h ⟨g, hp⟩ => ⟨g, PHd.st v w B w' B' h hp⟩⟩
def PHdI (g : Option Nat) (v : Value) (w : World) (B : Bx) : Prop := ∃ b sl, v = .agg #[.bool b, sl] ∧ PHd g sl w B
theorem PHdI.st {g : Option Nat} (v : Value) (w : World) (B : Bx) (w' : World) (B' : Bx) (h : Mv w B w' B') (hp : PHdI g v w B) : PHdI g v w' B' := by
  obtain ⟨b, sl, e, hp⟩ := hp
  exact ⟨b, sl, e, PHd.st sl w B w' B' h hp⟩
def HddI : VP := ⟨fun v w B => ∃ g, PHdI g v w B, fun v w B w' B' h ⟨g, hp⟩ => ⟨g, PHdI.st v w B w' B' h hp⟩⟩
abbrev IsCo (V : Int) : VP := VP.and (IsC V) Hdd
abbrev IsIo (N : Int) : VP := VP.and (IsI N) HddI
/-- A whole number whose list lies in block g. -/
def IsHdI (g : Option Nat) (D : VP) : VP := ⟨fun v w B => PHdI g v w B ∧ D.p v w B, fun v w B w' B' h hp => ⟨PHdI.st v w B w' B' h hp.1, D.st _ _ _ _ _ h hp.2⟩⟩
def IsFrI (lo : Nat) (D : VP) : VP := ⟨fun v w B => ∃ g, (∀ b, g = some b → lo ≤ b) ∧ PHdI g v w B ∧ D.p v w B, fun v w B w' B' h ⟨g, h1, h2, h3⟩ => ⟨g, h1, PHdI.st v w B w' B' h h2, D.st _ _ _ _ _ h h3⟩⟩
theorem weakCoC {V : Int} (v : Value) (w : World) (B : Bx) (h : (IsCo V).p v w B) : (IsC V).p v w B := h.1
theorem weakCoM {V : Int} (v : Value) (w : World) (B : Bx) (h : (IsCo V).p v w B) : (IsM V).p v w B := weakCM _ _ _ h.1
theorem weakHdIo {g : Option Nat} {N : Int} (v : Value) (w : World) (B : Bx) (h : (IsHdI g (IsI N)).p v w B) : (IsIo N).p v w B := ⟨h.2, g, h.1⟩
theorem weakHdI {g : Option Nat} {D : VP} (v : Value) (w : World) (B : Bx) (h : (IsHdI g D).p v w B) : D.p v w B := h.2
theorem weakFrI {lo : Nat} {D : VP} (v : Value) (w : World) (B : Bx) (h : (IsFrI lo D).p v w B) : D.p v w B := by
  obtain ⟨g, _, _, h⟩ := h
  exact h
theorem nil_hd (w : World) (B : Bx) : PHd none (.slice none 0 0) w B := ⟨none, 0, 0, rfl, Nat.le_refl _, by omega, by omega, fun _ => rfl, fun h => absurd h (by omega)⟩
theorem weakNilCo (v : Value) (w : World) (B : Bx) (h : (Lit (.slice none 0 0)).p v w B) : (IsCo 0).p v w B := by
  have h2 := weakNilM v w B h
  obtain rfl := h
  exact ⟨h2, none, nil_hd w B⟩
theorem isCo_eq {A N : Int} (e : A = N) {v : Value} {w : World} {B : Bx} (h : (IsCo A).p v w B) : (IsCo N).p v w B := e ▸ h
theorem isIo_eq {A N : Int} (e : A = N) {v : Value} {w : World} {B : Bx} (h : (IsIo A).p v w B) : (IsIo N).p v w B := e ▸ h
theorem shape_Io {N : Int} : Shape 2 (IsIo N) := fun v w B h => shape_I _ _ _ h.1
theorem shape_HdI {g : Option Nat} {N : Int} : Shape 2 (IsHdI g (IsI N)) := fun v w B h => shape_I _ _ _ h.2
theorem shape_FrI {lo : Nat} {N : Int} : Shape 2 (IsFrI lo (IsI N)) := fun v w B h => shape_I _ _ _ (weakFrI _ _ _ h)
theorem co_of_own {w w' : World} {B : Bx} {ad : Option Addr} {n c : Nat} {V : Int} {k : Nat} (hB : Own1 B w) (o : Own w.heap.size w' 44 .u32 ad n c (dg 4294967296 V)) (hf : Fits V) (hV : 0 ≤ V) : (IsCo V).p (.slice ad n c) w' B := by
  have hlim := lim_eq
  obtain ⟨q, hq, hf⟩ := hf
  have hl := Nat.le_trans (own_len o hf hV) hq
  obtain ⟨g, _, h2, _⟩ := PHd.of_own (Nat.zero_le _) hB o (by omega)
  exact ⟨⟨ad, n, c, rfl, ⟨o.le, o.rds⟩, hl, hV⟩, g, h2⟩
/-- All old blocks. -/
abbrev Old (w : World) : Bx := fun k => k < w.heap.size
theorem old_own (w : World) : Own1 (Old w) w := fun _ h => h
theorem PHd.fresh {g : Option Nat} {v : Value} {w w' : World} {B : Bx} (h : PHd g v w' (Old w)) (hB : Own1 B w) : (∀ b, g = some b → w.heap.size ≤ b) ∧ PHd g v w' B := by
  obtain ⟨ad, n, c, e, h1, h2, h3, h4, h5⟩ := h
  refine ⟨fun b hb => ?_, ad, n, c, e, h1, h2, h3, h4, fun hc => ?_⟩
  · by_cases hc : 0 < c
    · obtain ⟨x, cs, e1, e2, e3, _⟩ := h5 hc
      rw [hb] at e1
      have e1 : b = x := by injection e1
      subst e1
      exact Nat.le_of_not_lt e3
    · rw [h4 (by omega)] at hb; cases hb
  · obtain ⟨x, cs, e1, e2, e3, e4, e5⟩ := h5 hc
    exact ⟨x, cs, e1, e2, fun h => e3 (hB x h), e4, e5⟩
theorem Con.fresh {P : Program} {f : FuncId} {Ds : List VP} {V : Int} (h : Con P f Ds (IsCo V)) (hfree : ∀ vs w B B', VAll vs Ds w B → VAll vs Ds w B') : ConF P f Ds (fun lo => IsFr lo (IsC V)) :=
  ⟨h.enters, fun lo vs w B hlo hB hV => (h.calls vs w (Old w) (old_own w) (hfree _ _ _ _ hV)).mono fun e w' ⟨v, e1, ⟨h1, g, h2⟩, h3⟩ =>
    ⟨v, e1, ⟨g, fun b hb => Nat.le_trans hlo ((h2.fresh hB).1 b hb), (h2.fresh hB).2, h1⟩, h3⟩⟩
theorem PHdI.fresh {g : Option Nat} {v : Value} {w w' : World} {B : Bx} (h : PHdI g v w' (Old w)) (hB : Own1 B w) : (∀ b, g = some b → w.heap.size ≤ b) ∧ PHdI g v w' B := by
  obtain ⟨b, sl, e, h⟩ := h
  exact ⟨(h.fresh hB).1, b, sl, e, (h.fresh hB).2⟩
theorem Con.freshI {P : Program} {f : FuncId} {Ds : List VP} {N : Int} (h : Con P f Ds (IsIo N)) (hfree : ∀ vs w B B', VAll vs Ds w B → VAll vs Ds w B') : ConF P f Ds (fun lo => IsFrI lo (IsI N)) :=
  ⟨h.enters, fun lo vs w B hlo hB hV => (h.calls vs w (Old w) (old_own w) (hfree _ _ _ _ hV)).mono fun e w' ⟨v, e1, ⟨h1, g, h2⟩, h3⟩ =>
    ⟨v, e1, ⟨g, fun b hb => Nat.le_trans hlo ((h2.fresh hB).1 b hb), (h2.fresh hB).2, h1⟩, h3⟩⟩
theorem con_natnormO (V : Int) : Con Tryz.prog 62 [IsM V] (IsCo V) := by
  refine ⟨fun _ _ => by go_simp, fun vs w B hB hV => ?_⟩
  match vs, hV with
  | [v], ⟨h1, _⟩ =>
    have hf := PM.fit h1
    have h0 := PM.nonneg h1
    obtain ⟨ad, n, c, rfl, k, l⟩ := h1
    obtain ⟨xs, r1, r2, rfl⟩ := k.row
    have hlim := lim_eq
    refine (norm_calls ad n c xs w (by omega) k.le r1 r2).mono ?_
    rintro e w' ⟨ad2, n2, c2, rfl, o, hb⟩
    exact ⟨_, rfl, co_of_own (k := 0) hB o hf h0, hb⟩
theorem con_natfromO (x : Int) (hx : 0 ≤ x ∧ x < 18446744073709551616) : Con Tryz.prog 121 [Lit (.int .u64 x)] (IsCo x) := by
  refine ⟨fun _ _ => by go_simp, fun vs w B hB hV => ?_⟩
  match vs, hV with
  | [v], ⟨h1, _⟩ =>
    obtain rfl := h1
    refine (from_calls x w hx.1 hx.2).mono ?_
    rintro e w' ⟨ad2, n2, c2, rfl, o, hb⟩
    exact ⟨_, rfl, co_of_own (k := 0) hB o ⟨2, by have := lim_eq; omega, by unfold FitK; rw [show (4294967296 : Int) ^ 2 = 18446744073709551616 from by decide]; omega⟩ hx.1, hb⟩
theorem con_natshlO (V n : Int) (hn : -9223372036854775808 ≤ n ∧ n < 9223372036854775808) (hf : Fits (shlNum V n)) (h0 : 0 ≤ shlNum V n) : Con Tryz.prog 59 [IsM V, Lit (.int .i64 n)] (Tup [IsCo (shlNum V n), IsB (shlOk V n)]) := by
  refine ⟨fun _ _ => by go_simp, fun vs w B hB hV => ?_⟩
  match vs, hV with
  | [v, u], ⟨h1, h2, _⟩ =>
    obtain ⟨ad, nn, c, rfl, k, l⟩ := h1
    obtain rfl := h2
    obtain ⟨xs, r1, r2, rfl⟩ := k.row
    have hlim := lim_eq
    refine (shl_calls ad nn c xs n w (by omega) k.le r1 r2 hn).mono ?_
    rintro e w' ⟨ad2, n2, c2, rfl, o, hb⟩
    exact ⟨_, rfl, ⟨[.slice ad2 n2 c2, .bool _], rfl, co_of_own (k := 0) hB o hf h0, rfl, trivial⟩, hb⟩
section
variable {need : List (Tmp × FD)} {d : Option Tmp} {ty : TypeId} {pos : String} {af : Array Edge} {g : Option (Nat × Bool)} {x y : Operand}
theorem run_buildI (b : Bool) (v : Value) (w : World) (hv : v.oneCell' = true) : (Instr.build 52 #[(0, .bool b), (1, v)]).run Tryz.prog w = .ok (.agg #[.bool b, v]) w := by
  cases v <;> first | (simp [Value.oneCell'] at hv; done) | go_simp
theorem ok_buildHdI {k : Option Nat} {b : Bool} {V N : Int} (hx : Opd need x (.val (IsB b))) (hy : Opd need y (.val (IsHd k (IsC V)))) (hb : b = decide (N < 0)) (hV : V = (N.natAbs : Int)) : OpOk Tryz.prog ⟨d, .build 52 #[(0, x), (1, y)], ty, pos, af, g⟩ need (.val (IsHdI k (IsI N))) false :=
  OpOk.value fun a w B hF => by
    have e1 : a.eval x = .bool b := hx a w B hF
    have h1 := hy a w B hF
    obtain ⟨h2, ad, n, c, e, k2, l, hV0⟩ := h1
    have e2 : a.eval y = .slice ad n c := e
    refine ⟨.agg #[.bool b, .slice ad n c], ?_, ⟨b, _, rfl, e ▸ h2⟩, ad, n, c, by rw [hb], by rw [← hV]; exact k2, l⟩
    have := run_buildI b (.slice ad n c) w rfl
    simp [execOp, e1, e2, this]
end
/-- A word that does not ask which blocks are variables. -/
def Free (D : VP) : Prop := ∀ v w B B', D.p v w B → D.p v w B'
def FreeL : List VP → Prop
  | [] => True
  | D :: Ds => Free D ∧ FreeL Ds
theorem FreeL.all : ∀ {Ds : List VP}, FreeL Ds → ∀ vs w B B', VAll vs Ds w B → VAll vs Ds w B'
  | [], _, [], _, _, _, _ => trivial
  | [], _, _ :: _, _, _, _, h => h.elim
  | D :: Ds, _, [], _, _, _, h => h.elim
  | D :: Ds, ⟨h1, h2⟩, v :: vs, w, B, B', ⟨h3, h4⟩ => ⟨h1 v w B B' h3, FreeL.all h2 vs w B B' h4⟩
theorem free_N {N : Int} : Free (IsN N) := fun v w B B' h => show PN N v w B' from (show PN N v w B from h)
end Go.Proofs.YtbcbmkeeoognpaaGreatDoor

