/- Printed by ieee2.py. -/
import Derived.Test.YtmnabilgpndjmaaDoorSplitOwn
import Derived.Test.YtmnabilgpndjmaaDoorShape
set_option linter.unusedVariables false
set_option linter.unusedSimpArgs false
namespace Go.Proofs.YtmnabilgpndjmaaDoor
open Go.RowKit

theorem next_Own (w : World) (hS : Shapes w) (x : Int) (hx : 0 ≤ x ∧ x < 4294967296) : Calls Tryd.prog 61 #[.int .u32 x] w (fun e w' => e = .returned (.int .u32 (nextW 32 x)) ∧ Below w.heap.size w w') := by
  have HC := Lib.hid (show nextW 32 x = if 2139095040 < sizeW 32 x ∨ x = 2139095040 then x else if sizeW 32 x = 0 then 1 else if negW 32 x then x - 1 else x + 1 by unfold nextW; rw [inf32])
  have H1 := Lib.hid (of_Own w hS)
  have H2 := Lib.hid (fun (w : World) (hS : Shapes w) => split_Own w hS x hx)
  have hn1 : negW 32 x = true → 2147483648 ≤ x := fun h => by have := of_decide_eq_true h; rwa [sgn32] at this
  have hn2 : negW 32 x = false → x < 2147483648 ∧ sizeW 32 x = x := fun h => by
    have h2 := of_decide_eq_false h
    have h3 : sizeW 32 x = x := by unfold sizeW; rw [if_neg h2]
    rw [sgn32] at h2
    exact ⟨by omega, h3⟩
  generalize nextW 32 x = C at *
  generalize sizeW 32 x = z at *
  generalize negW 32 x = n at *
  by_cases t1 : 2139095040 < z
  · have HR := Lib.hid (show C = x by rw [HC.out, if_pos (.inl t1)])
    clear HC hn1 hn2
    go_enter Tryd.func61, Tryd.ntmps61
    go_wp2_with fail
    refine (H1.out).mono ?_
    rintro e w1 ⟨rfl, b1⟩
    have bA : Below w1.heap.size w1 (w1.alloc (.cells #[.int .i64 23, .int .i64 (-149), .int .i64 8] 142)) := (Below.refl _ _).alloc (Nat.le_refl _) _
    have c0 : (w1.alloc (.cells #[.int .i64 23, .int .i64 (-149), .int .i64 8] 142)).cell? ⟨w1.heap.size, 0, none⟩ = some (.int .i64 (23)) := World.cell?_alloc_at _ _ _ _ rfl
    have c1 : (w1.alloc (.cells #[.int .i64 23, .int .i64 (-149), .int .i64 8] 142)).cell? ⟨w1.heap.size, 1, none⟩ = some (.int .i64 (-149)) := World.cell?_alloc_at _ _ _ _ rfl
    have c2 : (w1.alloc (.cells #[.int .i64 23, .int .i64 (-149), .int .i64 8] 142)).cell? ⟨w1.heap.size, 2, none⟩ = some (.int .i64 (8)) := World.cell?_alloc_at _ _ _ _ rfl
    have HS2 := Lib.hid (H2.out (w1.alloc (.cells #[.int .i64 23, .int .i64 (-149), .int .i64 8] 142)) ((hS.below b1 (Nat.le_refl _)).below bA (Nat.le_refl _)))
    go_wp2_with fail
    refine (HS2.out).mono ?_
    rintro e w2 ⟨rfl, b2⟩
    have d0 := below_cell b2 (Nat.le_refl _) c0
    have d1 := below_cell b2 (Nat.le_refl _) c1
    have d2 := below_cell b2 (Nat.le_refl _) c2
    have b2' := below_trans bA b2
    go_wp2_with fail
    refine (shinf_32 w2).mono ?_
    rintro e w3 ⟨rfl, b3⟩
    have e0 := below_cell b3 (Nat.le_refl _) d0
    have e1 := below_cell b3 (Nat.le_refl _) d1
    have e2 := below_cell b3 (Nat.le_refl _) d2
    go_wp2
    go_ret
    rw [HR.out]
    exact ⟨rfl, below_trans b1 (below_trans b2' b3)⟩
  · cases n
    · obtain ⟨hx1, hxz⟩ := hn2 rfl
      subst hxz
      clear hn1 hn2
      by_cases t2 : z = 2139095040
      · have HR := Lib.hid (show C = z by rw [HC.out, if_pos (.inr t2)])
        have t2' : (z == 2139095040) = true := by simpa using t2
        clear HC t2
        go_enter Tryd.func61, Tryd.ntmps61
        go_wp2_with fail
        refine (H1.out).mono ?_
        rintro e w1 ⟨rfl, b1⟩
        have bA : Below w1.heap.size w1 (w1.alloc (.cells #[.int .i64 23, .int .i64 (-149), .int .i64 8] 142)) := (Below.refl _ _).alloc (Nat.le_refl _) _
        have c0 : (w1.alloc (.cells #[.int .i64 23, .int .i64 (-149), .int .i64 8] 142)).cell? ⟨w1.heap.size, 0, none⟩ = some (.int .i64 (23)) := World.cell?_alloc_at _ _ _ _ rfl
        have c1 : (w1.alloc (.cells #[.int .i64 23, .int .i64 (-149), .int .i64 8] 142)).cell? ⟨w1.heap.size, 1, none⟩ = some (.int .i64 (-149)) := World.cell?_alloc_at _ _ _ _ rfl
        have c2 : (w1.alloc (.cells #[.int .i64 23, .int .i64 (-149), .int .i64 8] 142)).cell? ⟨w1.heap.size, 2, none⟩ = some (.int .i64 (8)) := World.cell?_alloc_at _ _ _ _ rfl
        have HS2 := Lib.hid (H2.out (w1.alloc (.cells #[.int .i64 23, .int .i64 (-149), .int .i64 8] 142)) ((hS.below b1 (Nat.le_refl _)).below bA (Nat.le_refl _)))
        go_wp2_with fail
        refine (HS2.out).mono ?_
        rintro e w2 ⟨rfl, b2⟩
        have d0 := below_cell b2 (Nat.le_refl _) c0
        have d1 := below_cell b2 (Nat.le_refl _) c1
        have d2 := below_cell b2 (Nat.le_refl _) c2
        have b2' := below_trans bA b2
        go_wp2_with fail
        refine (shinf_32 w2).mono ?_
        rintro e w3 ⟨rfl, b3⟩
        have e0 := below_cell b3 (Nat.le_refl _) d0
        have e1 := below_cell b3 (Nat.le_refl _) d1
        have e2 := below_cell b3 (Nat.le_refl _) d2
        go_wp2_with fail
        refine (shinf_32 w3).mono ?_
        rintro e w4 ⟨rfl, b4⟩
        have g0 := below_cell b4 (Nat.le_refl _) e0
        have g1 := below_cell b4 (Nat.le_refl _) e1
        have g2 := below_cell b4 (Nat.le_refl _) e2
        go_wp2
        go_ret
        rw [HR.out]
        exact ⟨rfl, below_trans b1 (below_trans b2' (below_trans b3 b4))⟩
      · have t2' : (z == 2139095040) = false := by simpa using t2
        have hor : ¬ (2139095040 < z ∨ z = 2139095040) := fun h => h.elim t1 t2
        by_cases t3 : z = 0
        · have HR := Lib.hid (show C = 1 by rw [HC.out, if_neg hor, if_pos t3])
          have t3' : (z == 0) = true := by simpa using t3
          clear HC t3 t2 hor
          go_enter Tryd.func61, Tryd.ntmps61
          go_wp2_with fail
          refine (H1.out).mono ?_
          rintro e w1 ⟨rfl, b1⟩
          have bA : Below w1.heap.size w1 (w1.alloc (.cells #[.int .i64 23, .int .i64 (-149), .int .i64 8] 142)) := (Below.refl _ _).alloc (Nat.le_refl _) _
          have c0 : (w1.alloc (.cells #[.int .i64 23, .int .i64 (-149), .int .i64 8] 142)).cell? ⟨w1.heap.size, 0, none⟩ = some (.int .i64 (23)) := World.cell?_alloc_at _ _ _ _ rfl
          have c1 : (w1.alloc (.cells #[.int .i64 23, .int .i64 (-149), .int .i64 8] 142)).cell? ⟨w1.heap.size, 1, none⟩ = some (.int .i64 (-149)) := World.cell?_alloc_at _ _ _ _ rfl
          have c2 : (w1.alloc (.cells #[.int .i64 23, .int .i64 (-149), .int .i64 8] 142)).cell? ⟨w1.heap.size, 2, none⟩ = some (.int .i64 (8)) := World.cell?_alloc_at _ _ _ _ rfl
          have HS2 := Lib.hid (H2.out (w1.alloc (.cells #[.int .i64 23, .int .i64 (-149), .int .i64 8] 142)) ((hS.below b1 (Nat.le_refl _)).below bA (Nat.le_refl _)))
          go_wp2_with fail
          refine (HS2.out).mono ?_
          rintro e w2 ⟨rfl, b2⟩
          have d0 := below_cell b2 (Nat.le_refl _) c0
          have d1 := below_cell b2 (Nat.le_refl _) c1
          have d2 := below_cell b2 (Nat.le_refl _) c2
          have b2' := below_trans bA b2
          go_wp2_with fail
          refine (shinf_32 w2).mono ?_
          rintro e w3 ⟨rfl, b3⟩
          have e0 := below_cell b3 (Nat.le_refl _) d0
          have e1 := below_cell b3 (Nat.le_refl _) d1
          have e2 := below_cell b3 (Nat.le_refl _) d2
          go_wp2_with fail
          refine (shinf_32 w3).mono ?_
          rintro e w4 ⟨rfl, b4⟩
          have g0 := below_cell b4 (Nat.le_refl _) e0
          have g1 := below_cell b4 (Nat.le_refl _) e1
          have g2 := below_cell b4 (Nat.le_refl _) e2
          go_wp2
          go_ret
          rw [HR.out]
          exact ⟨rfl, below_trans b1 (below_trans b2' (below_trans b3 b4))⟩
        · have HR := Lib.hid (show C = z + 1 by rw [HC.out, if_neg hor, if_neg t3, if_neg (by decide)])
          have t3' : (z == 0) = false := by simpa using t3
          have W1 : IntKind.u32.wrap (z + 1) = z + 1 := by rw [IntKind.wrap_u32]; omega
          have W2 : (z + 1) % 4294967296 = z + 1 := by omega
          clear HC t3 t2 hor
          go_enter Tryd.func61, Tryd.ntmps61
          go_wp2_with fail
          refine (H1.out).mono ?_
          rintro e w1 ⟨rfl, b1⟩
          have bA : Below w1.heap.size w1 (w1.alloc (.cells #[.int .i64 23, .int .i64 (-149), .int .i64 8] 142)) := (Below.refl _ _).alloc (Nat.le_refl _) _
          have c0 : (w1.alloc (.cells #[.int .i64 23, .int .i64 (-149), .int .i64 8] 142)).cell? ⟨w1.heap.size, 0, none⟩ = some (.int .i64 (23)) := World.cell?_alloc_at _ _ _ _ rfl
          have c1 : (w1.alloc (.cells #[.int .i64 23, .int .i64 (-149), .int .i64 8] 142)).cell? ⟨w1.heap.size, 1, none⟩ = some (.int .i64 (-149)) := World.cell?_alloc_at _ _ _ _ rfl
          have c2 : (w1.alloc (.cells #[.int .i64 23, .int .i64 (-149), .int .i64 8] 142)).cell? ⟨w1.heap.size, 2, none⟩ = some (.int .i64 (8)) := World.cell?_alloc_at _ _ _ _ rfl
          have HS2 := Lib.hid (H2.out (w1.alloc (.cells #[.int .i64 23, .int .i64 (-149), .int .i64 8] 142)) ((hS.below b1 (Nat.le_refl _)).below bA (Nat.le_refl _)))
          go_wp2_with fail
          refine (HS2.out).mono ?_
          rintro e w2 ⟨rfl, b2⟩
          have d0 := below_cell b2 (Nat.le_refl _) c0
          have d1 := below_cell b2 (Nat.le_refl _) c1
          have d2 := below_cell b2 (Nat.le_refl _) c2
          have b2' := below_trans bA b2
          go_wp2_with fail
          refine (shinf_32 w2).mono ?_
          rintro e w3 ⟨rfl, b3⟩
          have e0 := below_cell b3 (Nat.le_refl _) d0
          have e1 := below_cell b3 (Nat.le_refl _) d1
          have e2 := below_cell b3 (Nat.le_refl _) d2
          go_wp2_with fail
          refine (shinf_32 w3).mono ?_
          rintro e w4 ⟨rfl, b4⟩
          have g0 := below_cell b4 (Nat.le_refl _) e0
          have g1 := below_cell b4 (Nat.le_refl _) e1
          have g2 := below_cell b4 (Nat.le_refl _) e2
          go_wp2
          go_ret
          rw [HR.out]
          exact ⟨rfl, below_trans b1 (below_trans b2' (below_trans b3 b4))⟩
    · have hx1 := hn1 rfl
      clear hn1 hn2
      have hor : ¬ (2139095040 < z ∨ x = 2139095040) := fun h => h.elim t1 (fun e => by omega)
      by_cases t3 : z = 0
      · have HR := Lib.hid (show C = 1 by rw [HC.out, if_neg hor, if_pos t3])
        have t3' : (z == 0) = true := by simpa using t3
        clear HC t3 hor
        go_enter Tryd.func61, Tryd.ntmps61
        go_wp2_with fail
        refine (H1.out).mono ?_
        rintro e w1 ⟨rfl, b1⟩
        have bA : Below w1.heap.size w1 (w1.alloc (.cells #[.int .i64 23, .int .i64 (-149), .int .i64 8] 142)) := (Below.refl _ _).alloc (Nat.le_refl _) _
        have c0 : (w1.alloc (.cells #[.int .i64 23, .int .i64 (-149), .int .i64 8] 142)).cell? ⟨w1.heap.size, 0, none⟩ = some (.int .i64 (23)) := World.cell?_alloc_at _ _ _ _ rfl
        have c1 : (w1.alloc (.cells #[.int .i64 23, .int .i64 (-149), .int .i64 8] 142)).cell? ⟨w1.heap.size, 1, none⟩ = some (.int .i64 (-149)) := World.cell?_alloc_at _ _ _ _ rfl
        have c2 : (w1.alloc (.cells #[.int .i64 23, .int .i64 (-149), .int .i64 8] 142)).cell? ⟨w1.heap.size, 2, none⟩ = some (.int .i64 (8)) := World.cell?_alloc_at _ _ _ _ rfl
        have HS2 := Lib.hid (H2.out (w1.alloc (.cells #[.int .i64 23, .int .i64 (-149), .int .i64 8] 142)) ((hS.below b1 (Nat.le_refl _)).below bA (Nat.le_refl _)))
        go_wp2_with fail
        refine (HS2.out).mono ?_
        rintro e w2 ⟨rfl, b2⟩
        have d0 := below_cell b2 (Nat.le_refl _) c0
        have d1 := below_cell b2 (Nat.le_refl _) c1
        have d2 := below_cell b2 (Nat.le_refl _) c2
        have b2' := below_trans bA b2
        go_wp2_with fail
        refine (shinf_32 w2).mono ?_
        rintro e w3 ⟨rfl, b3⟩
        have e0 := below_cell b3 (Nat.le_refl _) d0
        have e1 := below_cell b3 (Nat.le_refl _) d1
        have e2 := below_cell b3 (Nat.le_refl _) d2
        go_wp2
        go_ret
        rw [HR.out]
        exact ⟨rfl, below_trans b1 (below_trans b2' b3)⟩
      · have HR := Lib.hid (show C = x - 1 by rw [HC.out, if_neg hor, if_neg t3, if_pos rfl])
        have t3' : (z == 0) = false := by simpa using t3
        have W1 : IntKind.u32.wrap (x - 1) = x - 1 := by rw [IntKind.wrap_u32]; omega
        have W2 : (x - 1) % 4294967296 = x - 1 := by omega
        clear HC t3 hor
        go_enter Tryd.func61, Tryd.ntmps61
        go_wp2_with fail
        refine (H1.out).mono ?_
        rintro e w1 ⟨rfl, b1⟩
        have bA : Below w1.heap.size w1 (w1.alloc (.cells #[.int .i64 23, .int .i64 (-149), .int .i64 8] 142)) := (Below.refl _ _).alloc (Nat.le_refl _) _
        have c0 : (w1.alloc (.cells #[.int .i64 23, .int .i64 (-149), .int .i64 8] 142)).cell? ⟨w1.heap.size, 0, none⟩ = some (.int .i64 (23)) := World.cell?_alloc_at _ _ _ _ rfl
        have c1 : (w1.alloc (.cells #[.int .i64 23, .int .i64 (-149), .int .i64 8] 142)).cell? ⟨w1.heap.size, 1, none⟩ = some (.int .i64 (-149)) := World.cell?_alloc_at _ _ _ _ rfl
        have c2 : (w1.alloc (.cells #[.int .i64 23, .int .i64 (-149), .int .i64 8] 142)).cell? ⟨w1.heap.size, 2, none⟩ = some (.int .i64 (8)) := World.cell?_alloc_at _ _ _ _ rfl
        have HS2 := Lib.hid (H2.out (w1.alloc (.cells #[.int .i64 23, .int .i64 (-149), .int .i64 8] 142)) ((hS.below b1 (Nat.le_refl _)).below bA (Nat.le_refl _)))
        go_wp2_with fail
        refine (HS2.out).mono ?_
        rintro e w2 ⟨rfl, b2⟩
        have d0 := below_cell b2 (Nat.le_refl _) c0
        have d1 := below_cell b2 (Nat.le_refl _) c1
        have d2 := below_cell b2 (Nat.le_refl _) c2
        have b2' := below_trans bA b2
        go_wp2_with fail
        refine (shinf_32 w2).mono ?_
        rintro e w3 ⟨rfl, b3⟩
        have e0 := below_cell b3 (Nat.le_refl _) d0
        have e1 := below_cell b3 (Nat.le_refl _) d1
        have e2 := below_cell b3 (Nat.le_refl _) d2
        go_wp2
        go_ret
        rw [HR.out]
        exact ⟨rfl, below_trans b1 (below_trans b2' b3)⟩
end Go.Proofs.YtmnabilgpndjmaaDoor
