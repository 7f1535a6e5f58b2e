/- Contracts of functions, and plain facts, part 27. -/
import Derived.Laws.Bits64b
import Derived.Test.YtmnabilgpndjmaaDoorPk4
import Derived.Test.YtmnabilgpndjmaaDoorPk5
import Derived.Test.YtmnabilgpndjmaaDoorPk7
import Derived.Test.YtmnabilgpndjmaaDoorPk10
import Derived.Test.YtmnabilgpndjmaaDoorPk26
set_option linter.unusedVariables false
set_option linter.unusedSimpArgs false
/- Printed by ieee2.py. -/
namespace Go.Proofs.YtmnabilgpndjmaaDoor
open Go.RowKit

theorem next_64 (w : World) (hS : Shapes w) (x : Int) (hx : 0 ≤ x ∧ x < 18446744073709551616) : Calls Tryd.prog 60 #[.int .u64 x] w (fun e w' => e = .returned (.int .u64 (nextW 64 x)) ∧ Below w.heap.size w w') := by
  have HC := Lib.hid (show nextW 64 x = if 9218868437227405312 < sizeW 64 x ∨ x = 9218868437227405312 then x else if sizeW 64 x = 0 then 1 else if negW 64 x then x - 1 else x + 1 by unfold nextW; rw [inf64])
  have H1 := Lib.hid (of_64 w hS)
  have H2 := Lib.hid (fun (w : World) (hS : Shapes w) => split_64 w hS x hx)
  have hn1 : negW 64 x = true → 9223372036854775808 ≤ x := fun h => by have := of_decide_eq_true h; rwa [sgn64] at this
  have hn2 : negW 64 x = false → x < 9223372036854775808 ∧ sizeW 64 x = x := fun h => by
    have h2 := of_decide_eq_false h
    have h3 : sizeW 64 x = x := by unfold sizeW; rw [if_neg h2]
    rw [sgn64] at h2
    exact ⟨by omega, h3⟩
  generalize nextW 64 x = C at *
  generalize sizeW 64 x = z at *
  generalize negW 64 x = n at *
  by_cases t1 : 9218868437227405312 < z
  · have HR := Lib.hid (show C = x by rw [HC.out, if_pos (.inl t1)])
    clear HC hn1 hn2
    go_enter Tryd.func60, Tryd.ntmps60
    go_wp2_with fail
    refine (H1.out).mono ?_
    rintro e w1 ⟨rfl, b1⟩
    have bA : Below w1.heap.size w1 (w1.alloc (.cells #[.int .i64 52, .int .i64 (-1074), .int .i64 11] 142)) := (Below.refl _ _).alloc (Nat.le_refl _) _
    have c0 : (w1.alloc (.cells #[.int .i64 52, .int .i64 (-1074), .int .i64 11] 142)).cell? ⟨w1.heap.size, 0, none⟩ = some (.int .i64 (52)) := World.cell?_alloc_at _ _ _ _ rfl
    have c1 : (w1.alloc (.cells #[.int .i64 52, .int .i64 (-1074), .int .i64 11] 142)).cell? ⟨w1.heap.size, 1, none⟩ = some (.int .i64 (-1074)) := World.cell?_alloc_at _ _ _ _ rfl
    have c2 : (w1.alloc (.cells #[.int .i64 52, .int .i64 (-1074), .int .i64 11] 142)).cell? ⟨w1.heap.size, 2, none⟩ = some (.int .i64 (11)) := World.cell?_alloc_at _ _ _ _ rfl
    have HS2 := Lib.hid (H2.out (w1.alloc (.cells #[.int .i64 52, .int .i64 (-1074), .int .i64 11] 142)) ((hS.below b1 (Nat.le_refl _)).below bA (Nat.le_refl _)))
    go_wp2_with fail
    refine (HS2.out).mono ?_
    rintro e w2 ⟨rfl, b2⟩
    have d0 := below_cell b2 (Nat.le_refl _) c0
    have d1 := below_cell b2 (Nat.le_refl _) c1
    have d2 := below_cell b2 (Nat.le_refl _) c2
    have b2' := below_trans bA b2
    go_wp2_with fail
    refine (shinf_64 w2).mono ?_
    rintro e w3 ⟨rfl, b3⟩
    have e0 := below_cell b3 (Nat.le_refl _) d0
    have e1 := below_cell b3 (Nat.le_refl _) d1
    have e2 := below_cell b3 (Nat.le_refl _) d2
    go_wp2
    go_ret
    rw [HR.out]
    exact ⟨rfl, below_trans b1 (below_trans b2' b3)⟩
  · cases n
    · obtain ⟨hx1, hxz⟩ := hn2 rfl
      subst hxz
      clear hn1 hn2
      by_cases t2 : z = 9218868437227405312
      · have HR := Lib.hid (show C = z by rw [HC.out, if_pos (.inr t2)])
        have t2' : (z == 9218868437227405312) = true := by simpa using t2
        clear HC t2
        go_enter Tryd.func60, Tryd.ntmps60
        go_wp2_with fail
        refine (H1.out).mono ?_
        rintro e w1 ⟨rfl, b1⟩
        have bA : Below w1.heap.size w1 (w1.alloc (.cells #[.int .i64 52, .int .i64 (-1074), .int .i64 11] 142)) := (Below.refl _ _).alloc (Nat.le_refl _) _
        have c0 : (w1.alloc (.cells #[.int .i64 52, .int .i64 (-1074), .int .i64 11] 142)).cell? ⟨w1.heap.size, 0, none⟩ = some (.int .i64 (52)) := World.cell?_alloc_at _ _ _ _ rfl
        have c1 : (w1.alloc (.cells #[.int .i64 52, .int .i64 (-1074), .int .i64 11] 142)).cell? ⟨w1.heap.size, 1, none⟩ = some (.int .i64 (-1074)) := World.cell?_alloc_at _ _ _ _ rfl
        have c2 : (w1.alloc (.cells #[.int .i64 52, .int .i64 (-1074), .int .i64 11] 142)).cell? ⟨w1.heap.size, 2, none⟩ = some (.int .i64 (11)) := World.cell?_alloc_at _ _ _ _ rfl
        have HS2 := Lib.hid (H2.out (w1.alloc (.cells #[.int .i64 52, .int .i64 (-1074), .int .i64 11] 142)) ((hS.below b1 (Nat.le_refl _)).below bA (Nat.le_refl _)))
        go_wp2_with fail
        refine (HS2.out).mono ?_
        rintro e w2 ⟨rfl, b2⟩
        have d0 := below_cell b2 (Nat.le_refl _) c0
        have d1 := below_cell b2 (Nat.le_refl _) c1
        have d2 := below_cell b2 (Nat.le_refl _) c2
        have b2' := below_trans bA b2
        go_wp2_with fail
        refine (shinf_64 w2).mono ?_
        rintro e w3 ⟨rfl, b3⟩
        have e0 := below_cell b3 (Nat.le_refl _) d0
        have e1 := below_cell b3 (Nat.le_refl _) d1
        have e2 := below_cell b3 (Nat.le_refl _) d2
        go_wp2_with fail
        refine (shinf_64 w3).mono ?_
        rintro e w4 ⟨rfl, b4⟩
        have g0 := below_cell b4 (Nat.le_refl _) e0
        have g1 := below_cell b4 (Nat.le_refl _) e1
        have g2 := below_cell b4 (Nat.le_refl _) e2
        go_wp2
        go_ret
        rw [HR.out]
        exact ⟨rfl, below_trans b1 (below_trans b2' (below_trans b3 b4))⟩
      · have t2' : (z == 9218868437227405312) = false := by simpa using t2
        have hor : ¬ (9218868437227405312 < z ∨ z = 9218868437227405312) := fun h => h.elim t1 t2
        by_cases t3 : z = 0
        · have HR := Lib.hid (show C = 1 by rw [HC.out, if_neg hor, if_pos t3])
          have t3' : (z == 0) = true := by simpa using t3
          clear HC t3 t2 hor
          go_enter Tryd.func60, Tryd.ntmps60
          go_wp2_with fail
          refine (H1.out).mono ?_
          rintro e w1 ⟨rfl, b1⟩
          have bA : Below w1.heap.size w1 (w1.alloc (.cells #[.int .i64 52, .int .i64 (-1074), .int .i64 11] 142)) := (Below.refl _ _).alloc (Nat.le_refl _) _
          have c0 : (w1.alloc (.cells #[.int .i64 52, .int .i64 (-1074), .int .i64 11] 142)).cell? ⟨w1.heap.size, 0, none⟩ = some (.int .i64 (52)) := World.cell?_alloc_at _ _ _ _ rfl
          have c1 : (w1.alloc (.cells #[.int .i64 52, .int .i64 (-1074), .int .i64 11] 142)).cell? ⟨w1.heap.size, 1, none⟩ = some (.int .i64 (-1074)) := World.cell?_alloc_at _ _ _ _ rfl
          have c2 : (w1.alloc (.cells #[.int .i64 52, .int .i64 (-1074), .int .i64 11] 142)).cell? ⟨w1.heap.size, 2, none⟩ = some (.int .i64 (11)) := World.cell?_alloc_at _ _ _ _ rfl
          have HS2 := Lib.hid (H2.out (w1.alloc (.cells #[.int .i64 52, .int .i64 (-1074), .int .i64 11] 142)) ((hS.below b1 (Nat.le_refl _)).below bA (Nat.le_refl _)))
          go_wp2_with fail
          refine (HS2.out).mono ?_
          rintro e w2 ⟨rfl, b2⟩
          have d0 := below_cell b2 (Nat.le_refl _) c0
          have d1 := below_cell b2 (Nat.le_refl _) c1
          have d2 := below_cell b2 (Nat.le_refl _) c2
          have b2' := below_trans bA b2
          go_wp2_with fail
          refine (shinf_64 w2).mono ?_
          rintro e w3 ⟨rfl, b3⟩
          have e0 := below_cell b3 (Nat.le_refl _) d0
          have e1 := below_cell b3 (Nat.le_refl _) d1
          have e2 := below_cell b3 (Nat.le_refl _) d2
          go_wp2_with fail
          refine (shinf_64 w3).mono ?_
          rintro e w4 ⟨rfl, b4⟩
          have g0 := below_cell b4 (Nat.le_refl _) e0
          have g1 := below_cell b4 (Nat.le_refl _) e1
          have g2 := below_cell b4 (Nat.le_refl _) e2
          go_wp2
          go_ret
          rw [HR.out]
          exact ⟨rfl, below_trans b1 (below_trans b2' (below_trans b3 b4))⟩
        · have HR := Lib.hid (show C = z + 1 by rw [HC.out, if_neg hor, if_neg t3, if_neg (by decide)])
          have t3' : (z == 0) = false := by simpa using t3
          have W1 : IntKind.u64.wrap (z + 1) = z + 1 := by rw [IntKind.wrap_u64]; omega
          have W2 : (z + 1) % 18446744073709551616 = z + 1 := by omega
          clear HC t3 t2 hor
          go_enter Tryd.func60, Tryd.ntmps60
          go_wp2_with fail
          refine (H1.out).mono ?_
          rintro e w1 ⟨rfl, b1⟩
          have bA : Below w1.heap.size w1 (w1.alloc (.cells #[.int .i64 52, .int .i64 (-1074), .int .i64 11] 142)) := (Below.refl _ _).alloc (Nat.le_refl _) _
          have c0 : (w1.alloc (.cells #[.int .i64 52, .int .i64 (-1074), .int .i64 11] 142)).cell? ⟨w1.heap.size, 0, none⟩ = some (.int .i64 (52)) := World.cell?_alloc_at _ _ _ _ rfl
          have c1 : (w1.alloc (.cells #[.int .i64 52, .int .i64 (-1074), .int .i64 11] 142)).cell? ⟨w1.heap.size, 1, none⟩ = some (.int .i64 (-1074)) := World.cell?_alloc_at _ _ _ _ rfl
          have c2 : (w1.alloc (.cells #[.int .i64 52, .int .i64 (-1074), .int .i64 11] 142)).cell? ⟨w1.heap.size, 2, none⟩ = some (.int .i64 (11)) := World.cell?_alloc_at _ _ _ _ rfl
          have HS2 := Lib.hid (H2.out (w1.alloc (.cells #[.int .i64 52, .int .i64 (-1074), .int .i64 11] 142)) ((hS.below b1 (Nat.le_refl _)).below bA (Nat.le_refl _)))
          go_wp2_with fail
          refine (HS2.out).mono ?_
          rintro e w2 ⟨rfl, b2⟩
          have d0 := below_cell b2 (Nat.le_refl _) c0
          have d1 := below_cell b2 (Nat.le_refl _) c1
          have d2 := below_cell b2 (Nat.le_refl _) c2
          have b2' := below_trans bA b2
          go_wp2_with fail
          refine (shinf_64 w2).mono ?_
          rintro e w3 ⟨rfl, b3⟩
          have e0 := below_cell b3 (Nat.le_refl _) d0
          have e1 := below_cell b3 (Nat.le_refl _) d1
          have e2 := below_cell b3 (Nat.le_refl _) d2
          go_wp2_with fail
          refine (shinf_64 w3).mono ?_
          rintro e w4 ⟨rfl, b4⟩
          have g0 := below_cell b4 (Nat.le_refl _) e0
          have g1 := below_cell b4 (Nat.le_refl _) e1
          have g2 := below_cell b4 (Nat.le_refl _) e2
          go_wp2
          go_ret
          rw [HR.out]
          exact ⟨rfl, below_trans b1 (below_trans b2' (below_trans b3 b4))⟩
    · have hx1 := hn1 rfl
      clear hn1 hn2
      have hor : ¬ (9218868437227405312 < z ∨ x = 9218868437227405312) := fun h => h.elim t1 (fun e => by omega)
      by_cases t3 : z = 0
      · have HR := Lib.hid (show C = 1 by rw [HC.out, if_neg hor, if_pos t3])
        have t3' : (z == 0) = true := by simpa using t3
        clear HC t3 hor
        go_enter Tryd.func60, Tryd.ntmps60
        go_wp2_with fail
        refine (H1.out).mono ?_
        rintro e w1 ⟨rfl, b1⟩
        have bA : Below w1.heap.size w1 (w1.alloc (.cells #[.int .i64 52, .int .i64 (-1074), .int .i64 11] 142)) := (Below.refl _ _).alloc (Nat.le_refl _) _
        have c0 : (w1.alloc (.cells #[.int .i64 52, .int .i64 (-1074), .int .i64 11] 142)).cell? ⟨w1.heap.size, 0, none⟩ = some (.int .i64 (52)) := World.cell?_alloc_at _ _ _ _ rfl
        have c1 : (w1.alloc (.cells #[.int .i64 52, .int .i64 (-1074), .int .i64 11] 142)).cell? ⟨w1.heap.size, 1, none⟩ = some (.int .i64 (-1074)) := World.cell?_alloc_at _ _ _ _ rfl
        have c2 : (w1.alloc (.cells #[.int .i64 52, .int .i64 (-1074), .int .i64 11] 142)).cell? ⟨w1.heap.size, 2, none⟩ = some (.int .i64 (11)) := World.cell?_alloc_at _ _ _ _ rfl
        have HS2 := Lib.hid (H2.out (w1.alloc (.cells #[.int .i64 52, .int .i64 (-1074), .int .i64 11] 142)) ((hS.below b1 (Nat.le_refl _)).below bA (Nat.le_refl _)))
        go_wp2_with fail
        refine (HS2.out).mono ?_
        rintro e w2 ⟨rfl, b2⟩
        have d0 := below_cell b2 (Nat.le_refl _) c0
        have d1 := below_cell b2 (Nat.le_refl _) c1
        have d2 := below_cell b2 (Nat.le_refl _) c2
        have b2' := below_trans bA b2
        go_wp2_with fail
        refine (shinf_64 w2).mono ?_
        rintro e w3 ⟨rfl, b3⟩
        have e0 := below_cell b3 (Nat.le_refl _) d0
        have e1 := below_cell b3 (Nat.le_refl _) d1
        have e2 := below_cell b3 (Nat.le_refl _) d2
        go_wp2
        go_ret
        rw [HR.out]
        exact ⟨rfl, below_trans b1 (below_trans b2' b3)⟩
      · have HR := Lib.hid (show C = x - 1 by rw [HC.out, if_neg hor, if_neg t3, if_pos rfl])
        have t3' : (z == 0) = false := by simpa using t3
        have W1 : IntKind.u64.wrap (x - 1) = x - 1 := by rw [IntKind.wrap_u64]; omega
        have W2 : (x - 1) % 18446744073709551616 = x - 1 := by omega
        clear HC t3 hor
        go_enter Tryd.func60, Tryd.ntmps60
        go_wp2_with fail
        refine (H1.out).mono ?_
        rintro e w1 ⟨rfl, b1⟩
        have bA : Below w1.heap.size w1 (w1.alloc (.cells #[.int .i64 52, .int .i64 (-1074), .int .i64 11] 142)) := (Below.refl _ _).alloc (Nat.le_refl _) _
        have c0 : (w1.alloc (.cells #[.int .i64 52, .int .i64 (-1074), .int .i64 11] 142)).cell? ⟨w1.heap.size, 0, none⟩ = some (.int .i64 (52)) := World.cell?_alloc_at _ _ _ _ rfl
        have c1 : (w1.alloc (.cells #[.int .i64 52, .int .i64 (-1074), .int .i64 11] 142)).cell? ⟨w1.heap.size, 1, none⟩ = some (.int .i64 (-1074)) := World.cell?_alloc_at _ _ _ _ rfl
        have c2 : (w1.alloc (.cells #[.int .i64 52, .int .i64 (-1074), .int .i64 11] 142)).cell? ⟨w1.heap.size, 2, none⟩ = some (.int .i64 (11)) := World.cell?_alloc_at _ _ _ _ rfl
        have HS2 := Lib.hid (H2.out (w1.alloc (.cells #[.int .i64 52, .int .i64 (-1074), .int .i64 11] 142)) ((hS.below b1 (Nat.le_refl _)).below bA (Nat.le_refl _)))
        go_wp2_with fail
        refine (HS2.out).mono ?_
        rintro e w2 ⟨rfl, b2⟩
        have d0 := below_cell b2 (Nat.le_refl _) c0
        have d1 := below_cell b2 (Nat.le_refl _) c1
        have d2 := below_cell b2 (Nat.le_refl _) c2
        have b2' := below_trans bA b2
        go_wp2_with fail
        refine (shinf_64 w2).mono ?_
        rintro e w3 ⟨rfl, b3⟩
        have e0 := below_cell b3 (Nat.le_refl _) d0
        have e1 := below_cell b3 (Nat.le_refl _) d1
        have e2 := below_cell b3 (Nat.le_refl _) d2
        go_wp2
        go_ret
        rw [HR.out]
        exact ⟨rfl, below_trans b1 (below_trans b2' b3)⟩
end Go.Proofs.YtmnabilgpndjmaaDoor

/- Printed by ieee2.py. -/
namespace Go.Proofs.YtmnabilgpndjmaaDoor
open Go.RowKit

theorem next_Own (w : World) (hS : Shapes w) (x : Int) (hx : 0 ≤ x ∧ x < 4294967296) : Calls Tryd.prog 61 #[.int .u32 x] w (fun e w' => e = .returned (.int .u32 (nextW 32 x)) ∧ Below w.heap.size w w') := by
  have HC := Lib.hid (show nextW 32 x = if 2139095040 < sizeW 32 x ∨ x = 2139095040 then x else if sizeW 32 x = 0 then 1 else if negW 32 x then x - 1 else x + 1 by unfold nextW; rw [inf32])
  have H1 := Lib.hid (of_Own w hS)
  have H2 := Lib.hid (fun (w : World) (hS : Shapes w) => split_Own w hS x hx)
  have hn1 : negW 32 x = true → 2147483648 ≤ x := fun h => by have := of_decide_eq_true h; rwa [sgn32] at this
  have hn2 : negW 32 x = false → x < 2147483648 ∧ sizeW 32 x = x := fun h => by
    have h2 := of_decide_eq_false h
    have h3 : sizeW 32 x = x := by unfold sizeW; rw [if_neg h2]
    rw [sgn32] at h2
    exact ⟨by omega, h3⟩
  generalize nextW 32 x = C at *
  generalize sizeW 32 x = z at *
  generalize negW 32 x = n at *
  by_cases t1 : 2139095040 < z
  · have HR := Lib.hid (show C = x by rw [HC.out, if_pos (.inl t1)])
    clear HC hn1 hn2
    go_enter Tryd.func61, Tryd.ntmps61
    go_wp2_with fail
    refine (H1.out).mono ?_
    rintro e w1 ⟨rfl, b1⟩
    have bA : Below w1.heap.size w1 (w1.alloc (.cells #[.int .i64 23, .int .i64 (-149), .int .i64 8] 142)) := (Below.refl _ _).alloc (Nat.le_refl _) _
    have c0 : (w1.alloc (.cells #[.int .i64 23, .int .i64 (-149), .int .i64 8] 142)).cell? ⟨w1.heap.size, 0, none⟩ = some (.int .i64 (23)) := World.cell?_alloc_at _ _ _ _ rfl
    have c1 : (w1.alloc (.cells #[.int .i64 23, .int .i64 (-149), .int .i64 8] 142)).cell? ⟨w1.heap.size, 1, none⟩ = some (.int .i64 (-149)) := World.cell?_alloc_at _ _ _ _ rfl
    have c2 : (w1.alloc (.cells #[.int .i64 23, .int .i64 (-149), .int .i64 8] 142)).cell? ⟨w1.heap.size, 2, none⟩ = some (.int .i64 (8)) := World.cell?_alloc_at _ _ _ _ rfl
    have HS2 := Lib.hid (H2.out (w1.alloc (.cells #[.int .i64 23, .int .i64 (-149), .int .i64 8] 142)) ((hS.below b1 (Nat.le_refl _)).below bA (Nat.le_refl _)))
    go_wp2_with fail
    refine (HS2.out).mono ?_
    rintro e w2 ⟨rfl, b2⟩
    have d0 := below_cell b2 (Nat.le_refl _) c0
    have d1 := below_cell b2 (Nat.le_refl _) c1
    have d2 := below_cell b2 (Nat.le_refl _) c2
    have b2' := below_trans bA b2
    go_wp2_with fail
    refine (shinf_32 w2).mono ?_
    rintro e w3 ⟨rfl, b3⟩
    have e0 := below_cell b3 (Nat.le_refl _) d0
    have e1 := below_cell b3 (Nat.le_refl _) d1
    have e2 := below_cell b3 (Nat.le_refl _) d2
    go_wp2
    go_ret
    rw [HR.out]
    exact ⟨rfl, below_trans b1 (below_trans b2' b3)⟩
  · cases n
    · obtain ⟨hx1, hxz⟩ := hn2 rfl
      subst hxz
      clear hn1 hn2
      by_cases t2 : z = 2139095040
      · have HR := Lib.hid (show C = z by rw [HC.out, if_pos (.inr t2)])
        have t2' : (z == 2139095040) = true := by simpa using t2
        clear HC t2
        go_enter Tryd.func61, Tryd.ntmps61
        go_wp2_with fail
        refine (H1.out).mono ?_
        rintro e w1 ⟨rfl, b1⟩
        have bA : Below w1.heap.size w1 (w1.alloc (.cells #[.int .i64 23, .int .i64 (-149), .int .i64 8] 142)) := (Below.refl _ _).alloc (Nat.le_refl _) _
        have c0 : (w1.alloc (.cells #[.int .i64 23, .int .i64 (-149), .int .i64 8] 142)).cell? ⟨w1.heap.size, 0, none⟩ = some (.int .i64 (23)) := World.cell?_alloc_at _ _ _ _ rfl
        have c1 : (w1.alloc (.cells #[.int .i64 23, .int .i64 (-149), .int .i64 8] 142)).cell? ⟨w1.heap.size, 1, none⟩ = some (.int .i64 (-149)) := World.cell?_alloc_at _ _ _ _ rfl
        have c2 : (w1.alloc (.cells #[.int .i64 23, .int .i64 (-149), .int .i64 8] 142)).cell? ⟨w1.heap.size, 2, none⟩ = some (.int .i64 (8)) := World.cell?_alloc_at _ _ _ _ rfl
        have HS2 := Lib.hid (H2.out (w1.alloc (.cells #[.int .i64 23, .int .i64 (-149), .int .i64 8] 142)) ((hS.below b1 (Nat.le_refl _)).below bA (Nat.le_refl _)))
        go_wp2_with fail
        refine (HS2.out).mono ?_
        rintro e w2 ⟨rfl, b2⟩
        have d0 := below_cell b2 (Nat.le_refl _) c0
        have d1 := below_cell b2 (Nat.le_refl _) c1
        have d2 := below_cell b2 (Nat.le_refl _) c2
        have b2' := below_trans bA b2
        go_wp2_with fail
        refine (shinf_32 w2).mono ?_
        rintro e w3 ⟨rfl, b3⟩
        have e0 := below_cell b3 (Nat.le_refl _) d0
        have e1 := below_cell b3 (Nat.le_refl _) d1
        have e2 := below_cell b3 (Nat.le_refl _) d2
        go_wp2_with fail
        refine (shinf_32 w3).mono ?_
        rintro e w4 ⟨rfl, b4⟩
        have g0 := below_cell b4 (Nat.le_refl _) e0
        have g1 := below_cell b4 (Nat.le_refl _) e1
        have g2 := below_cell b4 (Nat.le_refl _) e2
        go_wp2
        go_ret
        rw [HR.out]
        exact ⟨rfl, below_trans b1 (below_trans b2' (below_trans b3 b4))⟩
      · have t2' : (z == 2139095040) = false := by simpa using t2
        have hor : ¬ (2139095040 < z ∨ z = 2139095040) := fun h => h.elim t1 t2
        by_cases t3 : z = 0
        · have HR := Lib.hid (show C = 1 by rw [HC.out, if_neg hor, if_pos t3])
          have t3' : (z == 0) = true := by simpa using t3
          clear HC t3 t2 hor
          go_enter Tryd.func61, Tryd.ntmps61
          go_wp2_with fail
          refine (H1.out).mono ?_
          rintro e w1 ⟨rfl, b1⟩
          have bA : Below w1.heap.size w1 (w1.alloc (.cells #[.int .i64 23, .int .i64 (-149), .int .i64 8] 142)) := (Below.refl _ _).alloc (Nat.le_refl _) _
          have c0 : (w1.alloc (.cells #[.int .i64 23, .int .i64 (-149), .int .i64 8] 142)).cell? ⟨w1.heap.size, 0, none⟩ = some (.int .i64 (23)) := World.cell?_alloc_at _ _ _ _ rfl
          have c1 : (w1.alloc (.cells #[.int .i64 23, .int .i64 (-149), .int .i64 8] 142)).cell? ⟨w1.heap.size, 1, none⟩ = some (.int .i64 (-149)) := World.cell?_alloc_at _ _ _ _ rfl
          have c2 : (w1.alloc (.cells #[.int .i64 23, .int .i64 (-149), .int .i64 8] 142)).cell? ⟨w1.heap.size, 2, none⟩ = some (.int .i64 (8)) := World.cell?_alloc_at _ _ _ _ rfl
          have HS2 := Lib.hid (H2.out (w1.alloc (.cells #[.int .i64 23, .int .i64 (-149), .int .i64 8] 142)) ((hS.below b1 (Nat.le_refl _)).below bA (Nat.le_refl _)))
          go_wp2_with fail
          refine (HS2.out).mono ?_
          rintro e w2 ⟨rfl, b2⟩
          have d0 := below_cell b2 (Nat.le_refl _) c0
          have d1 := below_cell b2 (Nat.le_refl _) c1
          have d2 := below_cell b2 (Nat.le_refl _) c2
          have b2' := below_trans bA b2
          go_wp2_with fail
          refine (shinf_32 w2).mono ?_
          rintro e w3 ⟨rfl, b3⟩
          have e0 := below_cell b3 (Nat.le_refl _) d0
          have e1 := below_cell b3 (Nat.le_refl _) d1
          have e2 := below_cell b3 (Nat.le_refl _) d2
          go_wp2_with fail
          refine (shinf_32 w3).mono ?_
          rintro e w4 ⟨rfl, b4⟩
          have g0 := below_cell b4 (Nat.le_refl _) e0
          have g1 := below_cell b4 (Nat.le_refl _) e1
          have g2 := below_cell b4 (Nat.le_refl _) e2
          go_wp2
          go_ret
          rw [HR.out]
          exact ⟨rfl, below_trans b1 (below_trans b2' (below_trans b3 b4))⟩
        · have HR := Lib.hid (show C = z + 1 by rw [HC.out, if_neg hor, if_neg t3, if_neg (by decide)])
          have t3' : (z == 0) = false := by simpa using t3
          have W1 : IntKind.u32.wrap (z + 1) = z + 1 := by rw [IntKind.wrap_u32]; omega
          have W2 : (z + 1) % 4294967296 = z + 1 := by omega
          clear HC t3 t2 hor
          go_enter Tryd.func61, Tryd.ntmps61
          go_wp2_with fail
          refine (H1.out).mono ?_
          rintro e w1 ⟨rfl, b1⟩
          have bA : Below w1.heap.size w1 (w1.alloc (.cells #[.int .i64 23, .int .i64 (-149), .int .i64 8] 142)) := (Below.refl _ _).alloc (Nat.le_refl _) _
          have c0 : (w1.alloc (.cells #[.int .i64 23, .int .i64 (-149), .int .i64 8] 142)).cell? ⟨w1.heap.size, 0, none⟩ = some (.int .i64 (23)) := World.cell?_alloc_at _ _ _ _ rfl
          have c1 : (w1.alloc (.cells #[.int .i64 23, .int .i64 (-149), .int .i64 8] 142)).cell? ⟨w1.heap.size, 1, none⟩ = some (.int .i64 (-149)) := World.cell?_alloc_at _ _ _ _ rfl
          have c2 : (w1.alloc (.cells #[.int .i64 23, .int .i64 (-149), .int .i64 8] 142)).cell? ⟨w1.heap.size, 2, none⟩ = some (.int .i64 (8)) := World.cell?_alloc_at _ _ _ _ rfl
          have HS2 := Lib.hid (H2.out (w1.alloc (.cells #[.int .i64 23, .int .i64 (-149), .int .i64 8] 142)) ((hS.below b1 (Nat.le_refl _)).below bA (Nat.le_refl _)))
          go_wp2_with fail
          refine (HS2.out).mono ?_
          rintro e w2 ⟨rfl, b2⟩
          have d0 := below_cell b2 (Nat.le_refl _) c0
          have d1 := below_cell b2 (Nat.le_refl _) c1
          have d2 := below_cell b2 (Nat.le_refl _) c2
          have b2' := below_trans bA b2
          go_wp2_with fail
          refine (shinf_32 w2).mono ?_
          rintro e w3 ⟨rfl, b3⟩
          have e0 := below_cell b3 (Nat.le_refl _) d0
          have e1 := below_cell b3 (Nat.le_refl _) d1
          have e2 := below_cell b3 (Nat.le_refl _) d2
          go_wp2_with fail
          refine (shinf_32 w3).mono ?_
          rintro e w4 ⟨rfl, b4⟩
          have g0 := below_cell b4 (Nat.le_refl _) e0
          have g1 := below_cell b4 (Nat.le_refl _) e1
          have g2 := below_cell b4 (Nat.le_refl _) e2
          go_wp2
          go_ret
          rw [HR.out]
          exact ⟨rfl, below_trans b1 (below_trans b2' (below_trans b3 b4))⟩
    · have hx1 := hn1 rfl
      clear hn1 hn2
      have hor : ¬ (2139095040 < z ∨ x = 2139095040) := fun h => h.elim t1 (fun e => by omega)
      by_cases t3 : z = 0
      · have HR := Lib.hid (show C = 1 by rw [HC.out, if_neg hor, if_pos t3])
        have t3' : (z == 0) = true := by simpa using t3
        clear HC t3 hor
        go_enter Tryd.func61, Tryd.ntmps61
        go_wp2_with fail
        refine (H1.out).mono ?_
        rintro e w1 ⟨rfl, b1⟩
        have bA : Below w1.heap.size w1 (w1.alloc (.cells #[.int .i64 23, .int .i64 (-149), .int .i64 8] 142)) := (Below.refl _ _).alloc (Nat.le_refl _) _
        have c0 : (w1.alloc (.cells #[.int .i64 23, .int .i64 (-149), .int .i64 8] 142)).cell? ⟨w1.heap.size, 0, none⟩ = some (.int .i64 (23)) := World.cell?_alloc_at _ _ _ _ rfl
        have c1 : (w1.alloc (.cells #[.int .i64 23, .int .i64 (-149), .int .i64 8] 142)).cell? ⟨w1.heap.size, 1, none⟩ = some (.int .i64 (-149)) := World.cell?_alloc_at _ _ _ _ rfl
        have c2 : (w1.alloc (.cells #[.int .i64 23, .int .i64 (-149), .int .i64 8] 142)).cell? ⟨w1.heap.size, 2, none⟩ = some (.int .i64 (8)) := World.cell?_alloc_at _ _ _ _ rfl
        have HS2 := Lib.hid (H2.out (w1.alloc (.cells #[.int .i64 23, .int .i64 (-149), .int .i64 8] 142)) ((hS.below b1 (Nat.le_refl _)).below bA (Nat.le_refl _)))
        go_wp2_with fail
        refine (HS2.out).mono ?_
        rintro e w2 ⟨rfl, b2⟩
        have d0 := below_cell b2 (Nat.le_refl _) c0
        have d1 := below_cell b2 (Nat.le_refl _) c1
        have d2 := below_cell b2 (Nat.le_refl _) c2
        have b2' := below_trans bA b2
        go_wp2_with fail
        refine (shinf_32 w2).mono ?_
        rintro e w3 ⟨rfl, b3⟩
        have e0 := below_cell b3 (Nat.le_refl _) d0
        have e1 := below_cell b3 (Nat.le_refl _) d1
        have e2 := below_cell b3 (Nat.le_refl _) d2
        go_wp2
        go_ret
        rw [HR.out]
        exact ⟨rfl, below_trans b1 (below_trans b2' b3)⟩
      · have HR := Lib.hid (show C = x - 1 by rw [HC.out, if_neg hor, if_neg t3, if_pos rfl])
        have t3' : (z == 0) = false := by simpa using t3
        have W1 : IntKind.u32.wrap (x - 1) = x - 1 := by rw [IntKind.wrap_u32]; omega
        have W2 : (x - 1) % 4294967296 = x - 1 := by omega
        clear HC t3 hor
        go_enter Tryd.func61, Tryd.ntmps61
        go_wp2_with fail
        refine (H1.out).mono ?_
        rintro e w1 ⟨rfl, b1⟩
        have bA : Below w1.heap.size w1 (w1.alloc (.cells #[.int .i64 23, .int .i64 (-149), .int .i64 8] 142)) := (Below.refl _ _).alloc (Nat.le_refl _) _
        have c0 : (w1.alloc (.cells #[.int .i64 23, .int .i64 (-149), .int .i64 8] 142)).cell? ⟨w1.heap.size, 0, none⟩ = some (.int .i64 (23)) := World.cell?_alloc_at _ _ _ _ rfl
        have c1 : (w1.alloc (.cells #[.int .i64 23, .int .i64 (-149), .int .i64 8] 142)).cell? ⟨w1.heap.size, 1, none⟩ = some (.int .i64 (-149)) := World.cell?_alloc_at _ _ _ _ rfl
        have c2 : (w1.alloc (.cells #[.int .i64 23, .int .i64 (-149), .int .i64 8] 142)).cell? ⟨w1.heap.size, 2, none⟩ = some (.int .i64 (8)) := World.cell?_alloc_at _ _ _ _ rfl
        have HS2 := Lib.hid (H2.out (w1.alloc (.cells #[.int .i64 23, .int .i64 (-149), .int .i64 8] 142)) ((hS.below b1 (Nat.le_refl _)).below bA (Nat.le_refl _)))
        go_wp2_with fail
        refine (HS2.out).mono ?_
        rintro e w2 ⟨rfl, b2⟩
        have d0 := below_cell b2 (Nat.le_refl _) c0
        have d1 := below_cell b2 (Nat.le_refl _) c1
        have d2 := below_cell b2 (Nat.le_refl _) c2
        have b2' := below_trans bA b2
        go_wp2_with fail
        refine (shinf_32 w2).mono ?_
        rintro e w3 ⟨rfl, b3⟩
        have e0 := below_cell b3 (Nat.le_refl _) d0
        have e1 := below_cell b3 (Nat.le_refl _) d1
        have e2 := below_cell b3 (Nat.le_refl _) d2
        go_wp2
        go_ret
        rw [HR.out]
        exact ⟨rfl, below_trans b1 (below_trans b2' b3)⟩
end Go.Proofs.YtmnabilgpndjmaaDoor

/- Printed by ieee2.py. -/
namespace Go.Proofs.YtmnabilgpndjmaaDoor
open Go.RowKit

theorem or_zero_16 (a b : Int) (ha : 0 ≤ a ∧ a < 18446744073709551616) (hb : 0 ≤ b ∧ b < 18446744073709551616) : (bits .or .u64 a b == 0) = decide (a = 0 ∧ b = 0) := by
  obtain ⟨a, rfl⟩ := Int.eq_ofNat_of_zero_le ha.1
  obtain ⟨b, rfl⟩ := Int.eq_ofNat_of_zero_le hb.1
  rw [bits_or_u64_nat a b (by omega) (by omega), Bool.eq_iff_iff]
  simp only [beq_iff_eq, decide_eq_true_eq]
  have h1 : a ≤ a ||| b := Nat.left_le_or
  have h2 : b ≤ a ||| b := Nat.right_le_or
  constructor
  · intro h
    omega
  · rintro ⟨h3, h4⟩
    have h5 : a = 0 := by omega
    have h6 : b = 0 := by omega
    subst h5 h6
    rfl

theorem cmp_16 (w : World) (hS : Shapes w) (x y : Int) (hx : 0 ≤ x ∧ x < 65536) (hy : 0 ≤ y ∧ y < 65536) : Calls Tryd.prog 49 #[.int .u16 x, .int .u16 y] w (fun e w' => e = .returned (.tuple #[.int .i64 (cmpW 16 x y).1, .bool (cmpW 16 x y).2]) ∧ Below w.heap.size w w') := by
  have hz1 := size_bounds (W := 16) (by unfold Wide; omega) x ⟨hx.1, hx.2⟩
  have hz2 := size_bounds (W := 16) (by unfold Wide; omega) y ⟨hy.1, hy.2⟩
  rw [sgn16] at hz1 hz2
  have HC := Lib.hid (show cmpW 16 x y = if isNaN 16 x || isNaN 16 y then (0, false) else if sizeW 16 x = 0 ∧ sizeW 16 y = 0 then (0, true) else (totalW 16 x y, true) from rfl)
  have G1 := Lib.hid (class_16 w hS x hx)
  have G2 := Lib.hid (fun (w : World) (hS : Shapes w) => class_16 w hS y hy)
  have H1 := Lib.hid (fun (w : World) (hS : Shapes w) => split_16 w hS x hx)
  have H2 := Lib.hid (fun (w : World) (hS : Shapes w) => split_16 w hS y hy)
  have H3 := Lib.hid (fun (w : World) (hS : Shapes w) => total_16 w hS x y hx hy)
  have nx := nan_cls 16 x
  have ny := nan_cls 16 y
  have HO := or_zero_16 (sizeW 16 x) (sizeW 16 y) (by omega) (by omega)
  clear hz1 hz2
  generalize cmpW 16 x y = C at *
  generalize totalW 16 x y = TT at *
  generalize clsW 16 x = cx at *
  generalize clsW 16 y = cy at *
  generalize isNaN 16 x = i1 at *
  generalize isNaN 16 y = i2 at *
  generalize negW 16 x = n1 at *
  generalize negW 16 y = n2 at *
  generalize sizeW 16 x = s1 at *
  generalize sizeW 16 y = s2 at *
  cases i1
  · cases i2
    · by_cases hz : s1 = 0 ∧ s2 = 0
      · have HR := Lib.hid (show C = (0, true) by rw [HC.out, if_neg (by decide), if_pos hz])
        rw [decide_eq_true hz] at HO
        clear HC hz
        go_enter Tryd.func49, Tryd.ntmps49
        go_wp2_with fail
        refine (G1.out).mono ?_
        rintro e w1 ⟨rfl, b1⟩
        have hS1 := hS.below b1 (Nat.le_refl _)
        have HS1 := Lib.hid (G2.out w1 hS1)
        go_wp2_with fail
        refine (HS1.out).mono ?_
        rintro e w2 ⟨rfl, b2⟩
        have hS2 := hS1.below b2 (Nat.le_refl _)
        have HS2 := Lib.hid (H1.out w2 hS2)
        go_wp2_with fail
        refine (HS2.out).mono ?_
        rintro e w3 ⟨rfl, b3⟩
        have hS3 := hS2.below b3 (Nat.le_refl _)
        have HS3 := Lib.hid (H2.out w3 hS3)
        go_wp2_with fail
        refine (HS3.out).mono ?_
        rintro e w4 ⟨rfl, b4⟩
        have hS4 := hS3.below b4 (Nat.le_refl _)
        have HS4 := Lib.hid (H3.out w4 hS4)
        go_wp2
        go_ret2
        rw [HR.out]
        exact ⟨rfl, below_trans b1 (below_trans b2 (below_trans b3 (b4)))⟩
      · have HR := Lib.hid (show C = (TT, true) by rw [HC.out, if_neg (by decide), if_neg hz])
        rw [decide_eq_false hz] at HO
        clear HC hz
        go_enter Tryd.func49, Tryd.ntmps49
        go_wp2_with fail
        refine (G1.out).mono ?_
        rintro e w1 ⟨rfl, b1⟩
        have hS1 := hS.below b1 (Nat.le_refl _)
        have HS1 := Lib.hid (G2.out w1 hS1)
        go_wp2_with fail
        refine (HS1.out).mono ?_
        rintro e w2 ⟨rfl, b2⟩
        have hS2 := hS1.below b2 (Nat.le_refl _)
        have HS2 := Lib.hid (H1.out w2 hS2)
        go_wp2_with fail
        refine (HS2.out).mono ?_
        rintro e w3 ⟨rfl, b3⟩
        have hS3 := hS2.below b3 (Nat.le_refl _)
        have HS3 := Lib.hid (H2.out w3 hS3)
        go_wp2_with fail
        refine (HS3.out).mono ?_
        rintro e w4 ⟨rfl, b4⟩
        have hS4 := hS3.below b4 (Nat.le_refl _)
        have HS4 := Lib.hid (H3.out w4 hS4)
        go_wp2_with fail
        refine (HS4.out).mono ?_
        rintro e w5 ⟨rfl, b5⟩
        go_wp2
        go_ret2
        rw [HR.out]
        exact ⟨rfl, below_trans b1 (below_trans b2 (below_trans b3 (below_trans b4 (b5))))⟩
    · have HR := Lib.hid (show C = (0, false) by rw [HC.out]; rfl)
      clear HC
      go_enter Tryd.func49, Tryd.ntmps49
      go_wp2_with fail
      refine (G1.out).mono ?_
      rintro e w1 ⟨rfl, b1⟩
      have hS1 := hS.below b1 (Nat.le_refl _)
      have HS1 := Lib.hid (G2.out w1 hS1)
      go_wp2_with fail
      refine (HS1.out).mono ?_
      rintro e w2 ⟨rfl, b2⟩
      have hS2 := hS1.below b2 (Nat.le_refl _)
      have HS2 := Lib.hid (H1.out w2 hS2)
      go_wp2
      go_ret2
      rw [HR.out]
      exact ⟨rfl, below_trans b1 (b2)⟩
  · have HR := Lib.hid (show C = (0, false) by rw [HC.out]; rfl)
    clear HC
    go_enter Tryd.func49, Tryd.ntmps49
    go_wp2_with fail
    refine (G1.out).mono ?_
    rintro e w1 ⟨rfl, b1⟩
    have hS1 := hS.below b1 (Nat.le_refl _)
    have HS1 := Lib.hid (G2.out w1 hS1)
    go_wp2
    go_ret2
    rw [HR.out]
    exact ⟨rfl, b1⟩
end Go.Proofs.YtmnabilgpndjmaaDoor

/- Printed by ieee2.py. -/
namespace Go.Proofs.YtmnabilgpndjmaaDoor
open Go.RowKit

theorem or_zero_32 (a b : Int) (ha : 0 ≤ a ∧ a < 18446744073709551616) (hb : 0 ≤ b ∧ b < 18446744073709551616) : (bits .or .u64 a b == 0) = decide (a = 0 ∧ b = 0) := by
  obtain ⟨a, rfl⟩ := Int.eq_ofNat_of_zero_le ha.1
  obtain ⟨b, rfl⟩ := Int.eq_ofNat_of_zero_le hb.1
  rw [bits_or_u64_nat a b (by omega) (by omega), Bool.eq_iff_iff]
  simp only [beq_iff_eq, decide_eq_true_eq]
  have h1 : a ≤ a ||| b := Nat.left_le_or
  have h2 : b ≤ a ||| b := Nat.right_le_or
  constructor
  · intro h
    omega
  · rintro ⟨h3, h4⟩
    have h5 : a = 0 := by omega
    have h6 : b = 0 := by omega
    subst h5 h6
    rfl

theorem cmp_32 (w : World) (hS : Shapes w) (x y : Int) (hx : 0 ≤ x ∧ x < 4294967296) (hy : 0 ≤ y ∧ y < 4294967296) : Calls Tryd.prog 52 #[.int .u32 x, .int .u32 y] w (fun e w' => e = .returned (.tuple #[.int .i64 (cmpW 32 x y).1, .bool (cmpW 32 x y).2]) ∧ Below w.heap.size w w') := by
  have hz1 := size_bounds (W := 32) (by unfold Wide; omega) x ⟨hx.1, hx.2⟩
  have hz2 := size_bounds (W := 32) (by unfold Wide; omega) y ⟨hy.1, hy.2⟩
  rw [sgn32] at hz1 hz2
  have HC := Lib.hid (show cmpW 32 x y = if isNaN 32 x || isNaN 32 y then (0, false) else if sizeW 32 x = 0 ∧ sizeW 32 y = 0 then (0, true) else (totalW 32 x y, true) from rfl)
  have G1 := Lib.hid (class_32 w hS x hx)
  have G2 := Lib.hid (fun (w : World) (hS : Shapes w) => class_32 w hS y hy)
  have H1 := Lib.hid (fun (w : World) (hS : Shapes w) => split_32 w hS x hx)
  have H2 := Lib.hid (fun (w : World) (hS : Shapes w) => split_32 w hS y hy)
  have H3 := Lib.hid (fun (w : World) (hS : Shapes w) => total_32 w hS x y hx hy)
  have nx := nan_cls 32 x
  have ny := nan_cls 32 y
  have HO := or_zero_32 (sizeW 32 x) (sizeW 32 y) (by omega) (by omega)
  clear hz1 hz2
  generalize cmpW 32 x y = C at *
  generalize totalW 32 x y = TT at *
  generalize clsW 32 x = cx at *
  generalize clsW 32 y = cy at *
  generalize isNaN 32 x = i1 at *
  generalize isNaN 32 y = i2 at *
  generalize negW 32 x = n1 at *
  generalize negW 32 y = n2 at *
  generalize sizeW 32 x = s1 at *
  generalize sizeW 32 y = s2 at *
  cases i1
  · cases i2
    · by_cases hz : s1 = 0 ∧ s2 = 0
      · have HR := Lib.hid (show C = (0, true) by rw [HC.out, if_neg (by decide), if_pos hz])
        rw [decide_eq_true hz] at HO
        clear HC hz
        go_enter Tryd.func52, Tryd.ntmps52
        go_wp2_with fail
        refine (G1.out).mono ?_
        rintro e w1 ⟨rfl, b1⟩
        have hS1 := hS.below b1 (Nat.le_refl _)
        have HS1 := Lib.hid (G2.out w1 hS1)
        go_wp2_with fail
        refine (HS1.out).mono ?_
        rintro e w2 ⟨rfl, b2⟩
        have hS2 := hS1.below b2 (Nat.le_refl _)
        have HS2 := Lib.hid (H1.out w2 hS2)
        go_wp2_with fail
        refine (HS2.out).mono ?_
        rintro e w3 ⟨rfl, b3⟩
        have hS3 := hS2.below b3 (Nat.le_refl _)
        have HS3 := Lib.hid (H2.out w3 hS3)
        go_wp2_with fail
        refine (HS3.out).mono ?_
        rintro e w4 ⟨rfl, b4⟩
        have hS4 := hS3.below b4 (Nat.le_refl _)
        have HS4 := Lib.hid (H3.out w4 hS4)
        go_wp2
        go_ret2
        rw [HR.out]
        exact ⟨rfl, below_trans b1 (below_trans b2 (below_trans b3 (b4)))⟩
      · have HR := Lib.hid (show C = (TT, true) by rw [HC.out, if_neg (by decide), if_neg hz])
        rw [decide_eq_false hz] at HO
        clear HC hz
        go_enter Tryd.func52, Tryd.ntmps52
        go_wp2_with fail
        refine (G1.out).mono ?_
        rintro e w1 ⟨rfl, b1⟩
        have hS1 := hS.below b1 (Nat.le_refl _)
        have HS1 := Lib.hid (G2.out w1 hS1)
        go_wp2_with fail
        refine (HS1.out).mono ?_
        rintro e w2 ⟨rfl, b2⟩
        have hS2 := hS1.below b2 (Nat.le_refl _)
        have HS2 := Lib.hid (H1.out w2 hS2)
        go_wp2_with fail
        refine (HS2.out).mono ?_
        rintro e w3 ⟨rfl, b3⟩
        have hS3 := hS2.below b3 (Nat.le_refl _)
        have HS3 := Lib.hid (H2.out w3 hS3)
        go_wp2_with fail
        refine (HS3.out).mono ?_
        rintro e w4 ⟨rfl, b4⟩
        have hS4 := hS3.below b4 (Nat.le_refl _)
        have HS4 := Lib.hid (H3.out w4 hS4)
        go_wp2_with fail
        refine (HS4.out).mono ?_
        rintro e w5 ⟨rfl, b5⟩
        go_wp2
        go_ret2
        rw [HR.out]
        exact ⟨rfl, below_trans b1 (below_trans b2 (below_trans b3 (below_trans b4 (b5))))⟩
    · have HR := Lib.hid (show C = (0, false) by rw [HC.out]; rfl)
      clear HC
      go_enter Tryd.func52, Tryd.ntmps52
      go_wp2_with fail
      refine (G1.out).mono ?_
      rintro e w1 ⟨rfl, b1⟩
      have hS1 := hS.below b1 (Nat.le_refl _)
      have HS1 := Lib.hid (G2.out w1 hS1)
      go_wp2_with fail
      refine (HS1.out).mono ?_
      rintro e w2 ⟨rfl, b2⟩
      have hS2 := hS1.below b2 (Nat.le_refl _)
      have HS2 := Lib.hid (H1.out w2 hS2)
      go_wp2
      go_ret2
      rw [HR.out]
      exact ⟨rfl, below_trans b1 (b2)⟩
  · have HR := Lib.hid (show C = (0, false) by rw [HC.out]; rfl)
    clear HC
    go_enter Tryd.func52, Tryd.ntmps52
    go_wp2_with fail
    refine (G1.out).mono ?_
    rintro e w1 ⟨rfl, b1⟩
    have hS1 := hS.below b1 (Nat.le_refl _)
    have HS1 := Lib.hid (G2.out w1 hS1)
    go_wp2
    go_ret2
    rw [HR.out]
    exact ⟨rfl, b1⟩
end Go.Proofs.YtmnabilgpndjmaaDoor
