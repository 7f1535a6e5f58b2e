/- Contracts of functions, and plain facts, part 10. -/
import Derived.Deep.DeepCutAuto
import Derived.IntWalk
import Derived.Test.YtoimhjcpeifegaaGreatDoorCards
import Derived.Lib.LaidTab
import Derived.Test.YtoimhjcpeifegaaGreatDoorPk2
import Derived.Test.YtoimhjcpeifegaaGreatDoorPk3
import Derived.Test.YtoimhjcpeifegaaGreatDoorPk6
import Derived.Test.YtoimhjcpeifegaaGreatDoorPk7
import Derived.Test.YtoimhjcpeifegaaGreatDoorPk8
set_option linter.unusedVariables false
set_option linter.unusedSimpArgs false
/- Printed by ieee2.py. -/
namespace Go.Proofs.YtoimhjcpeifegaaGreatDoor
open Go.RowKit

theorem class_64 (w : World) (hS : Shapes w) (x : Int) (hx : 0 ≤ x ∧ x < 18446744073709551616) : Calls Tryz.prog 51 #[.int .u64 x] w (fun e w' => e = .returned (.int .i8 (clsW 64 x)) ∧ Below w.heap.size w w') := by
  have HC := Lib.hid (show clsW 64 x = if 9218868437227405312 < sizeW 64 x then 5 else if sizeW 64 x = 9218868437227405312 then 4 else if sizeW 64 x = 0 then 1 else if sizeW 64 x < 4503599627370496 then 2 else 3 by unfold clsW; rw [inf64, show (2 : Int) ^ shF 64 = 4503599627370496 from by decide])
  have H1 := Lib.hid (of_64 w hS)
  have H2 := Lib.hid (fun (w : World) (hS : Shapes w) => split_64 w hS x hx)
  have hz0 := (size_bounds (W := 64) (by unfold Wide; omega) x ⟨hx.1, by exact hx.2⟩).1
  generalize clsW 64 x = C at *
  generalize sizeW 64 x = z at *
  by_cases t1 : 9218868437227405312 < z
  · have HR := Lib.hid (show C = 5 by rw [HC.out, if_pos t1])
    clear HC
    go_enter Tryz.func51, Tryz.ntmps51
    go_wp2_with fail
    refine (H1.out).mono ?_
    rintro e w1 ⟨rfl, b1⟩
    have bA : Below w1.heap.size w1 (w1.alloc (.cells #[.int .i64 52, .int .i64 (-1074), .int .i64 11] 95)) := (Below.refl _ _).alloc (Nat.le_refl _) _
    have c0 : (w1.alloc (.cells #[.int .i64 52, .int .i64 (-1074), .int .i64 11] 95)).cell? ⟨w1.heap.size, 0, none⟩ = some (.int .i64 (52)) := World.cell?_alloc_at _ _ _ _ rfl
    have c1 : (w1.alloc (.cells #[.int .i64 52, .int .i64 (-1074), .int .i64 11] 95)).cell? ⟨w1.heap.size, 1, none⟩ = some (.int .i64 (-1074)) := World.cell?_alloc_at _ _ _ _ rfl
    have c2 : (w1.alloc (.cells #[.int .i64 52, .int .i64 (-1074), .int .i64 11] 95)).cell? ⟨w1.heap.size, 2, none⟩ = some (.int .i64 (11)) := World.cell?_alloc_at _ _ _ _ rfl
    have HS2 := Lib.hid (H2.out (w1.alloc (.cells #[.int .i64 52, .int .i64 (-1074), .int .i64 11] 95)) ((hS.below b1 (Nat.le_refl _)).below bA (Nat.le_refl _)))
    go_wp2_with fail
    refine (HS2.out).mono ?_
    rintro e w2 ⟨rfl, b2⟩
    have d0 := below_cell b2 (Nat.le_refl _) c0
    have d1 := below_cell b2 (Nat.le_refl _) c1
    have d2 := below_cell b2 (Nat.le_refl _) c2
    have b2' := below_trans bA b2
    go_wp2_with fail
    refine (shinf_64 w2).mono ?_
    rintro e w3 ⟨rfl, b3⟩
    have e0 := below_cell b3 (Nat.le_refl _) d0
    have e1 := below_cell b3 (Nat.le_refl _) d1
    have e2 := below_cell b3 (Nat.le_refl _) d2
    go_wp2
    go_ret
    rw [HR.out]
    exact ⟨rfl, below_trans b1 (below_trans b2' b3)⟩
  · by_cases t2 : z = 9218868437227405312
    · have HR := Lib.hid (show C = 4 by rw [HC.out, if_neg t1, if_pos t2])
      have t2' : (z == 9218868437227405312) = true := by simpa using t2
      clear HC t2
      go_enter Tryz.func51, Tryz.ntmps51
      go_wp2_with fail
      refine (H1.out).mono ?_
      rintro e w1 ⟨rfl, b1⟩
      have bA : Below w1.heap.size w1 (w1.alloc (.cells #[.int .i64 52, .int .i64 (-1074), .int .i64 11] 95)) := (Below.refl _ _).alloc (Nat.le_refl _) _
      have c0 : (w1.alloc (.cells #[.int .i64 52, .int .i64 (-1074), .int .i64 11] 95)).cell? ⟨w1.heap.size, 0, none⟩ = some (.int .i64 (52)) := World.cell?_alloc_at _ _ _ _ rfl
      have c1 : (w1.alloc (.cells #[.int .i64 52, .int .i64 (-1074), .int .i64 11] 95)).cell? ⟨w1.heap.size, 1, none⟩ = some (.int .i64 (-1074)) := World.cell?_alloc_at _ _ _ _ rfl
      have c2 : (w1.alloc (.cells #[.int .i64 52, .int .i64 (-1074), .int .i64 11] 95)).cell? ⟨w1.heap.size, 2, none⟩ = some (.int .i64 (11)) := World.cell?_alloc_at _ _ _ _ rfl
      have HS2 := Lib.hid (H2.out (w1.alloc (.cells #[.int .i64 52, .int .i64 (-1074), .int .i64 11] 95)) ((hS.below b1 (Nat.le_refl _)).below bA (Nat.le_refl _)))
      go_wp2_with fail
      refine (HS2.out).mono ?_
      rintro e w2 ⟨rfl, b2⟩
      have d0 := below_cell b2 (Nat.le_refl _) c0
      have d1 := below_cell b2 (Nat.le_refl _) c1
      have d2 := below_cell b2 (Nat.le_refl _) c2
      have b2' := below_trans bA b2
      go_wp2_with fail
      refine (shinf_64 w2).mono ?_
      rintro e w3 ⟨rfl, b3⟩
      have e0 := below_cell b3 (Nat.le_refl _) d0
      have e1 := below_cell b3 (Nat.le_refl _) d1
      have e2 := below_cell b3 (Nat.le_refl _) d2
      go_wp2_with fail
      refine (shinf_64 w3).mono ?_
      rintro e w4 ⟨rfl, b4⟩
      have g0 := below_cell b4 (Nat.le_refl _) e0
      have g1 := below_cell b4 (Nat.le_refl _) e1
      have g2 := below_cell b4 (Nat.le_refl _) e2
      go_wp2
      go_ret
      rw [HR.out]
      exact ⟨rfl, below_trans b1 (below_trans b2' (below_trans b3 b4))⟩
    · have t2' : (z == 9218868437227405312) = false := by simpa using t2
      by_cases t3 : z = 0
      · have HR := Lib.hid (show C = 1 by rw [HC.out, if_neg t1, if_neg t2, if_pos t3])
        have t3' : (z == 0) = true := by simpa using t3
        clear HC t3 t2
        go_enter Tryz.func51, Tryz.ntmps51
        go_wp2_with fail
        refine (H1.out).mono ?_
        rintro e w1 ⟨rfl, b1⟩
        have bA : Below w1.heap.size w1 (w1.alloc (.cells #[.int .i64 52, .int .i64 (-1074), .int .i64 11] 95)) := (Below.refl _ _).alloc (Nat.le_refl _) _
        have c0 : (w1.alloc (.cells #[.int .i64 52, .int .i64 (-1074), .int .i64 11] 95)).cell? ⟨w1.heap.size, 0, none⟩ = some (.int .i64 (52)) := World.cell?_alloc_at _ _ _ _ rfl
        have c1 : (w1.alloc (.cells #[.int .i64 52, .int .i64 (-1074), .int .i64 11] 95)).cell? ⟨w1.heap.size, 1, none⟩ = some (.int .i64 (-1074)) := World.cell?_alloc_at _ _ _ _ rfl
        have c2 : (w1.alloc (.cells #[.int .i64 52, .int .i64 (-1074), .int .i64 11] 95)).cell? ⟨w1.heap.size, 2, none⟩ = some (.int .i64 (11)) := World.cell?_alloc_at _ _ _ _ rfl
        have HS2 := Lib.hid (H2.out (w1.alloc (.cells #[.int .i64 52, .int .i64 (-1074), .int .i64 11] 95)) ((hS.below b1 (Nat.le_refl _)).below bA (Nat.le_refl _)))
        go_wp2_with fail
        refine (HS2.out).mono ?_
        rintro e w2 ⟨rfl, b2⟩
        have d0 := below_cell b2 (Nat.le_refl _) c0
        have d1 := below_cell b2 (Nat.le_refl _) c1
        have d2 := below_cell b2 (Nat.le_refl _) c2
        have b2' := below_trans bA b2
        go_wp2_with fail
        refine (shinf_64 w2).mono ?_
        rintro e w3 ⟨rfl, b3⟩
        have e0 := below_cell b3 (Nat.le_refl _) d0
        have e1 := below_cell b3 (Nat.le_refl _) d1
        have e2 := below_cell b3 (Nat.le_refl _) d2
        go_wp2_with fail
        refine (shinf_64 w3).mono ?_
        rintro e w4 ⟨rfl, b4⟩
        have g0 := below_cell b4 (Nat.le_refl _) e0
        have g1 := below_cell b4 (Nat.le_refl _) e1
        have g2 := below_cell b4 (Nat.le_refl _) e2
        go_wp2
        go_ret
        rw [HR.out]
        exact ⟨rfl, below_trans b1 (below_trans b2' (below_trans b3 b4))⟩
      · have t3' : (z == 0) = false := by simpa using t3
        by_cases t4 : z < 4503599627370496
        · have HR := Lib.hid (show C = 2 by rw [HC.out, if_neg t1, if_neg t2, if_neg t3, if_pos t4])
          have t4' : (z / 4503599627370496 == 0) = true := by simp; omega
          clear HC t3 t2 t4
          go_enter Tryz.func51, Tryz.ntmps51
          go_wp2_with fail
          refine (H1.out).mono ?_
          rintro e w1 ⟨rfl, b1⟩
          have bA : Below w1.heap.size w1 (w1.alloc (.cells #[.int .i64 52, .int .i64 (-1074), .int .i64 11] 95)) := (Below.refl _ _).alloc (Nat.le_refl _) _
          have c0 : (w1.alloc (.cells #[.int .i64 52, .int .i64 (-1074), .int .i64 11] 95)).cell? ⟨w1.heap.size, 0, none⟩ = some (.int .i64 (52)) := World.cell?_alloc_at _ _ _ _ rfl
          have c1 : (w1.alloc (.cells #[.int .i64 52, .int .i64 (-1074), .int .i64 11] 95)).cell? ⟨w1.heap.size, 1, none⟩ = some (.int .i64 (-1074)) := World.cell?_alloc_at _ _ _ _ rfl
          have c2 : (w1.alloc (.cells #[.int .i64 52, .int .i64 (-1074), .int .i64 11] 95)).cell? ⟨w1.heap.size, 2, none⟩ = some (.int .i64 (11)) := World.cell?_alloc_at _ _ _ _ rfl
          have HS2 := Lib.hid (H2.out (w1.alloc (.cells #[.int .i64 52, .int .i64 (-1074), .int .i64 11] 95)) ((hS.below b1 (Nat.le_refl _)).below bA (Nat.le_refl _)))
          go_wp2_with fail
          refine (HS2.out).mono ?_
          rintro e w2 ⟨rfl, b2⟩
          have d0 := below_cell b2 (Nat.le_refl _) c0
          have d1 := below_cell b2 (Nat.le_refl _) c1
          have d2 := below_cell b2 (Nat.le_refl _) c2
          have b2' := below_trans bA b2
          go_wp2_with fail
          refine (shinf_64 w2).mono ?_
          rintro e w3 ⟨rfl, b3⟩
          have e0 := below_cell b3 (Nat.le_refl _) d0
          have e1 := below_cell b3 (Nat.le_refl _) d1
          have e2 := below_cell b3 (Nat.le_refl _) d2
          go_wp2_with fail
          refine (shinf_64 w3).mono ?_
          rintro e w4 ⟨rfl, b4⟩
          have g0 := below_cell b4 (Nat.le_refl _) e0
          have g1 := below_cell b4 (Nat.le_refl _) e1
          have g2 := below_cell b4 (Nat.le_refl _) e2
          go_wp2
          go_ret
          rw [HR.out]
          exact ⟨rfl, below_trans b1 (below_trans b2' (below_trans b3 b4))⟩
        · have HR := Lib.hid (show C = 3 by rw [HC.out, if_neg t1, if_neg t2, if_neg t3, if_neg t4])
          have t4' : (z / 4503599627370496 == 0) = false := by simp; omega
          clear HC t3 t2 t4
          go_enter Tryz.func51, Tryz.ntmps51
          go_wp2_with fail
          refine (H1.out).mono ?_
          rintro e w1 ⟨rfl, b1⟩
          have bA : Below w1.heap.size w1 (w1.alloc (.cells #[.int .i64 52, .int .i64 (-1074), .int .i64 11] 95)) := (Below.refl _ _).alloc (Nat.le_refl _) _
          have c0 : (w1.alloc (.cells #[.int .i64 52, .int .i64 (-1074), .int .i64 11] 95)).cell? ⟨w1.heap.size, 0, none⟩ = some (.int .i64 (52)) := World.cell?_alloc_at _ _ _ _ rfl
          have c1 : (w1.alloc (.cells #[.int .i64 52, .int .i64 (-1074), .int .i64 11] 95)).cell? ⟨w1.heap.size, 1, none⟩ = some (.int .i64 (-1074)) := World.cell?_alloc_at _ _ _ _ rfl
          have c2 : (w1.alloc (.cells #[.int .i64 52, .int .i64 (-1074), .int .i64 11] 95)).cell? ⟨w1.heap.size, 2, none⟩ = some (.int .i64 (11)) := World.cell?_alloc_at _ _ _ _ rfl
          have HS2 := Lib.hid (H2.out (w1.alloc (.cells #[.int .i64 52, .int .i64 (-1074), .int .i64 11] 95)) ((hS.below b1 (Nat.le_refl _)).below bA (Nat.le_refl _)))
          go_wp2_with fail
          refine (HS2.out).mono ?_
          rintro e w2 ⟨rfl, b2⟩
          have d0 := below_cell b2 (Nat.le_refl _) c0
          have d1 := below_cell b2 (Nat.le_refl _) c1
          have d2 := below_cell b2 (Nat.le_refl _) c2
          have b2' := below_trans bA b2
          go_wp2_with fail
          refine (shinf_64 w2).mono ?_
          rintro e w3 ⟨rfl, b3⟩
          have e0 := below_cell b3 (Nat.le_refl _) d0
          have e1 := below_cell b3 (Nat.le_refl _) d1
          have e2 := below_cell b3 (Nat.le_refl _) d2
          go_wp2_with fail
          refine (shinf_64 w3).mono ?_
          rintro e w4 ⟨rfl, b4⟩
          have g0 := below_cell b4 (Nat.le_refl _) e0
          have g1 := below_cell b4 (Nat.le_refl _) e1
          have g2 := below_cell b4 (Nat.le_refl _) e2
          go_wp2
          go_ret
          rw [HR.out]
          exact ⟨rfl, below_trans b1 (below_trans b2' (below_trans b3 b4))⟩
end Go.Proofs.YtoimhjcpeifegaaGreatDoor


/- Printed by ieee3.py. -/
namespace Go.Proofs.YtoimhjcpeifegaaGreatDoor
open Go.RowKit

set_option maxRecDepth 100000 in
set_option maxHeartbeats 4000000 in
theorem round_16 (w : World) (hS : Shapes w) (neg : Bool) (ad : Option Addr) (n c : Nat) (V p : Int) (more : Bool) (h : Num w ad n c V) (hn : n ≤ 1099511627776) (hp : -9223372036854775808 ≤ p ∧ p < 9223372036854775808) :
    Calls Tryz.prog 95 #[.bool neg, .slice ad n c, .int .i64 p, .bool more] w (fun e w' => e = .returned (.int .u16 (roundW 16 neg V p more)) ∧ Below w.heap.size w w') := by
  have HW := Lib.hid (show Wide 16 by unfold Wide; omega)
  have HSn := Lib.hid (fun (w : World) (hS : Shapes w) (z : Int) (hz : 0 ≤ z ∧ z < 32768) => signed_16 w hS neg z hz)
  have HIn := Lib.hid (shinf_16)
  have HIW := Lib.hid (show (31744 : Int) = (infN 16 : Nat) by decide)
  have hN := h.bits_le
  have hV := h.nonneg
  have HVn := Lib.hid h.lt
  obtain ⟨N, hNe⟩ : ∃ N, N = bitsOf V := ⟨_, rfl⟩
  rw [← hNe] at hN
  have HN0 := Lib.hid (show N = 0 ↔ V = 0 by rw [hNe]; exact bits_zero_iff V hV)
  have HNe := Lib.hid hNe
  clear hNe
  have HR := Lib.hid (show roundW 16 neg V p more = (if neg then sgnW 16 else 0) + (nearE 16 (rM V more) (rE p more) : Nat) from rfl)
  generalize roundW 16 neg V p more = R at *
  generalize (if neg then sgnW 16 else 0) = sg at *
  have H1 := Lib.hid (of_16 w hS)
  go_enter Tryz.func95, Tryz.ntmps95
  go_wp2_with fail
  refine (H1.out).mono ?_
  rintro e w1 ⟨rfl, b1⟩
  have bA : Below w1.heap.size w1 (w1.alloc (.cells #[.int .i64 10, .int .i64 (-24), .int .i64 5] 95)) := (Below.refl _ _).alloc (Nat.le_refl _) _
  have sh2 : ShAt 10 (-24) 5 w1.heap.size (w1.alloc (.cells #[.int .i64 10, .int .i64 (-24), .int .i64 5] 95)) := ShAt.made _ _ _ _
  have h2 := (h.below b1 (Nat.le_refl _)).below bA (Nat.le_refl _)
  have hS2 := (hS.below b1 (Nat.le_refl _)).below bA (Nat.le_refl _)
  have b2 := below_trans b1 bA
  have HLen := Lib.hid (num_len ad n c V _ h2 (by omega))
  rw [← HNe.out] at HLen
  clear h hS bA b1
  go_wp2_with fail
  refine (HLen.out).mono ?_
  rintro e w' ⟨rfl, rfl⟩
  clear HLen
  generalize (w1.alloc (.cells #[.int .i64 10, .int .i64 (-24), .int .i64 5] 95)) = w2 at *
  generalize w1.heap.size = b at *
  obtain ⟨c0, c1, c2⟩ := sh2
  by_cases hz : V = 0 ∧ more = false
  · obtain ⟨rfl, rfl⟩ := hz
    obtain rfl : N = 0 := HN0.out.2 rfl
    have HE := Lib.hid (show R = sg by rw [HR.out]; show sg + (nearE 16 0 p : Int) = _; rw [nearE_zero HW.out]; omega)
    go_wp2_with fail
    refine (HSn.out w2 hS2 0 (by omega)).mono ?_
    rintro e w3 ⟨rfl, b3⟩
    go_wp2
    go_ret
    rw [HE.out]
    exact ⟨rfl, below_trans b2 b3⟩
  · have HZ := Lib.hid hz
    have HZ2 : Hid (N = 0 → more = true) := fun hN0 => by
      have := HN0.out.1 hN0
      cases more
      · exact absurd ⟨this, rfl⟩ hz
      · rfl
    clear hz
    go_upto_region 3 with (fail)
    go_cut [20] (fun s20 wx => s20 = .bool false ∧ w2 = wx)
    case first =>
      by_cases hn0 : N = 0
      · obtain rfl := HZ2.out hn0
        subst hn0
        go_wp2_with fail
        go_meet
        case rel => exact ⟨rfl, rfl⟩
      · have hn1 : (N == 0) = false := by simpa using hn0
        clear hn0
        go_wp2_with fail
        go_meet
        case rel => exact ⟨rfl, rfl⟩
    case rest =>
      obtain ⟨rfl, rfl⟩ := hcut
      by_cases hp1 : 2000 < p
      · have HE := Lib.hid (show R = sg + 31744 by rw [HR.out, prog_big HW.out V p more hV HZ.out hp1, HIW.out])
        go_wp2_with fail
        refine (HIn.out _).mono ?_
        rintro e w3 ⟨rfl, b3⟩
        go_wp2_with fail
        refine (HSn.out w3 (hS2.below b3 (Nat.le_refl _)) 31744 (by omega)).mono ?_
        rintro e w4 ⟨rfl, b4⟩
        go_wp2
        go_ret
        rw [HE.out]
        exact ⟨rfl, below_trans b2 (below_trans b3 b4)⟩
      · have W1 : IntKind.i64.wrap (-3000 - N) = -3000 - N := IntWalk.i64_in _ (by omega)
        by_cases hp2 : p < -3000 - N
        · have HE := Lib.hid (show R = sg by rw [HR.out, prog_zero HW.out V p more hV (by rw [← HNe.out]; exact hp2)]; omega)
          go_wp2_with fail
          refine (HSn.out w2 hS2 0 (by omega)).mono ?_
          rintro e w3 ⟨rfl, b3⟩
          go_wp2
          go_ret
          rw [HE.out]
          exact ⟨rfl, below_trans b2 b3⟩
        · go_upto_if 43 with (fail)
          go_cut [1, 2, 10] (fun s1 s2 s10 wx => ∃ ad' n' c' M p' N', s1 = .slice ad' n' c' ∧ s2 = .int .i64 p' ∧ s10 = .int .i64 N' ∧ PNum 16 10 (-24) 5 b w wx (nearE 16 (rM V more) (rE p more)) ad' n' c' M p' N')
          case first =>
            cases more
            · have hV0 : 0 < V := by have := HZ.out; simp at this; omega
              go_wp2_with fail
              go_meet
              case rel => exact ⟨_, _, _, _, _, _, rfl, rfl, rfl, h2, hV0, by omega, by omega, by omega, HNe.out, rfl, ⟨c0, c1, c2⟩, hS2, b2⟩
            · have NE : Hid (nearE 16 (rM V true) (rE p true) = nearE 16 (V + V + 1).toNat (p - 1)) := by
                show nearE 16 (2 * V.toNat + 1) (p - 1) = _
                rw [show (V + V + 1).toNat = 2 * V.toNat + 1 by omega]
              have NB := Lib.hid (show N + 1 = bitsOf (V + V + 1) by rw [bitsOf_double V hV, HNe.out])
              have A1 := Lib.hid (num_add ad ad n n c c V V w2 h2 h2 (by omega) (by omega))
              have L1 := Lib.hid (double_lt hV HVn.out)
              go_wp2_with fail
              refine (A1.out).mono ?_
              rintro e w3 ⟨ad3, n3, c3, rfl, f3, b3⟩
              have l3 := f3.len_le (n + 1) (by have := L1.out; omega)
              have bB : Below w3.heap.size w3 (w3.alloc (.cells #[.int .u32 1] 23)) := (Below.refl _ _).alloc (Nat.le_refl _) _
              have A2 := Lib.hid (num_add ad3 _ n3 1 c3 1 (V + V) 1 _ ((f3.num (by omega)).below bB (Nat.le_refl _)) (num_one w3) (by omega) (by omega))
              go_wp2_with fail
              refine (A2.out).mono ?_
              rintro e w4 ⟨ad4, n4, c4, rfl, f4, b4⟩
              have l4 := f4.len_le (n + 1) L1.out
              have b24 := below_trans b3 (below_trans bB b4)
              have W2 : IntKind.i64.wrap (p - 1) = p - 1 := IntWalk.i64_in _ (by omega)
              have W3 : IntKind.i64.wrap (N + 1) = N + 1 := IntWalk.i64_in _ (by omega)
              go_wp2_with fail
              go_meet
              case rel => exact ⟨_, _, _, _, _, _, rfl, rfl, rfl, f4.num (by omega), by omega, by omega, by omega, by omega, NB.out, NE.out, ShAt.below ⟨c0, c1, c2⟩ b24, hS2.below b24 (Nat.le_refl _), below_trans b2 b24⟩
          case rest =>
            obtain ⟨ad3, n3, c3, M, p3, N3, rfl, rfl, rfl, hm⟩ := hcut
            have hpos := hm.pos
            have hbd := hm.bd
            have hnb := hm.nb
            have hlen := hm.len
            have HM := Lib.hid hm
            clear hm
            obtain ⟨w5, hw5⟩ : ∃ x, x = wc := ⟨_, rfl⟩
            subst hw5
            obtain ⟨last, hmax⟩ : ∃ last, max (N3 - 10 - 1 + p3) (-24) = last := ⟨_, rfl⟩
            have hl1 : N3 - 10 - 1 + p3 ≤ last := by omega
            have hl2 : -24 ≤ last := by omega
            have HL3 := Lib.hid (show last = -24 ∨ last = N3 - 10 - 1 + p3 by omega)
            have hl4 : last ≤ 1125899906852625 := by omega
            obtain ⟨c0, c1, c2⟩ := HM.out.sh
            have W1 : IntKind.i64.wrap (N3 - 10) = N3 - 10 := IntWalk.i64_in _ (by omega)
            have W2 : IntKind.i64.wrap (N3 - 10 - 1) = N3 - 10 - 1 := IntWalk.i64_in _ (by omega)
            have W3 : IntKind.i64.wrap (N3 - 10 - 1 + p3) = N3 - 10 - 1 + p3 := IntWalk.i64_in _ (by omega)
            have W4 : IntKind.i64.wrap (last - (-24)) = last - (-24) := IntWalk.i64_in _ (by omega)
            go_upto_region 13 with (fail)
            clear W1 W2 W3 hmax
            have e1 : shF 16 = 10 := rfl
            have e2 : shL 16 = -24 := rfl
            have e3 : (2 : Int) ^ shE 16 = 30 + 2 := by decide
            have HK := Lib.hid (And.intro e1 (And.intro e2 e3))
            clear e1 e2 e3
            by_cases hd : 30 ≤ last - (-24)
            · have HE := Lib.hid (show R = sg + 31744 by
                rw [HR.out, HM.out.near.out, prog_inf HW.out M p3 last hpos (by rw [HK.out.1, ← HM.out.bits.out]; have := HL3.out; omega) (by rw [HK.out.2.1, HK.out.2.2]; omega), HIW.out])
              have hd2 : decide (30 ≤ last + 24) = true := decide_eq_true (by omega)
              go_cut [71] (fun s71 wx => s71 = .bool true ∧ PNum 16 10 (-24) 5 b w wx (nearE 16 (rM V more) (rE p more)) ad3 n3 c3 M p3 N3)
              case first =>
                go_quiet (fail)
                go_wp2_with fail
                go_meet
                case rel => exact ⟨by first | rfl | rw [hd2], HM.out.below (below_drewN (Below.refl _ _) _)⟩
              case rest =>
                obtain ⟨rfl, hm6⟩ := hcut
                obtain ⟨c0, c1, c2⟩ := hm6.sh
                have HM6 := Lib.hid hm6
                clear hm6
                go_wp2_with fail
                refine (HIn.out _).mono ?_
                rintro e w7 ⟨rfl, b7⟩
                have HM7 := Lib.hid (HM6.out.below b7)
                go_wp2_with fail
                refine (HSn.out w7 HM7.out.shp 31744 (by omega)).mono ?_
                rintro e w8 ⟨rfl, b8⟩
                go_wp2
                go_ret
                rw [HE.out]
                exact ⟨rfl, below_trans HM7.out.bel b8⟩
            · have hd2 : decide (30 ≤ last + 24) = false := decide_eq_false (by omega)
              go_cut [71] (fun s71 wx => s71 = .bool false ∧ PNum 16 10 (-24) 5 b w wx (nearE 16 (rM V more) (rE p more)) ad3 n3 c3 M p3 N3)
              case first =>
                go_quiet (fail)
                go_wp2_with fail
                go_meet
                case rel => exact ⟨by first | rfl | rw [hd2], HM.out.below (below_drewN (Below.refl _ _) _)⟩
              case rest =>
                obtain ⟨rfl, hm6⟩ := hcut
                obtain ⟨w6, hw6⟩ : ∃ x, x = wc := ⟨_, rfl⟩
                subst hw6
                have HM6 := Lib.hid hm6
                clear hm6 c0 c1 c2 HM
                generalize nearE 16 (rM V more) (rE p more) = T at *
                go_upto_if 78 with (fail)
                go_cut [12] (fun s12 wx => ∃ kept : Int, s12 = .int .u64 kept ∧ (0 ≤ kept ∧ kept ≤ 2048) ∧ Hid ((T : Int) = (last - (-24)) * 1024 + kept) ∧ (last = -24 ∨ 1024 ≤ kept) ∧ PAt 10 (-24) 5 b w wx)
                case first =>
                  by_cases hlp : last ≤ p3
                  · have K := prog_exact HW.out M p3 N3 last (last - (-24)) hpos HM6.out.bits.out (by rw [HK.out.1]; exact hl1) (by rw [HK.out.2.1]) (by omega) (by rw [HK.out.2.2]; omega) (by rw [HK.out.1]; have := HL3.out; omega) hlp
                    rw [HK.out.1, show (2 : Int) ^ 10 = 1024 from by decide, show (2 : Int) ^ (10 + 1) = 2048 from by decide, ← HM6.out.near.out] at K
                    obtain ⟨kp, hkp⟩ : ∃ kp, M * 2 ^ (p3 - last).toNat = kp := ⟨_, rfl⟩
                    rw [hkp] at K
                    obtain ⟨K1, K2, K3, K4⟩ := K
                    have hkp0 : 0 ≤ kp := by rw [← hkp]; exact Int.mul_nonneg (by omega) (Int.le_of_lt (Int.pow_pos (by omega)))
                    have HU := num_uint ad3 n3 c3 M w6 HM6.out.num (by omega)
                    rw [show low64 M = M by unfold low64; rw [if_pos (by omega)]] at HU
                    generalize fits64 M = ff at *
                    have HU1 := Lib.hid HU
                    have K1' := Lib.hid K1
                    have W5 : IntKind.i64.wrap (p3 - last) = p3 - last := IntWalk.i64_in _ (by omega)
                    have W6 : IntKind.u64.wrap kp = kp := by rw [IntKind.wrap_u64]; omega
                    have W7 : kp % 18446744073709551616 = kp := by omega
                    clear HU K1
                    go_wp2_with fail
                    refine (HU1.out).mono ?_
                    rintro e w' ⟨rfl, rfl⟩
                    go_wp2_with fail
                    go_meet
                    case rel => exact ⟨kp, rfl, by omega, K1'.out, by omega, HM6.out.sh, HM6.out.shp, HM6.out.bel⟩
                  · obtain ⟨q, hq⟩ : ∃ q, q = M / 2 ^ (last - p3 - 1).toNat := ⟨_, rfl⟩
                    obtain ⟨rest, hr⟩ : ∃ rest, rest = decide (M % 2 ^ (last - p3 - 1).toNat ≠ 0) := ⟨_, rfl⟩
                    have K := prog_cut HW.out M p3 N3 last (last - (-24)) q hpos HM6.out.bits.out (by rw [HK.out.1]; exact hl1) (by rw [HK.out.2.1]) (by omega) (by rw [HK.out.2.2]; omega) (by rw [HK.out.1]; have := HL3.out; omega) (by omega) hq rest hr
                    rw [HK.out.1, show (2 : Int) ^ 10 = 1024 from by decide, show (2 : Int) ^ (10 + 2) = 4096 from by decide, ← HM6.out.near.out] at K
                    obtain ⟨K1, K2, K3, K4⟩ := K
                    have HS := num_shr ad3 n3 c3 M (last - p3 - 1) w6 HM6.out.num (by omega) (by omega)
                    rw [show shrNum M (last - p3 - 1) = q by unfold shrNum; rw [if_pos (by omega), hq], show shrMore M (last - p3 - 1) = rest by unfold shrMore; rw [decide_eq_true (by omega : 0 ≤ last - p3 - 1), Bool.true_and, hr]] at HS
                    have HS1 := Lib.hid HS
                    have K1' := Lib.hid K1
                    clear HS K1 hq hr
                    have W5 : IntKind.i64.wrap (last - p3) = last - p3 := IntWalk.i64_in _ (by omega)
                    have W6 : IntKind.i64.wrap (last - p3 - 1) = last - p3 - 1 := IntWalk.i64_in _ (by omega)
                    go_wp2_with fail
                    refine (HS1.out).mono ?_
                    rintro e w7 ⟨adq, lq, cq, rfl, fq, b7⟩
                    have hlq := fq.len_le 2 (Int.lt_of_lt_of_le K3 (by decide))
                    have HU := num_uint adq lq cq q w7 (fq.num K2) (by omega)
                    rw [show low64 q = q by unfold low64; rw [if_pos (by omega)]] at HU
                    generalize fits64 q = ff at *
                    have HU1 := Lib.hid HU
                    have HM7 := Lib.hid (HM6.out.below b7)
                    clear HU W5 W6
                    go_wp2_with fail
                    refine (HU1.out).mono ?_
                    rintro e w' ⟨rfl, rfl⟩
                    have A1 := and_one q ⟨K2, by omega⟩
                    have A2 := and_one (q / 2) ⟨by omega, by omega⟩
                    have W5 : IntKind.u64.wrap (q / 2 + 1) = q / 2 + 1 := by rw [IntKind.wrap_u64]; omega
                    have W6 : (q / 2 + 1) % 18446744073709551616 = q / 2 + 1 := by omega
                    by_cases hodd : q % 2 = 1
                    · have hc1 : rest = true ∨ (rest = false ∧ q / 2 % 2 = 1) ∨ (rest = false ∧ q / 2 % 2 = 0) := by cases rest <;> simp <;> omega
                      rcases hc1 with rfl | ⟨rfl, he⟩ | ⟨rfl, he⟩
                      · have K5 := Lib.hid (show (T : Int) = (last - (-24)) * 1024 + (q / 2 + 1) by rw [K1'.out, if_pos ⟨hodd, .inl rfl⟩])
                        rw [hodd] at A1
                        go_wp2_with fail
                        go_meet
                        case rel => exact ⟨q / 2 + 1, rfl, by omega, K5.out, by omega, HM7.out.sh, HM7.out.shp, HM7.out.bel⟩
                      · have K5 := Lib.hid (show (T : Int) = (last - (-24)) * 1024 + (q / 2 + 1) by rw [K1'.out, if_pos ⟨hodd, .inr he⟩])
                        rw [hodd] at A1
                        rw [he] at A2
                        go_wp2_with fail
                        go_meet
                        case rel => exact ⟨q / 2 + 1, rfl, by omega, K5.out, by omega, HM7.out.sh, HM7.out.shp, HM7.out.bel⟩
                      · have K5 := Lib.hid (show (T : Int) = (last - (-24)) * 1024 + q / 2 by rw [K1'.out, if_neg (by rintro ⟨-, h | h⟩; exact absurd h (by decide); omega)])
                        rw [hodd] at A1
                        rw [he] at A2
                        go_wp2_with fail
                        go_meet
                        case rel => exact ⟨q / 2, rfl, by omega, K5.out, by omega, HM7.out.sh, HM7.out.shp, HM7.out.bel⟩
                    · have K5 := Lib.hid (show (T : Int) = (last - (-24)) * 1024 + q / 2 by rw [K1'.out, if_neg (fun h => hodd h.1)])
                      rw [show q % 2 = 0 by omega] at A1
                      clear hodd
                      go_wp2_with fail
                      go_meet
                      case rel => exact ⟨q / 2, rfl, by omega, K5.out, by omega, HM7.out.sh, HM7.out.shp, HM7.out.bel⟩
                case rest =>
                  obtain ⟨kept, rfl, hk, HT, hor, hat⟩ := hcut
                  obtain ⟨w8, hw8⟩ : ∃ x, x = wc := ⟨_, rfl⟩
                  subst hw8
                  obtain ⟨sh8, hS8, b8⟩ := hat
                  obtain ⟨c0, c1, c2⟩ := sh8
                  clear HM6
                  by_cases hk0 : kept < 1024
                  · have HE := Lib.hid (show R = sg + kept by rw [HR.out, HT.out]; omega)
                    have hk1 : (kept / 1024 == 0) = true := by simp; omega
                    clear HT
                    go_wp2_with fail
                    refine (HSn.out w8 hS8 kept (by omega)).mono ?_
                    rintro e w9 ⟨rfl, b9⟩
                    go_wp2
                    go_ret
                    rw [HE.out]
                    exact ⟨rfl, below_trans b8 b9⟩
                  · have HE := Lib.hid (show R = sg + ((last + 24) * 1024 + kept) by rw [HR.out, HT.out]; omega)
                    have hk1 : (kept / 1024 == 0) = false := by simp; omega
                    have W5 : IntKind.u64.wrap (last + 24) = last + 24 := by rw [IntKind.wrap_u64]; omega
                    have W6 : IntKind.u64.wrap ((last + 24) * 1024) = (last + 24) * 1024 := by rw [IntKind.wrap_u64]; omega
                    have W7 : IntKind.u64.wrap ((last + 24) * 1024 + kept) = (last + 24) * 1024 + kept := by rw [IntKind.wrap_u64]; omega
                    have V5 : (last + 24) % 18446744073709551616 = last + 24 := by omega
                    have V6 : (last + 24) * 1024 % 18446744073709551616 = (last + 24) * 1024 := by omega
                    have V7 : ((last + 24) * 1024 + kept) % 18446744073709551616 = (last + 24) * 1024 + kept := by omega
                    clear HT
                    go_wp2_with fail
                    refine (HSn.out w8 hS8 ((last + 24) * 1024 + kept) (by omega)).mono ?_
                    rintro e w9 ⟨rfl, b9⟩
                    go_wp2
                    go_ret
                    rw [HE.out]
                    exact ⟨rfl, below_trans b8 b9⟩
end Go.Proofs.YtoimhjcpeifegaaGreatDoor


/- Printed by ieee3.py. -/
namespace Go.Proofs.YtoimhjcpeifegaaGreatDoor
open Go.RowKit

set_option maxRecDepth 100000 in
set_option maxHeartbeats 4000000 in
theorem round_32 (w : World) (hS : Shapes w) (neg : Bool) (ad : Option Addr) (n c : Nat) (V p : Int) (more : Bool) (h : Num w ad n c V) (hn : n ≤ 1099511627776) (hp : -9223372036854775808 ≤ p ∧ p < 9223372036854775808) :
    Calls Tryz.prog 98 #[.bool neg, .slice ad n c, .int .i64 p, .bool more] w (fun e w' => e = .returned (.int .u32 (roundW 32 neg V p more)) ∧ Below w.heap.size w w') := by
  have HW := Lib.hid (show Wide 32 by unfold Wide; omega)
  have HSn := Lib.hid (fun (w : World) (hS : Shapes w) (z : Int) (hz : 0 ≤ z ∧ z < 2147483648) => signed_32 w hS neg z hz)
  have HIn := Lib.hid (shinf_32)
  have HIW := Lib.hid (show (2139095040 : Int) = (infN 32 : Nat) by decide)
  have hN := h.bits_le
  have hV := h.nonneg
  have HVn := Lib.hid h.lt
  obtain ⟨N, hNe⟩ : ∃ N, N = bitsOf V := ⟨_, rfl⟩
  rw [← hNe] at hN
  have HN0 := Lib.hid (show N = 0 ↔ V = 0 by rw [hNe]; exact bits_zero_iff V hV)
  have HNe := Lib.hid hNe
  clear hNe
  have HR := Lib.hid (show roundW 32 neg V p more = (if neg then sgnW 32 else 0) + (nearE 32 (rM V more) (rE p more) : Nat) from rfl)
  generalize roundW 32 neg V p more = R at *
  generalize (if neg then sgnW 32 else 0) = sg at *
  have H1 := Lib.hid (of_32 w hS)
  go_enter Tryz.func98, Tryz.ntmps98
  go_wp2_with fail
  refine (H1.out).mono ?_
  rintro e w1 ⟨rfl, b1⟩
  have bA : Below w1.heap.size w1 (w1.alloc (.cells #[.int .i64 23, .int .i64 (-149), .int .i64 8] 95)) := (Below.refl _ _).alloc (Nat.le_refl _) _
  have sh2 : ShAt 23 (-149) 8 w1.heap.size (w1.alloc (.cells #[.int .i64 23, .int .i64 (-149), .int .i64 8] 95)) := ShAt.made _ _ _ _
  have h2 := (h.below b1 (Nat.le_refl _)).below bA (Nat.le_refl _)
  have hS2 := (hS.below b1 (Nat.le_refl _)).below bA (Nat.le_refl _)
  have b2 := below_trans b1 bA
  have HLen := Lib.hid (num_len ad n c V _ h2 (by omega))
  rw [← HNe.out] at HLen
  clear h hS bA b1
  go_wp2_with fail
  refine (HLen.out).mono ?_
  rintro e w' ⟨rfl, rfl⟩
  clear HLen
  generalize (w1.alloc (.cells #[.int .i64 23, .int .i64 (-149), .int .i64 8] 95)) = w2 at *
  generalize w1.heap.size = b at *
  obtain ⟨c0, c1, c2⟩ := sh2
  by_cases hz : V = 0 ∧ more = false
  · obtain ⟨rfl, rfl⟩ := hz
    obtain rfl : N = 0 := HN0.out.2 rfl
    have HE := Lib.hid (show R = sg by rw [HR.out]; show sg + (nearE 32 0 p : Int) = _; rw [nearE_zero HW.out]; omega)
    go_wp2_with fail
    refine (HSn.out w2 hS2 0 (by omega)).mono ?_
    rintro e w3 ⟨rfl, b3⟩
    go_wp2
    go_ret
    rw [HE.out]
    exact ⟨rfl, below_trans b2 b3⟩
  · have HZ := Lib.hid hz
    have HZ2 : Hid (N = 0 → more = true) := fun hN0 => by
      have := HN0.out.1 hN0
      cases more
      · exact absurd ⟨this, rfl⟩ hz
      · rfl
    clear hz
    go_upto_region 3 with (fail)
    go_cut [20] (fun s20 wx => s20 = .bool false ∧ w2 = wx)
    case first =>
      by_cases hn0 : N = 0
      · obtain rfl := HZ2.out hn0
        subst hn0
        go_wp2_with fail
        go_meet
        case rel => exact ⟨rfl, rfl⟩
      · have hn1 : (N == 0) = false := by simpa using hn0
        clear hn0
        go_wp2_with fail
        go_meet
        case rel => exact ⟨rfl, rfl⟩
    case rest =>
      obtain ⟨rfl, rfl⟩ := hcut
      by_cases hp1 : 2000 < p
      · have HE := Lib.hid (show R = sg + 2139095040 by rw [HR.out, prog_big HW.out V p more hV HZ.out hp1, HIW.out])
        go_wp2_with fail
        refine (HIn.out _).mono ?_
        rintro e w3 ⟨rfl, b3⟩
        go_wp2_with fail
        refine (HSn.out w3 (hS2.below b3 (Nat.le_refl _)) 2139095040 (by omega)).mono ?_
        rintro e w4 ⟨rfl, b4⟩
        go_wp2
        go_ret
        rw [HE.out]
        exact ⟨rfl, below_trans b2 (below_trans b3 b4)⟩
      · have W1 : IntKind.i64.wrap (-3000 - N) = -3000 - N := IntWalk.i64_in _ (by omega)
        by_cases hp2 : p < -3000 - N
        · have HE := Lib.hid (show R = sg by rw [HR.out, prog_zero HW.out V p more hV (by rw [← HNe.out]; exact hp2)]; omega)
          go_wp2_with fail
          refine (HSn.out w2 hS2 0 (by omega)).mono ?_
          rintro e w3 ⟨rfl, b3⟩
          go_wp2
          go_ret
          rw [HE.out]
          exact ⟨rfl, below_trans b2 b3⟩
        · go_upto_if 43 with (fail)
          go_cut [1, 2, 10] (fun s1 s2 s10 wx => ∃ ad' n' c' M p' N', s1 = .slice ad' n' c' ∧ s2 = .int .i64 p' ∧ s10 = .int .i64 N' ∧ PNum 32 23 (-149) 8 b w wx (nearE 32 (rM V more) (rE p more)) ad' n' c' M p' N')
          case first =>
            cases more
            · have hV0 : 0 < V := by have := HZ.out; simp at this; omega
              go_wp2_with fail
              go_meet
              case rel => exact ⟨_, _, _, _, _, _, rfl, rfl, rfl, h2, hV0, by omega, by omega, by omega, HNe.out, rfl, ⟨c0, c1, c2⟩, hS2, b2⟩
            · have NE : Hid (nearE 32 (rM V true) (rE p true) = nearE 32 (V + V + 1).toNat (p - 1)) := by
                show nearE 32 (2 * V.toNat + 1) (p - 1) = _
                rw [show (V + V + 1).toNat = 2 * V.toNat + 1 by omega]
              have NB := Lib.hid (show N + 1 = bitsOf (V + V + 1) by rw [bitsOf_double V hV, HNe.out])
              have A1 := Lib.hid (num_add ad ad n n c c V V w2 h2 h2 (by omega) (by omega))
              have L1 := Lib.hid (double_lt hV HVn.out)
              go_wp2_with fail
              refine (A1.out).mono ?_
              rintro e w3 ⟨ad3, n3, c3, rfl, f3, b3⟩
              have l3 := f3.len_le (n + 1) (by have := L1.out; omega)
              have bB : Below w3.heap.size w3 (w3.alloc (.cells #[.int .u32 1] 23)) := (Below.refl _ _).alloc (Nat.le_refl _) _
              have A2 := Lib.hid (num_add ad3 _ n3 1 c3 1 (V + V) 1 _ ((f3.num (by omega)).below bB (Nat.le_refl _)) (num_one w3) (by omega) (by omega))
              go_wp2_with fail
              refine (A2.out).mono ?_
              rintro e w4 ⟨ad4, n4, c4, rfl, f4, b4⟩
              have l4 := f4.len_le (n + 1) L1.out
              have b24 := below_trans b3 (below_trans bB b4)
              have W2 : IntKind.i64.wrap (p - 1) = p - 1 := IntWalk.i64_in _ (by omega)
              have W3 : IntKind.i64.wrap (N + 1) = N + 1 := IntWalk.i64_in _ (by omega)
              go_wp2_with fail
              go_meet
              case rel => exact ⟨_, _, _, _, _, _, rfl, rfl, rfl, f4.num (by omega), by omega, by omega, by omega, by omega, NB.out, NE.out, ShAt.below ⟨c0, c1, c2⟩ b24, hS2.below b24 (Nat.le_refl _), below_trans b2 b24⟩
          case rest =>
            obtain ⟨ad3, n3, c3, M, p3, N3, rfl, rfl, rfl, hm⟩ := hcut
            have hpos := hm.pos
            have hbd := hm.bd
            have hnb := hm.nb
            have hlen := hm.len
            have HM := Lib.hid hm
            clear hm
            obtain ⟨w5, hw5⟩ : ∃ x, x = wc := ⟨_, rfl⟩
            subst hw5
            obtain ⟨last, hmax⟩ : ∃ last, max (N3 - 23 - 1 + p3) (-149) = last := ⟨_, rfl⟩
            have hl1 : N3 - 23 - 1 + p3 ≤ last := by omega
            have hl2 : -149 ≤ last := by omega
            have HL3 := Lib.hid (show last = -149 ∨ last = N3 - 23 - 1 + p3 by omega)
            have hl4 : last ≤ 1125899906852625 := by omega
            obtain ⟨c0, c1, c2⟩ := HM.out.sh
            have W1 : IntKind.i64.wrap (N3 - 23) = N3 - 23 := IntWalk.i64_in _ (by omega)
            have W2 : IntKind.i64.wrap (N3 - 23 - 1) = N3 - 23 - 1 := IntWalk.i64_in _ (by omega)
            have W3 : IntKind.i64.wrap (N3 - 23 - 1 + p3) = N3 - 23 - 1 + p3 := IntWalk.i64_in _ (by omega)
            have W4 : IntKind.i64.wrap (last - (-149)) = last - (-149) := IntWalk.i64_in _ (by omega)
            go_upto_region 13 with (fail)
            clear W1 W2 W3 hmax
            have e1 : shF 32 = 23 := rfl
            have e2 : shL 32 = -149 := rfl
            have e3 : (2 : Int) ^ shE 32 = 254 + 2 := by decide
            have HK := Lib.hid (And.intro e1 (And.intro e2 e3))
            clear e1 e2 e3
            by_cases hd : 254 ≤ last - (-149)
            · have HE := Lib.hid (show R = sg + 2139095040 by
                rw [HR.out, HM.out.near.out, prog_inf HW.out M p3 last hpos (by rw [HK.out.1, ← HM.out.bits.out]; have := HL3.out; omega) (by rw [HK.out.2.1, HK.out.2.2]; omega), HIW.out])
              have hd2 : decide (254 ≤ last + 149) = true := decide_eq_true (by omega)
              go_cut [71] (fun s71 wx => s71 = .bool true ∧ PNum 32 23 (-149) 8 b w wx (nearE 32 (rM V more) (rE p more)) ad3 n3 c3 M p3 N3)
              case first =>
                go_quiet (fail)
                go_wp2_with fail
                go_meet
                case rel => exact ⟨by first | rfl | rw [hd2], HM.out.below (below_drewN (Below.refl _ _) _)⟩
              case rest =>
                obtain ⟨rfl, hm6⟩ := hcut
                obtain ⟨c0, c1, c2⟩ := hm6.sh
                have HM6 := Lib.hid hm6
                clear hm6
                go_wp2_with fail
                refine (HIn.out _).mono ?_
                rintro e w7 ⟨rfl, b7⟩
                have HM7 := Lib.hid (HM6.out.below b7)
                go_wp2_with fail
                refine (HSn.out w7 HM7.out.shp 2139095040 (by omega)).mono ?_
                rintro e w8 ⟨rfl, b8⟩
                go_wp2
                go_ret
                rw [HE.out]
                exact ⟨rfl, below_trans HM7.out.bel b8⟩
            · have hd2 : decide (254 ≤ last + 149) = false := decide_eq_false (by omega)
              go_cut [71] (fun s71 wx => s71 = .bool false ∧ PNum 32 23 (-149) 8 b w wx (nearE 32 (rM V more) (rE p more)) ad3 n3 c3 M p3 N3)
              case first =>
                go_quiet (fail)
                go_wp2_with fail
                go_meet
                case rel => exact ⟨by first | rfl | rw [hd2], HM.out.below (below_drewN (Below.refl _ _) _)⟩
              case rest =>
                obtain ⟨rfl, hm6⟩ := hcut
                obtain ⟨w6, hw6⟩ : ∃ x, x = wc := ⟨_, rfl⟩
                subst hw6
                have HM6 := Lib.hid hm6
                clear hm6 c0 c1 c2 HM
                generalize nearE 32 (rM V more) (rE p more) = T at *
                go_upto_if 78 with (fail)
                go_cut [12] (fun s12 wx => ∃ kept : Int, s12 = .int .u64 kept ∧ (0 ≤ kept ∧ kept ≤ 16777216) ∧ Hid ((T : Int) = (last - (-149)) * 8388608 + kept) ∧ (last = -149 ∨ 8388608 ≤ kept) ∧ PAt 23 (-149) 8 b w wx)
                case first =>
                  by_cases hlp : last ≤ p3
                  · have K := prog_exact HW.out M p3 N3 last (last - (-149)) hpos HM6.out.bits.out (by rw [HK.out.1]; exact hl1) (by rw [HK.out.2.1]) (by omega) (by rw [HK.out.2.2]; omega) (by rw [HK.out.1]; have := HL3.out; omega) hlp
                    rw [HK.out.1, show (2 : Int) ^ 23 = 8388608 from by decide, show (2 : Int) ^ (23 + 1) = 16777216 from by decide, ← HM6.out.near.out] at K
                    obtain ⟨kp, hkp⟩ : ∃ kp, M * 2 ^ (p3 - last).toNat = kp := ⟨_, rfl⟩
                    rw [hkp] at K
                    obtain ⟨K1, K2, K3, K4⟩ := K
                    have hkp0 : 0 ≤ kp := by rw [← hkp]; exact Int.mul_nonneg (by omega) (Int.le_of_lt (Int.pow_pos (by omega)))
                    have HU := num_uint ad3 n3 c3 M w6 HM6.out.num (by omega)
                    rw [show low64 M = M by unfold low64; rw [if_pos (by omega)]] at HU
                    generalize fits64 M = ff at *
                    have HU1 := Lib.hid HU
                    have K1' := Lib.hid K1
                    have W5 : IntKind.i64.wrap (p3 - last) = p3 - last := IntWalk.i64_in _ (by omega)
                    have W6 : IntKind.u64.wrap kp = kp := by rw [IntKind.wrap_u64]; omega
                    have W7 : kp % 18446744073709551616 = kp := by omega
                    clear HU K1
                    go_wp2_with fail
                    refine (HU1.out).mono ?_
                    rintro e w' ⟨rfl, rfl⟩
                    go_wp2_with fail
                    go_meet
                    case rel => exact ⟨kp, rfl, by omega, K1'.out, by omega, HM6.out.sh, HM6.out.shp, HM6.out.bel⟩
                  · obtain ⟨q, hq⟩ : ∃ q, q = M / 2 ^ (last - p3 - 1).toNat := ⟨_, rfl⟩
                    obtain ⟨rest, hr⟩ : ∃ rest, rest = decide (M % 2 ^ (last - p3 - 1).toNat ≠ 0) := ⟨_, rfl⟩
                    have K := prog_cut HW.out M p3 N3 last (last - (-149)) q hpos HM6.out.bits.out (by rw [HK.out.1]; exact hl1) (by rw [HK.out.2.1]) (by omega) (by rw [HK.out.2.2]; omega) (by rw [HK.out.1]; have := HL3.out; omega) (by omega) hq rest hr
                    rw [HK.out.1, show (2 : Int) ^ 23 = 8388608 from by decide, show (2 : Int) ^ (23 + 2) = 33554432 from by decide, ← HM6.out.near.out] at K
                    obtain ⟨K1, K2, K3, K4⟩ := K
                    have HS := num_shr ad3 n3 c3 M (last - p3 - 1) w6 HM6.out.num (by omega) (by omega)
                    rw [show shrNum M (last - p3 - 1) = q by unfold shrNum; rw [if_pos (by omega), hq], show shrMore M (last - p3 - 1) = rest by unfold shrMore; rw [decide_eq_true (by omega : 0 ≤ last - p3 - 1), Bool.true_and, hr]] at HS
                    have HS1 := Lib.hid HS
                    have K1' := Lib.hid K1
                    clear HS K1 hq hr
                    have W5 : IntKind.i64.wrap (last - p3) = last - p3 := IntWalk.i64_in _ (by omega)
                    have W6 : IntKind.i64.wrap (last - p3 - 1) = last - p3 - 1 := IntWalk.i64_in _ (by omega)
                    go_wp2_with fail
                    refine (HS1.out).mono ?_
                    rintro e w7 ⟨adq, lq, cq, rfl, fq, b7⟩
                    have hlq := fq.len_le 2 (Int.lt_of_lt_of_le K3 (by decide))
                    have HU := num_uint adq lq cq q w7 (fq.num K2) (by omega)
                    rw [show low64 q = q by unfold low64; rw [if_pos (by omega)]] at HU
                    generalize fits64 q = ff at *
                    have HU1 := Lib.hid HU
                    have HM7 := Lib.hid (HM6.out.below b7)
                    clear HU W5 W6
                    go_wp2_with fail
                    refine (HU1.out).mono ?_
                    rintro e w' ⟨rfl, rfl⟩
                    have A1 := and_one q ⟨K2, by omega⟩
                    have A2 := and_one (q / 2) ⟨by omega, by omega⟩
                    have W5 : IntKind.u64.wrap (q / 2 + 1) = q / 2 + 1 := by rw [IntKind.wrap_u64]; omega
                    have W6 : (q / 2 + 1) % 18446744073709551616 = q / 2 + 1 := by omega
                    by_cases hodd : q % 2 = 1
                    · have hc1 : rest = true ∨ (rest = false ∧ q / 2 % 2 = 1) ∨ (rest = false ∧ q / 2 % 2 = 0) := by cases rest <;> simp <;> omega
                      rcases hc1 with rfl | ⟨rfl, he⟩ | ⟨rfl, he⟩
                      · have K5 := Lib.hid (show (T : Int) = (last - (-149)) * 8388608 + (q / 2 + 1) by rw [K1'.out, if_pos ⟨hodd, .inl rfl⟩])
                        rw [hodd] at A1
                        go_wp2_with fail
                        go_meet
                        case rel => exact ⟨q / 2 + 1, rfl, by omega, K5.out, by omega, HM7.out.sh, HM7.out.shp, HM7.out.bel⟩
                      · have K5 := Lib.hid (show (T : Int) = (last - (-149)) * 8388608 + (q / 2 + 1) by rw [K1'.out, if_pos ⟨hodd, .inr he⟩])
                        rw [hodd] at A1
                        rw [he] at A2
                        go_wp2_with fail
                        go_meet
                        case rel => exact ⟨q / 2 + 1, rfl, by omega, K5.out, by omega, HM7.out.sh, HM7.out.shp, HM7.out.bel⟩
                      · have K5 := Lib.hid (show (T : Int) = (last - (-149)) * 8388608 + q / 2 by rw [K1'.out, if_neg (by rintro ⟨-, h | h⟩; exact absurd h (by decide); omega)])
                        rw [hodd] at A1
                        rw [he] at A2
                        go_wp2_with fail
                        go_meet
                        case rel => exact ⟨q / 2, rfl, by omega, K5.out, by omega, HM7.out.sh, HM7.out.shp, HM7.out.bel⟩
                    · have K5 := Lib.hid (show (T : Int) = (last - (-149)) * 8388608 + q / 2 by rw [K1'.out, if_neg (fun h => hodd h.1)])
                      rw [show q % 2 = 0 by omega] at A1
                      clear hodd
                      go_wp2_with fail
                      go_meet
                      case rel => exact ⟨q / 2, rfl, by omega, K5.out, by omega, HM7.out.sh, HM7.out.shp, HM7.out.bel⟩
                case rest =>
                  obtain ⟨kept, rfl, hk, HT, hor, hat⟩ := hcut
                  obtain ⟨w8, hw8⟩ : ∃ x, x = wc := ⟨_, rfl⟩
                  subst hw8
                  obtain ⟨sh8, hS8, b8⟩ := hat
                  obtain ⟨c0, c1, c2⟩ := sh8
                  clear HM6
                  by_cases hk0 : kept < 8388608
                  · have HE := Lib.hid (show R = sg + kept by rw [HR.out, HT.out]; omega)
                    have hk1 : (kept / 8388608 == 0) = true := by simp; omega
                    clear HT
                    go_wp2_with fail
                    refine (HSn.out w8 hS8 kept (by omega)).mono ?_
                    rintro e w9 ⟨rfl, b9⟩
                    go_wp2
                    go_ret
                    rw [HE.out]
                    exact ⟨rfl, below_trans b8 b9⟩
                  · have HE := Lib.hid (show R = sg + ((last + 149) * 8388608 + kept) by rw [HR.out, HT.out]; omega)
                    have hk1 : (kept / 8388608 == 0) = false := by simp; omega
                    have W5 : IntKind.u64.wrap (last + 149) = last + 149 := by rw [IntKind.wrap_u64]; omega
                    have W6 : IntKind.u64.wrap ((last + 149) * 8388608) = (last + 149) * 8388608 := by rw [IntKind.wrap_u64]; omega
                    have W7 : IntKind.u64.wrap ((last + 149) * 8388608 + kept) = (last + 149) * 8388608 + kept := by rw [IntKind.wrap_u64]; omega
                    have V5 : (last + 149) % 18446744073709551616 = last + 149 := by omega
                    have V6 : (last + 149) * 8388608 % 18446744073709551616 = (last + 149) * 8388608 := by omega
                    have V7 : ((last + 149) * 8388608 + kept) % 18446744073709551616 = (last + 149) * 8388608 + kept := by omega
                    clear HT
                    go_wp2_with fail
                    refine (HSn.out w8 hS8 ((last + 149) * 8388608 + kept) (by omega)).mono ?_
                    rintro e w9 ⟨rfl, b9⟩
                    go_wp2
                    go_ret
                    rw [HE.out]
                    exact ⟨rfl, below_trans b8 b9⟩
end Go.Proofs.YtoimhjcpeifegaaGreatDoor


/- Printed by ieee2.py. -/
namespace Go.Proofs.YtoimhjcpeifegaaGreatDoor
open Go.RowKit

end Go.Proofs.YtoimhjcpeifegaaGreatDoor


/- The table of places out of a row's list. -/
namespace Go.Proofs.YtoimhjcpeifegaaGreatDoor
open Go.RowKit

theorem gTz : Tryz.prog.globalNamed "math/bits.deBruijn64tab" = some 4 := by kernel_rfl
theorem gTzType : (Tryz.prog.globals[4]?).map (·.type) = some 201 := by kernel_rfl
theorem cellsTz : Tryz.prog.cellsOf 201 = 64 := by kernel_rfl
theorem cellsU8 : Tryz.prog.cellsOf 5 = 1 := by kernel_rfl
theorem tz_get : ∀ j, j < 64 → (Lib.deBruijn64tab.map (fun n : Nat => (n : Int))).getD j 0 = ((Lib.deBruijn64tab.getD j 0 : Nat) : Int) := by decide

theorem tab_of_laid {W : World} {rest : List (String × DataW Unit)} (h : laidMet Tryz.prog (("math/bits.deBruijn64tab", Rows.laid_math_bits_deBruijn64tab) :: rest) W) : Tab W := by
  have ht : Lib.TabIs Tryz.prog W "math/bits.deBruijn64tab" .u8 (Lib.deBruijn64tab.map (fun n : Nat => (n : Int))) :=
    Lib.tabIs_of_head (rest := rest) gTz gTzType Tryz.underlying201 Tryz.underlying5 cellsU8 cellsTz h
  intro j hj
  rw [← tz_get j hj]
  exact ht.cell gTz j (by decide +revert)
end Go.Proofs.YtoimhjcpeifegaaGreatDoor


/- Whole numbers as words on values; the contracts of package whole and of the statements' helpers by them. -/
namespace Go.Proofs.YtoimhjcpeifegaaGreatDoor
open Go Go.RowKit

theorem Rds.mv {w w' : World} {B B' : Bx} (h : Mv w B w' B') {k : IntKind} (hk : k = .u32 ∨ k = .u8) {ad : Option Addr} {n : Nat} {xs : List Int} (r : Rds w k ad n xs) : Rds w' k ad n xs := by
  refine ⟨r.len, fun j hj => ?_⟩
  obtain ⟨a, e, hc⟩ := r.cell j hj
  refine ⟨a, e, ?_⟩
  have hl := World.block_lt_of_cell? w _ hc
  rcases h.same _ hl with h1 | ⟨_, h2⟩
  · rw [← hc]; exact World.cell?_of_block h1
  · exact absurd hc (h2 _ k _ rfl hk)
def LIM : Nat := 274877906944
theorem lim_eq : LIM = 274877906944 := rfl
/-- N has at most k limbs. -/
def FitK (k : Nat) (N : Int) : Prop := (N.natAbs : Int) < 4294967296 ^ k
def Fits (N : Int) : Prop := ∃ k, k ≤ LIM ∧ FitK k N
theorem FitK.mono {k m : Nat} {N : Int} (h : FitK k N) (hk : k ≤ m) : FitK m N := Int.lt_of_lt_of_le h (pow_le (by omega) hk)
theorem FitK.neg {k : Nat} {N : Int} (h : FitK k N) : FitK k (-N) := by unfold FitK at *; rwa [Int.natAbs_neg]
theorem FitK.add {k m : Nat} {N M : Int} (h : FitK k N) (h' : FitK m M) : FitK (k + m + 1) (N + M) := by
  unfold FitK at *
  have := pow_add_lt _ _ _ _ h h'
  omega
theorem FitK.sub {k m : Nat} {N M : Int} (h : FitK k N) (h' : FitK m M) : FitK (k + m + 1) (N - M) := by
  have := h.add h'.neg
  rwa [← Int.sub_eq_add_neg] at this
theorem FitK.small {N : Int} (h : N.natAbs < 4294967296) : FitK 1 N := by unfold FitK; rw [Int.pow_one]; omega
theorem FitK.i64 {N : Int} (h : -9223372036854775808 ≤ N ∧ N < 9223372036854775808) : FitK 2 N := by
  unfold FitK
  have : (4294967296 : Int) ^ 2 = 18446744073709551616 := rfl
  omega
theorem FitK.le {k : Nat} {N M : Int} (h : FitK k N) (hM : M.natAbs ≤ N.natAbs) : FitK k M := by unfold FitK at *; omega

def PI (L : Nat) (N : Int) (v : Value) (w : World) (B : Bx) : Prop := ∃ ad n c, v = .agg #[.bool (decide (N < 0)), .slice ad n c] ∧ Can w ad n c (N.natAbs : Int) ∧ n ≤ L
/-- The number N in normal form. -/
def IsI (N : Int) : VP := ⟨PI LIM N, fun v w B w' B' h hp => by
  obtain ⟨ad, n, c, e, k, l⟩ := hp
  exact ⟨ad, n, c, e, ⟨k.le, k.rds.mv h (.inl rfl)⟩, l⟩⟩
def PN (N : Int) (v : Value) (w : World) (B : Bx) : Prop := ∃ ng ad n c V, v = .agg #[.bool ng, .slice ad n c] ∧ Num w ad n c V ∧ n ≤ LIM ∧ N = sI ng V
/-- The number N. -/
def IsN (N : Int) : VP := ⟨PN N, fun v w B w' B' h hp => by
  obtain ⟨ng, ad, n, c, V, e, k, l, hN⟩ := hp
  obtain ⟨xs, h1, h2, h3⟩ := k.row
  exact ⟨ng, ad, n, c, V, e, ⟨k.le, xs, h1.mv h (.inl rfl), h2, h3⟩, l, hN⟩⟩
theorem sI_named2 (N : Int) : sI (decide (N < 0)) (N.natAbs : Int) = N := by
  unfold sI
  by_cases h : N < 0
  · rw [decide_eq_true h, if_pos rfl]; omega
  · rw [decide_eq_false h]; simp; omega
theorem weakIN {N : Int} (v : Value) (w : World) (B : Bx) (h : (IsI N).p v w B) : (IsN N).p v w B := by
  obtain ⟨ad, n, c, e, k, l⟩ := h
  exact ⟨_, ad, n, c, _, e, k.num (by omega), l, (sI_named2 N).symm⟩
theorem shapeI {b : Bool} {ad : Option Addr} {n c : Nat} {v : Value} (e : v = .agg #[.bool b, .slice ad n c]) : ∃ cs, v = .agg cs ∧ cs.size = 2 ∧ (cs.all (·.oneCell') = true) ∧ ∀ (j : Nat) (ik : IntKind) (x : Int), (ik = .u32 ∨ ik = .u8) → cs[j]? ≠ some (.int ik x) := by
  refine ⟨_, e, rfl, by simp [Value.oneCell'], fun j ik x _ => ?_⟩
  rcases j with _ | _ | j <;> simp
theorem shape_I {N : Int} : Shape 2 (IsI N) := fun v w B ⟨ad, n, c, e, _⟩ => shapeI e
theorem shape_N {N : Int} : Shape 2 (IsN N) := fun v w B ⟨ng, ad, n, c, V, e, _⟩ => shapeI e
/-- A variable not yet written. -/
abbrev Zero2 : VP := Lit (.agg #[.bool false, .slice none 0 0])
theorem shape_Z : Shape 2 Zero2 := fun v w B e => shapeI e
theorem Shape.two {n : Nat} {D : VP} (h : Shape n D) (v : Value) (w : World) (B : Bx) (hp : D.p v w B) : ∃ cs, v = .agg cs ∧ cs.size = n := by
  obtain ⟨cs, e, hn, _⟩ := h v w B hp
  exact ⟨cs, e, hn⟩
theorem tyI : TyOk Tryz.prog 34 2 := ⟨⟨_, Tryz.underlying34, rfl⟩, by kernel_rfl⟩
theorem zeroI : (Tryz.prog.info? 34).map (·.zero) = some (some (.agg #[.bool false, .slice none 0 0])) := by kernel_rfl
theorem zero_isI (w : World) (B : Bx) : (IsI 0).p (.agg #[.bool false, .slice none 0 0]) w B := by
  refine ⟨none, 0, 0, rfl, ⟨Nat.le_refl _, ?_⟩, Nat.zero_le _⟩
  show Rds w .u32 none 0 (dg 4294967296 0)
  rw [dg_zero]
  exact Rds.nil _ _ _

theorem RetInt.con {N : Int} {w : World} {B : Bx} {e : Ending} {w' : World} (hN : Fits N) (h : RetInt N w e w') : ∃ v, e = .returned v ∧ (IsI N).p v w' B ∧ Below w.heap.size w w' := by
  obtain ⟨ad, n, c, rfl, k, hb⟩ := h
  obtain ⟨q, hq, hf⟩ := hN
  exact ⟨_, rfl, ⟨ad, n, c, rfl, k, Nat.le_trans (k.len_le q hf) hq⟩, hb⟩
theorem RetBB.con {r : Bool} {w : World} {B : Bx} {e : Ending} {w' : World} (h : RetBB r w e w') : ∃ v, e = .returned v ∧ (IsB r).p v w' B ∧ Below w.heap.size w w' := ⟨_, h.1, rfl, h.2⟩
theorem con_cmp (X Y : Int) : Con Tryz.prog 50 [IsN X, IsN Y] (Lit (.int .i64 (cmpI X Y))) := by
  refine ⟨fun _ _ => by go_simp, fun vs w B hB hV => ?_⟩
  match vs, hV with
  | [v, u], ⟨h1, h2, _⟩ =>
    obtain ⟨ng, ad, n, c, V, rfl, k, l, rfl⟩ := h1
    obtain ⟨ng2, ad2, n2, c2, V2, rfl, k2, l2, rfl⟩ := h2
    exact (wcmp_calls ng ad n c V ng2 ad2 n2 c2 V2 w k (by have := lim_eq; omega) k2 (by have := lim_eq; omega)).mono fun e w' h => ⟨_, h.1, rfl, h.2⟩
section
variable {need : List (Tmp × FD)} {d : Option Tmp} {ty : TypeId} {pos : String} {af : Array Edge} {g : Option (Nat × Bool)}
end
end Go.Proofs.YtoimhjcpeifegaaGreatDoor

