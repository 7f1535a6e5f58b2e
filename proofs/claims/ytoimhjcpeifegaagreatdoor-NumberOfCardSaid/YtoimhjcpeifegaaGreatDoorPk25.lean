/- Contracts of functions, and plain facts, part 25. -/
import Derived.Deep.DeepCutAuto
import Derived.IntWalk
import Derived.Test.YtoimhjcpeifegaaGreatDoorCards
import Derived.Lib.LaidTab
import Derived.Test.YtoimhjcpeifegaaGreatDoorPk4
import Derived.Test.YtoimhjcpeifegaaGreatDoorPk11
import Derived.Test.YtoimhjcpeifegaaGreatDoorPk14
import Derived.Test.YtoimhjcpeifegaaGreatDoorPk15
import Derived.Test.YtoimhjcpeifegaaGreatDoorPk16
import Derived.Test.YtoimhjcpeifegaaGreatDoorPk18
import Derived.Test.YtoimhjcpeifegaaGreatDoorPk19
set_option linter.unusedVariables false
set_option linter.unusedSimpArgs false
/- Printed by ieee2.py. -/
namespace Go.Proofs.YtoimhjcpeifegaaGreatDoor
open Go.RowKit

theorem total_64 (w : World) (hS : Shapes w) (x y : Int) (hx : 0 ≤ x ∧ x < 18446744073709551616) (hy : 0 ≤ y ∧ y < 18446744073709551616) : Calls Tryz.prog 111 #[.int .u64 x, .int .u64 y] w (fun e w' => e = .returned (.int .i64 (totalW 64 x y)) ∧ Below w.heap.size w w') := by
  have HC := Lib.hid (show totalW 64 x y = if negW 64 x then (if negW 64 y then cmpI y x else -1) else (if negW 64 y then 1 else cmpI x y) from rfl)
  have H1 := Lib.hid (split_64 w hS x hx)
  have H2 := Lib.hid (fun (w : World) (hS : Shapes w) => split_64 w hS y hy)
  generalize totalW 64 x y = C at *
  generalize negW 64 x = n1 at *
  generalize negW 64 y = n2 at *
  generalize sizeW 64 x = s1 at *
  generalize sizeW 64 y = s2 at *
  cases n1 <;> cases n2
  · have HR := Lib.hid (show C = cmpI x y from HC.out)
    clear HC
    go_enter Tryz.func111, Tryz.ntmps111
    go_wp2_with fail
    refine (H1.out).mono ?_
    rintro e w1 ⟨rfl, b1⟩
    have HS2 := Lib.hid (H2.out w1 (hS.below b1 (Nat.le_refl _)))
    go_wp2_with fail
    refine (HS2.out).mono ?_
    rintro e w2 ⟨rfl, b2⟩
    go_wp2_with fail
    refine (compare_T64 x y w2).mono ?_
    rintro e w' ⟨rfl, rfl⟩
    go_wp2
    go_ret
    rw [HR.out]
    exact ⟨rfl, below_trans b1 (b2)⟩
  · have HR := Lib.hid (show C = 1 from HC.out)
    clear HC
    go_enter Tryz.func111, Tryz.ntmps111
    go_wp2_with fail
    refine (H1.out).mono ?_
    rintro e w1 ⟨rfl, b1⟩
    have HS2 := Lib.hid (H2.out w1 (hS.below b1 (Nat.le_refl _)))
    go_wp2_with fail
    refine (HS2.out).mono ?_
    rintro e w2 ⟨rfl, b2⟩
    go_wp2
    go_ret
    rw [HR.out]
    exact ⟨rfl, below_trans b1 (b2)⟩
  · have HR := Lib.hid (show C = -1 from HC.out)
    clear HC
    go_enter Tryz.func111, Tryz.ntmps111
    go_wp2_with fail
    refine (H1.out).mono ?_
    rintro e w1 ⟨rfl, b1⟩
    have HS2 := Lib.hid (H2.out w1 (hS.below b1 (Nat.le_refl _)))
    go_wp2_with fail
    refine (HS2.out).mono ?_
    rintro e w2 ⟨rfl, b2⟩
    go_wp2
    go_ret
    rw [HR.out]
    exact ⟨rfl, below_trans b1 (b2)⟩
  · have HR := Lib.hid (show C = cmpI y x from HC.out)
    clear HC
    go_enter Tryz.func111, Tryz.ntmps111
    go_wp2_with fail
    refine (H1.out).mono ?_
    rintro e w1 ⟨rfl, b1⟩
    have HS2 := Lib.hid (H2.out w1 (hS.below b1 (Nat.le_refl _)))
    go_wp2_with fail
    refine (HS2.out).mono ?_
    rintro e w2 ⟨rfl, b2⟩
    go_wp2_with fail
    refine (compare_T64 y x w2).mono ?_
    rintro e w' ⟨rfl, rfl⟩
    go_wp2
    go_ret
    rw [HR.out]
    exact ⟨rfl, below_trans b1 (b2)⟩
end Go.Proofs.YtoimhjcpeifegaaGreatDoor

/- Printed by ieee3.py. -/
namespace Go.Proofs.YtoimhjcpeifegaaGreatDoor
open Go.RowKit

theorem low_Own (z : Int) (hz : 0 ≤ z ∧ z < 18446744073709551616) : bits .or .u64 (z % 8388608) 8388608 = 8388608 + z % 8388608 ∧ bits .and .u64 z 8388607 = z % 8388608 := by
  obtain ⟨z, rfl⟩ := Int.eq_ofNat_of_zero_le hz.1
  have e : bits .and .u64 (z : Int) ((8388607 : Nat) : Int) = ((z &&& 8388607 : Nat) : Int) := Go.bits_and_u64_nat z _ (by omega) (by omega)
  have h := Nat.and_two_pow_sub_one_eq_mod z 23
  rw [show (2 : Nat) ^ 23 = 8388608 from by decide, show 8388608 - 1 = 8388607 from by decide] at h
  rw [h] at e
  have h3 : z % 8388608 < 8388608 := Nat.mod_lt _ (by omega)
  have e2 : bits .or .u64 ((z % 8388608 : Nat) : Int) ((8388608 : Nat) : Int) = ((z % 8388608 ||| 8388608 : Nat) : Int) := Go.bits_or_u64_nat _ _ (by omega) (by omega)
  have h2 := Nat.two_pow_add_eq_or_of_lt (show z % 8388608 < 2 ^ 23 by rw [show (2 : Nat) ^ 23 = 8388608 from by decide]; exact h3) 1
  rw [Nat.mul_one, show (2 : Nat) ^ 23 = 8388608 from by decide, Nat.or_comm] at h2
  rw [← h2] at e2
  have e' : bits .and .u64 (z : Int) 8388607 = ((z % 8388608 : Nat) : Int) := e
  rw [e', show (z : Int) % 8388608 = ((z % 8388608 : Nat) : Int) by simp]
  exact ⟨e2.trans (by simp), rfl⟩

set_option maxRecDepth 20000 in
set_option maxHeartbeats 2000000 in
theorem parts_Own (w : World) (hS : Shapes w) (hT : Tab w) (x : Int) (hx : 0 ≤ x ∧ x < 4294967296) : Calls Tryz.prog 156 #[.int .u32 x] w (fun e w' => e = .returned (.tuple #[.bool (pNeg 32 x), .int .u64 (pM 32 x), .int .i64 (pE 32 x), .bool (pOk 32 x)]) ∧ Below w.heap.size w w') := by
  have H1 := Lib.hid (of_Own w hS)
  have H2 := Lib.hid (fun (w : World) (hS : Shapes w) => split_Own w hS x hx)
  have hz := size_bounds (W := 32) (by unfold Wide; omega) x ⟨hx.1, by exact hx.2⟩
  rw [sgn32] at hz
  have HM := Lib.hid (show pM 32 x = if pOk 32 x && !decide (sizeW 32 x = 0) then oddI (rawM 32 x) else 0 from rfl)
  have HE := Lib.hid (show pE 32 x = if pOk 32 x && !decide (sizeW 32 x = 0) then rawE 32 x + tzI (rawM 32 x) else 0 from rfl)
  have HN := Lib.hid (show pNeg 32 x = (pOk 32 x && negW 32 x) from rfl)
  have HO := Lib.hid (show pOk 32 x = decide (sizeW 32 x < 2139095040) by unfold pOk; rw [inf32])
  have HRM := Lib.hid (show rawM 32 x = (numM 23 (sizeW 32 x).toNat : Nat) from rfl)
  have HRE := Lib.hid (show rawE 32 x = -149 + (numP 23 (sizeW 32 x).toNat : Nat) from rfl)
  generalize pM 32 x = m at *
  generalize pE 32 x = p at *
  generalize pNeg 32 x = ng at *
  generalize pOk 32 x = ok at *
  generalize rawM 32 x = rm at *
  generalize rawE 32 x = re at *
  generalize sizeW 32 x = z at *
  generalize negW 32 x = n at *
  by_cases t1 : 2139095040 ≤ z
  · have E1 := Lib.hid (show ok = false by rw [HO.out]; simp; omega)
    have E2 := Lib.hid (show ng = false by rw [HN.out, E1.out]; rfl)
    have E3 := Lib.hid (show m = 0 by rw [HM.out, E1.out]; rfl)
    have E4 := Lib.hid (show p = 0 by rw [HE.out, E1.out]; rfl)
    clear HM HE HN HO HRM HRE
    go_enter Tryz.func156, Tryz.ntmps156
    go_wp2_with fail
    refine (H1.out).mono ?_
    rintro e w1 ⟨rfl, b1⟩
    have bA : Below w1.heap.size w1 (w1.alloc (.cells #[.int .i64 23, .int .i64 (-149), .int .i64 8] 95)) := (Below.refl _ _).alloc (Nat.le_refl _) _
    have sh2 : ShAt 23 (-149) 8 w1.heap.size (w1.alloc (.cells #[.int .i64 23, .int .i64 (-149), .int .i64 8] 95)) := ShAt.made _ _ _ _
    have HS2 := Lib.hid (H2.out (w1.alloc (.cells #[.int .i64 23, .int .i64 (-149), .int .i64 8] 95)) ((hS.below b1 (Nat.le_refl _)).below bA (Nat.le_refl _)))
    have hT2 := (hT.below b1 (Nat.le_refl _)).below bA (Nat.le_refl _)
    have b2 := below_trans b1 bA
    go_wp2_with fail
    refine (HS2.out).mono ?_
    rintro e w3 ⟨rfl, b3⟩
    have sh3 := sh2.below b3
    have hT3 := Lib.hid (hT2.below b3 (Nat.le_refl _))
    have b4 := below_trans b2 b3
    clear b3 sh2 hT2 b2 bA HS2
    generalize w1.heap.size = b at *
    obtain ⟨c0, c1, c2⟩ := sh3
    go_wp2_with fail
    refine (shinf_32 w3).mono ?_
    rintro e w5 ⟨rfl, b5⟩
    have sh5 := ShAt.below ⟨c0, c1, c2⟩ b5
    have hT5 := Lib.hid (hT3.out.below b5 (Nat.le_refl _))
    have b6 := below_trans b4 b5
    clear c0 c1 c2
    obtain ⟨c0, c1, c2⟩ := sh5
    go_wp2
    ((try simp only [Exit.inBlock, Exit.then]); refine bodyPost_ret (results_tmp4 rfl _ _ _) rfl ?_)
    rw [E1.out, E2.out, E3.out, E4.out]
    exact ⟨rfl, b6⟩
  · have E1 := Lib.hid (show ok = true by rw [HO.out]; simp; omega)
    have E2 := Lib.hid (show ng = n by rw [HN.out, E1.out]; rfl)
    by_cases t2 : z = 0
    · have E3 := Lib.hid (show m = 0 by rw [HM.out, t2]; simp)
      have E4 := Lib.hid (show p = 0 by rw [HE.out, t2]; simp)
      have t2' : (z == 0) = true := by simpa using t2
      clear HM HE HN HO HRM HRE t2
      go_enter Tryz.func156, Tryz.ntmps156
      go_wp2_with fail
      refine (H1.out).mono ?_
      rintro e w1 ⟨rfl, b1⟩
      have bA : Below w1.heap.size w1 (w1.alloc (.cells #[.int .i64 23, .int .i64 (-149), .int .i64 8] 95)) := (Below.refl _ _).alloc (Nat.le_refl _) _
      have sh2 : ShAt 23 (-149) 8 w1.heap.size (w1.alloc (.cells #[.int .i64 23, .int .i64 (-149), .int .i64 8] 95)) := ShAt.made _ _ _ _
      have HS2 := Lib.hid (H2.out (w1.alloc (.cells #[.int .i64 23, .int .i64 (-149), .int .i64 8] 95)) ((hS.below b1 (Nat.le_refl _)).below bA (Nat.le_refl _)))
      have hT2 := (hT.below b1 (Nat.le_refl _)).below bA (Nat.le_refl _)
      have b2 := below_trans b1 bA
      go_wp2_with fail
      refine (HS2.out).mono ?_
      rintro e w3 ⟨rfl, b3⟩
      have sh3 := sh2.below b3
      have hT3 := Lib.hid (hT2.below b3 (Nat.le_refl _))
      have b4 := below_trans b2 b3
      clear b3 sh2 hT2 b2 bA HS2
      generalize w1.heap.size = b at *
      obtain ⟨c0, c1, c2⟩ := sh3
      go_wp2_with fail
      refine (shinf_32 w3).mono ?_
      rintro e w5 ⟨rfl, b5⟩
      have sh5 := ShAt.below ⟨c0, c1, c2⟩ b5
      have hT5 := Lib.hid (hT3.out.below b5 (Nat.le_refl _))
      have b6 := below_trans b4 b5
      clear c0 c1 c2
      obtain ⟨c0, c1, c2⟩ := sh5
      go_wp2
      ((try simp only [Exit.inBlock, Exit.then]); refine bodyPost_ret (results_tmp4 rfl _ _ _) rfl ?_)
      rw [E1.out, E2.out, E3.out, E4.out]
      exact ⟨by first | rfl | simp, b6⟩
    · have t2' : (z == 0) = false := by simpa using t2
      have E3 := Lib.hid (show m = oddI rm by rw [HM.out, E1.out, decide_eq_false t2]; rfl)
      have E4 := Lib.hid (show p = re + tzI rm by rw [HE.out, E1.out, decide_eq_false t2]; rfl)
      have K1 : 0 < rm ∧ rm < 9007199254740992 := by
        rw [HRM.out]
        have h1 := numM_lt 23 z.toNat
        rw [show (2 : Nat) ^ (23 + 1) = 16777216 from by decide] at h1
        unfold numM at h1 ⊢
        rw [show (2 : Nat) ^ 23 = 8388608 from by decide] at h1 ⊢
        split at h1 <;> rename_i h2
        · rw [if_pos h2]; omega
        · rw [if_neg h2]; omega
      have K2 := odd_spec rm K1.1 (by omega)
      have K3 := Lib.hid (show oddI rm = rm / 2 ^ (tzI rm).toNat by unfold oddI tzI; rw [Int.toNat_natCast])
      have HL := low_Own z (by omega)
      have hre : -1074 ≤ re ∧ re ≤ 2048 := by
        rw [HRE.out]
        have h1 := numP_le (W := 32) (by unfold Wide; omega) z.toNat (by have := infW_eq (W := 32) (by unfold Wide; omega); rw [inf32] at this; omega)
        rw [show shF 32 = 23 from rfl, show (2 : Nat) ^ shE 32 = 256 from by decide] at h1
        omega
      have HTZ := Lib.hid (fun w hT => tz_calls rm ⟨K1.1, by omega⟩ w hT)
      obtain ⟨hL1, hL2⟩ := HL
      have V1 : IntKind.u64.wrap (8388608 + z % 8388608) = 8388608 + z % 8388608 := by rw [IntKind.wrap_u64]; omega
      have V2 : IntKind.i64.wrap (z / 8388608) = z / 8388608 := IntWalk.i64_in _ (by omega)
      have V3 : IntKind.i64.wrap (z / 8388608 - 1) = z / 8388608 - 1 := IntWalk.i64_in _ (by omega)
      have V4 : IntKind.i64.wrap (-149 + (z / 8388608 - 1)) = -149 + (z / 8388608 - 1) := IntWalk.i64_in _ (by omega)
      have V5 : IntKind.i64.wrap (re + tzI rm) = re + tzI rm := IntWalk.i64_in _ (by omega)
      obtain ⟨tz, htz⟩ : ∃ tz, tz = tzI rm := ⟨_, rfl⟩
      rw [← htz] at HTZ E4 K2 K3 V5
      have K4 := Lib.hid K2.1
      have hk5 := K2.2.2.2
      clear K2 htz HM HE HN HO t2
      rw [K3.out] at E3
      clear K3
      go_enter Tryz.func156, Tryz.ntmps156
      go_wp2_with fail
      refine (H1.out).mono ?_
      rintro e w1 ⟨rfl, b1⟩
      have bA : Below w1.heap.size w1 (w1.alloc (.cells #[.int .i64 23, .int .i64 (-149), .int .i64 8] 95)) := (Below.refl _ _).alloc (Nat.le_refl _) _
      have sh2 : ShAt 23 (-149) 8 w1.heap.size (w1.alloc (.cells #[.int .i64 23, .int .i64 (-149), .int .i64 8] 95)) := ShAt.made _ _ _ _
      have HS2 := Lib.hid (H2.out (w1.alloc (.cells #[.int .i64 23, .int .i64 (-149), .int .i64 8] 95)) ((hS.below b1 (Nat.le_refl _)).below bA (Nat.le_refl _)))
      have hT2 := (hT.below b1 (Nat.le_refl _)).below bA (Nat.le_refl _)
      have b2 := below_trans b1 bA
      go_wp2_with fail
      refine (HS2.out).mono ?_
      rintro e w3 ⟨rfl, b3⟩
      have sh3 := sh2.below b3
      have hT3 := Lib.hid (hT2.below b3 (Nat.le_refl _))
      have b4 := below_trans b2 b3
      clear b3 sh2 hT2 b2 bA HS2
      generalize w1.heap.size = b at *
      obtain ⟨c0, c1, c2⟩ := sh3
      go_wp2_with fail
      refine (shinf_32 w3).mono ?_
      rintro e w5 ⟨rfl, b5⟩
      have sh5 := ShAt.below ⟨c0, c1, c2⟩ b5
      have hT5 := Lib.hid (hT3.out.below b5 (Nat.le_refl _))
      have b6 := below_trans b4 b5
      clear c0 c1 c2
      obtain ⟨c0, c1, c2⟩ := sh5
      go_upto_region 7 with (fail)
      go_cut [3, 4] (fun s3 s4 wx => s3 = .int .u64 z ∧ s4 = .int .i64 (-149) ∧ ∃ q, wx = w5.drewN q)
      case first =>
        go_quiet (fail)
        go_wp2_with fail
        go_meet
        case rel => exact ⟨rfl, rfl, _, rfl⟩
      case rest =>
        obtain ⟨rfl, rfl, q, rfl⟩ := hcut
        go_upto_if 33 with (fail)
        go_cut [3, 4] (fun s3 s4 wx => s3 = .int .u64 rm ∧ s4 = .int .i64 re ∧ ∃ q, wx = w5.drewN q)
        case first =>
          by_cases hk : z < 8388608
          · have hk1 : z / 8388608 = 0 := by omega
            have E5 := Lib.hid (show rm = z by rw [HRM.out]; unfold numM; rw [if_pos (by rw [show (2 : Nat) ^ 23 = 8388608 from by decide]; omega)]; omega)
            have E6 := Lib.hid (show re = -149 by rw [HRE.out]; unfold numP; rw [if_pos (by rw [show (2 : Nat) ^ 23 = 8388608 from by decide]; omega)]; rfl)
            go_wp2_with fail
            go_meet
            case rel => exact ⟨by rw [E5.out], by rw [E6.out], _, rfl⟩
          · have hk1 : 0 < z / 8388608 := by omega
            have E5 := Lib.hid (show rm = 8388608 + z % 8388608 by rw [HRM.out]; unfold numM; rw [if_neg (by rw [show (2 : Nat) ^ 23 = 8388608 from by decide]; omega), show (2 : Nat) ^ 23 = 8388608 from by decide]; omega)
            have E6 := Lib.hid (show re = -149 + (z / 8388608 - 1) by rw [HRE.out]; unfold numP; rw [if_neg (by rw [show (2 : Nat) ^ 23 = 8388608 from by decide]; omega), show (2 : Nat) ^ 23 = 8388608 from by decide]; omega)
            go_wp2_with fail
            go_quiet (fail)
            go_wp2_with fail
            go_meet
            case rel => exact ⟨by first | (rw [E5.out]; done) | (rw [E5.out]; simp), by rw [E6.out], _, by first | rfl | exact World.drewN_drewN ..⟩
        case rest =>
          obtain ⟨rfl, rfl, q', rfl⟩ := hcut
          have HTZ2 := Lib.hid (HTZ.out (w5.drewN q') (hT5.out.below (below_drewN (Below.refl w5.heap.size w5) q') (Nat.le_refl _)))
          go_wp2_with fail
          refine (HTZ2.out).mono ?_
          rintro e w' ⟨rfl, rfl⟩
          go_wp2_with fail
          go_quiet (fail)
          go_wp2_with fail
          ((try simp only [Exit.inBlock, Exit.then]); refine bodyPost_ret (results_tmp4 rfl _ _ _) rfl ?_)
          rw [E1.out, E2.out, E3.out, E4.out]
          exact ⟨by first | rfl | simp, below_drewN (below_drewN b6 _) _⟩
end Go.Proofs.YtoimhjcpeifegaaGreatDoor

/- Printed by ieee2.py. -/
namespace Go.Proofs.YtoimhjcpeifegaaGreatDoor
open Go.RowKit

theorem class_Own (w : World) (hS : Shapes w) (x : Int) (hx : 0 ≤ x ∧ x < 4294967296) : Calls Tryz.prog 157 #[.int .u32 x] w (fun e w' => e = .returned (.int .i8 (clsW 32 x)) ∧ Below w.heap.size w w') := by
  have HC := Lib.hid (show clsW 32 x = if 2139095040 < sizeW 32 x then 5 else if sizeW 32 x = 2139095040 then 4 else if sizeW 32 x = 0 then 1 else if sizeW 32 x < 8388608 then 2 else 3 by unfold clsW; rw [inf32, show (2 : Int) ^ shF 32 = 8388608 from by decide])
  have H1 := Lib.hid (of_Own w hS)
  have H2 := Lib.hid (fun (w : World) (hS : Shapes w) => split_Own w hS x hx)
  have hz0 := (size_bounds (W := 32) (by unfold Wide; omega) x ⟨hx.1, by exact hx.2⟩).1
  generalize clsW 32 x = C at *
  generalize sizeW 32 x = z at *
  by_cases t1 : 2139095040 < z
  · have HR := Lib.hid (show C = 5 by rw [HC.out, if_pos t1])
    clear HC
    go_enter Tryz.func157, Tryz.ntmps157
    go_wp2_with fail
    refine (H1.out).mono ?_
    rintro e w1 ⟨rfl, b1⟩
    have bA : Below w1.heap.size w1 (w1.alloc (.cells #[.int .i64 23, .int .i64 (-149), .int .i64 8] 95)) := (Below.refl _ _).alloc (Nat.le_refl _) _
    have c0 : (w1.alloc (.cells #[.int .i64 23, .int .i64 (-149), .int .i64 8] 95)).cell? ⟨w1.heap.size, 0, none⟩ = some (.int .i64 (23)) := World.cell?_alloc_at _ _ _ _ rfl
    have c1 : (w1.alloc (.cells #[.int .i64 23, .int .i64 (-149), .int .i64 8] 95)).cell? ⟨w1.heap.size, 1, none⟩ = some (.int .i64 (-149)) := World.cell?_alloc_at _ _ _ _ rfl
    have c2 : (w1.alloc (.cells #[.int .i64 23, .int .i64 (-149), .int .i64 8] 95)).cell? ⟨w1.heap.size, 2, none⟩ = some (.int .i64 (8)) := World.cell?_alloc_at _ _ _ _ rfl
    have HS2 := Lib.hid (H2.out (w1.alloc (.cells #[.int .i64 23, .int .i64 (-149), .int .i64 8] 95)) ((hS.below b1 (Nat.le_refl _)).below bA (Nat.le_refl _)))
    go_wp2_with fail
    refine (HS2.out).mono ?_
    rintro e w2 ⟨rfl, b2⟩
    have d0 := below_cell b2 (Nat.le_refl _) c0
    have d1 := below_cell b2 (Nat.le_refl _) c1
    have d2 := below_cell b2 (Nat.le_refl _) c2
    have b2' := below_trans bA b2
    go_wp2_with fail
    refine (shinf_32 w2).mono ?_
    rintro e w3 ⟨rfl, b3⟩
    have e0 := below_cell b3 (Nat.le_refl _) d0
    have e1 := below_cell b3 (Nat.le_refl _) d1
    have e2 := below_cell b3 (Nat.le_refl _) d2
    go_wp2
    go_ret
    rw [HR.out]
    exact ⟨rfl, below_trans b1 (below_trans b2' b3)⟩
  · by_cases t2 : z = 2139095040
    · have HR := Lib.hid (show C = 4 by rw [HC.out, if_neg t1, if_pos t2])
      have t2' : (z == 2139095040) = true := by simpa using t2
      clear HC t2
      go_enter Tryz.func157, Tryz.ntmps157
      go_wp2_with fail
      refine (H1.out).mono ?_
      rintro e w1 ⟨rfl, b1⟩
      have bA : Below w1.heap.size w1 (w1.alloc (.cells #[.int .i64 23, .int .i64 (-149), .int .i64 8] 95)) := (Below.refl _ _).alloc (Nat.le_refl _) _
      have c0 : (w1.alloc (.cells #[.int .i64 23, .int .i64 (-149), .int .i64 8] 95)).cell? ⟨w1.heap.size, 0, none⟩ = some (.int .i64 (23)) := World.cell?_alloc_at _ _ _ _ rfl
      have c1 : (w1.alloc (.cells #[.int .i64 23, .int .i64 (-149), .int .i64 8] 95)).cell? ⟨w1.heap.size, 1, none⟩ = some (.int .i64 (-149)) := World.cell?_alloc_at _ _ _ _ rfl
      have c2 : (w1.alloc (.cells #[.int .i64 23, .int .i64 (-149), .int .i64 8] 95)).cell? ⟨w1.heap.size, 2, none⟩ = some (.int .i64 (8)) := World.cell?_alloc_at _ _ _ _ rfl
      have HS2 := Lib.hid (H2.out (w1.alloc (.cells #[.int .i64 23, .int .i64 (-149), .int .i64 8] 95)) ((hS.below b1 (Nat.le_refl _)).below bA (Nat.le_refl _)))
      go_wp2_with fail
      refine (HS2.out).mono ?_
      rintro e w2 ⟨rfl, b2⟩
      have d0 := below_cell b2 (Nat.le_refl _) c0
      have d1 := below_cell b2 (Nat.le_refl _) c1
      have d2 := below_cell b2 (Nat.le_refl _) c2
      have b2' := below_trans bA b2
      go_wp2_with fail
      refine (shinf_32 w2).mono ?_
      rintro e w3 ⟨rfl, b3⟩
      have e0 := below_cell b3 (Nat.le_refl _) d0
      have e1 := below_cell b3 (Nat.le_refl _) d1
      have e2 := below_cell b3 (Nat.le_refl _) d2
      go_wp2_with fail
      refine (shinf_32 w3).mono ?_
      rintro e w4 ⟨rfl, b4⟩
      have g0 := below_cell b4 (Nat.le_refl _) e0
      have g1 := below_cell b4 (Nat.le_refl _) e1
      have g2 := below_cell b4 (Nat.le_refl _) e2
      go_wp2
      go_ret
      rw [HR.out]
      exact ⟨rfl, below_trans b1 (below_trans b2' (below_trans b3 b4))⟩
    · have t2' : (z == 2139095040) = false := by simpa using t2
      by_cases t3 : z = 0
      · have HR := Lib.hid (show C = 1 by rw [HC.out, if_neg t1, if_neg t2, if_pos t3])
        have t3' : (z == 0) = true := by simpa using t3
        clear HC t3 t2
        go_enter Tryz.func157, Tryz.ntmps157
        go_wp2_with fail
        refine (H1.out).mono ?_
        rintro e w1 ⟨rfl, b1⟩
        have bA : Below w1.heap.size w1 (w1.alloc (.cells #[.int .i64 23, .int .i64 (-149), .int .i64 8] 95)) := (Below.refl _ _).alloc (Nat.le_refl _) _
        have c0 : (w1.alloc (.cells #[.int .i64 23, .int .i64 (-149), .int .i64 8] 95)).cell? ⟨w1.heap.size, 0, none⟩ = some (.int .i64 (23)) := World.cell?_alloc_at _ _ _ _ rfl
        have c1 : (w1.alloc (.cells #[.int .i64 23, .int .i64 (-149), .int .i64 8] 95)).cell? ⟨w1.heap.size, 1, none⟩ = some (.int .i64 (-149)) := World.cell?_alloc_at _ _ _ _ rfl
        have c2 : (w1.alloc (.cells #[.int .i64 23, .int .i64 (-149), .int .i64 8] 95)).cell? ⟨w1.heap.size, 2, none⟩ = some (.int .i64 (8)) := World.cell?_alloc_at _ _ _ _ rfl
        have HS2 := Lib.hid (H2.out (w1.alloc (.cells #[.int .i64 23, .int .i64 (-149), .int .i64 8] 95)) ((hS.below b1 (Nat.le_refl _)).below bA (Nat.le_refl _)))
        go_wp2_with fail
        refine (HS2.out).mono ?_
        rintro e w2 ⟨rfl, b2⟩
        have d0 := below_cell b2 (Nat.le_refl _) c0
        have d1 := below_cell b2 (Nat.le_refl _) c1
        have d2 := below_cell b2 (Nat.le_refl _) c2
        have b2' := below_trans bA b2
        go_wp2_with fail
        refine (shinf_32 w2).mono ?_
        rintro e w3 ⟨rfl, b3⟩
        have e0 := below_cell b3 (Nat.le_refl _) d0
        have e1 := below_cell b3 (Nat.le_refl _) d1
        have e2 := below_cell b3 (Nat.le_refl _) d2
        go_wp2_with fail
        refine (shinf_32 w3).mono ?_
        rintro e w4 ⟨rfl, b4⟩
        have g0 := below_cell b4 (Nat.le_refl _) e0
        have g1 := below_cell b4 (Nat.le_refl _) e1
        have g2 := below_cell b4 (Nat.le_refl _) e2
        go_wp2
        go_ret
        rw [HR.out]
        exact ⟨rfl, below_trans b1 (below_trans b2' (below_trans b3 b4))⟩
      · have t3' : (z == 0) = false := by simpa using t3
        by_cases t4 : z < 8388608
        · have HR := Lib.hid (show C = 2 by rw [HC.out, if_neg t1, if_neg t2, if_neg t3, if_pos t4])
          have t4' : (z / 8388608 == 0) = true := by simp; omega
          clear HC t3 t2 t4
          go_enter Tryz.func157, Tryz.ntmps157
          go_wp2_with fail
          refine (H1.out).mono ?_
          rintro e w1 ⟨rfl, b1⟩
          have bA : Below w1.heap.size w1 (w1.alloc (.cells #[.int .i64 23, .int .i64 (-149), .int .i64 8] 95)) := (Below.refl _ _).alloc (Nat.le_refl _) _
          have c0 : (w1.alloc (.cells #[.int .i64 23, .int .i64 (-149), .int .i64 8] 95)).cell? ⟨w1.heap.size, 0, none⟩ = some (.int .i64 (23)) := World.cell?_alloc_at _ _ _ _ rfl
          have c1 : (w1.alloc (.cells #[.int .i64 23, .int .i64 (-149), .int .i64 8] 95)).cell? ⟨w1.heap.size, 1, none⟩ = some (.int .i64 (-149)) := World.cell?_alloc_at _ _ _ _ rfl
          have c2 : (w1.alloc (.cells #[.int .i64 23, .int .i64 (-149), .int .i64 8] 95)).cell? ⟨w1.heap.size, 2, none⟩ = some (.int .i64 (8)) := World.cell?_alloc_at _ _ _ _ rfl
          have HS2 := Lib.hid (H2.out (w1.alloc (.cells #[.int .i64 23, .int .i64 (-149), .int .i64 8] 95)) ((hS.below b1 (Nat.le_refl _)).below bA (Nat.le_refl _)))
          go_wp2_with fail
          refine (HS2.out).mono ?_
          rintro e w2 ⟨rfl, b2⟩
          have d0 := below_cell b2 (Nat.le_refl _) c0
          have d1 := below_cell b2 (Nat.le_refl _) c1
          have d2 := below_cell b2 (Nat.le_refl _) c2
          have b2' := below_trans bA b2
          go_wp2_with fail
          refine (shinf_32 w2).mono ?_
          rintro e w3 ⟨rfl, b3⟩
          have e0 := below_cell b3 (Nat.le_refl _) d0
          have e1 := below_cell b3 (Nat.le_refl _) d1
          have e2 := below_cell b3 (Nat.le_refl _) d2
          go_wp2_with fail
          refine (shinf_32 w3).mono ?_
          rintro e w4 ⟨rfl, b4⟩
          have g0 := below_cell b4 (Nat.le_refl _) e0
          have g1 := below_cell b4 (Nat.le_refl _) e1
          have g2 := below_cell b4 (Nat.le_refl _) e2
          go_wp2
          go_ret
          rw [HR.out]
          exact ⟨rfl, below_trans b1 (below_trans b2' (below_trans b3 b4))⟩
        · have HR := Lib.hid (show C = 3 by rw [HC.out, if_neg t1, if_neg t2, if_neg t3, if_neg t4])
          have t4' : (z / 8388608 == 0) = false := by simp; omega
          clear HC t3 t2 t4
          go_enter Tryz.func157, Tryz.ntmps157
          go_wp2_with fail
          refine (H1.out).mono ?_
          rintro e w1 ⟨rfl, b1⟩
          have bA : Below w1.heap.size w1 (w1.alloc (.cells #[.int .i64 23, .int .i64 (-149), .int .i64 8] 95)) := (Below.refl _ _).alloc (Nat.le_refl _) _
          have c0 : (w1.alloc (.cells #[.int .i64 23, .int .i64 (-149), .int .i64 8] 95)).cell? ⟨w1.heap.size, 0, none⟩ = some (.int .i64 (23)) := World.cell?_alloc_at _ _ _ _ rfl
          have c1 : (w1.alloc (.cells #[.int .i64 23, .int .i64 (-149), .int .i64 8] 95)).cell? ⟨w1.heap.size, 1, none⟩ = some (.int .i64 (-149)) := World.cell?_alloc_at _ _ _ _ rfl
          have c2 : (w1.alloc (.cells #[.int .i64 23, .int .i64 (-149), .int .i64 8] 95)).cell? ⟨w1.heap.size, 2, none⟩ = some (.int .i64 (8)) := World.cell?_alloc_at _ _ _ _ rfl
          have HS2 := Lib.hid (H2.out (w1.alloc (.cells #[.int .i64 23, .int .i64 (-149), .int .i64 8] 95)) ((hS.below b1 (Nat.le_refl _)).below bA (Nat.le_refl _)))
          go_wp2_with fail
          refine (HS2.out).mono ?_
          rintro e w2 ⟨rfl, b2⟩
          have d0 := below_cell b2 (Nat.le_refl _) c0
          have d1 := below_cell b2 (Nat.le_refl _) c1
          have d2 := below_cell b2 (Nat.le_refl _) c2
          have b2' := below_trans bA b2
          go_wp2_with fail
          refine (shinf_32 w2).mono ?_
          rintro e w3 ⟨rfl, b3⟩
          have e0 := below_cell b3 (Nat.le_refl _) d0
          have e1 := below_cell b3 (Nat.le_refl _) d1
          have e2 := below_cell b3 (Nat.le_refl _) d2
          go_wp2_with fail
          refine (shinf_32 w3).mono ?_
          rintro e w4 ⟨rfl, b4⟩
          have g0 := below_cell b4 (Nat.le_refl _) e0
          have g1 := below_cell b4 (Nat.le_refl _) e1
          have g2 := below_cell b4 (Nat.le_refl _) e2
          go_wp2
          go_ret
          rw [HR.out]
          exact ⟨rfl, below_trans b1 (below_trans b2' (below_trans b3 b4))⟩
end Go.Proofs.YtoimhjcpeifegaaGreatDoor

/- crucibleref04.Parts. -/
namespace Go.Proofs.YtoimhjcpeifegaaGreatDoor
open Go.RowKit

theorem half_step (rm m : Int) (k : Nat) (h : rm = m * 2 ^ k) (he : m % 2 = 0) : rm = m / 2 * 2 ^ (k + 1) := by
  have e : m = m / 2 * 2 := by omega
  rw [h, Int.pow_succ, Int.mul_comm (2 ^ k) 2, ← Int.mul_assoc, ← e]

theorem place_small (rm m : Int) (k : Nat) (hm : 0 < m) (hr : rm < 9007199254740992) (h : rm = m * 2 ^ k) : k < 53 := by
  have h1 : (2 : Int) ^ k ≤ m * 2 ^ k := by
    have h2 : (0 : Int) < 2 ^ k := Int.pow_pos (by omega)
    have := Int.mul_le_mul_of_nonneg_right (show (1 : Int) ≤ m by omega) (Int.le_of_lt h2)
    omega
  have h3 : (2 : Int) ^ k < 2 ^ 53 := by
    rw [show (2 : Int) ^ 53 = 9007199254740992 from by decide]
    omega
  rcases Nat.lt_or_ge k 53 with h4 | h4
  · exact h4
  · have := pow_le (b := 2) (by omega) h4
    omega

set_option maxRecDepth 20000 in
set_option maxHeartbeats 2000000 in
theorem rparts_calls (W : Nat) (hW : Wide W) (x : Int) (hx : 0 ≤ x ∧ x < 18446744073709551616) (w : World) :
    Calls Tryz.prog 135 #[.int .i64 W, .int .u64 x] w (fun e w' => e = .returned (.tuple #[.bool (pNeg W x), .int .u64 (pM W x), .int .i64 (pE W x), .bool (pOk W x)]) ∧ Below w.heap.size w w') := by
  have HZ := Lib.hid (rsize_calls W hW x hx)
  have HI := Lib.hid (rinf_calls W hW)
  have HNg := Lib.hid (rneg_calls W hW x)
  have hz0 : 0 ≤ sizeW W x := by
    have : 0 < sgnW W := Int.pow_pos (by omega)
    unfold sizeW; split <;> omega
  have hib : infW W ≤ 9218868437227405312 := by rcases hW with rfl | rfl | rfl <;> decide
  have HM := Lib.hid (show pM W x = if pOk W x && !decide (sizeW W x = 0) then oddI (rawM W x) else 0 from rfl)
  have HE := Lib.hid (show pE W x = if pOk W x && !decide (sizeW W x = 0) then rawE W x + tzI (rawM W x) else 0 from rfl)
  have HN := Lib.hid (show pNeg W x = (pOk W x && negW W x) from rfl)
  have HO := Lib.hid (show pOk W x = decide (sizeW W x < infW W) from rfl)
  by_cases t1 : infW W ≤ sizeW W x
  · have E1 := Lib.hid (show pOk W x = false by rw [HO.out]; simp; omega)
    have E2 := Lib.hid (show pNeg W x = false by rw [HN.out, E1.out]; rfl)
    have E3 := Lib.hid (show pM W x = 0 by rw [HM.out, E1.out]; rfl)
    have E4 := Lib.hid (show pE W x = 0 by rw [HE.out, E1.out]; rfl)
    clear HM HE HN HO
    generalize infW W = I at *
    generalize sizeW W x = z at *
    go_enter Tryz.func135, Tryz.ntmps135
    go_wp2_with fail
    refine (HZ.out w).mono ?_
    rintro e w' ⟨rfl, rfl⟩
    go_wp2_with fail
    refine (HI.out w).mono ?_
    rintro e w1 ⟨rfl, b1⟩
    go_wp2
    ((try simp only [Exit.inBlock, Exit.then]); refine bodyPost_ret (results_tmp4 rfl _ _ _) rfl ?_)
    rw [E1.out, E2.out, E3.out, E4.out]
    exact ⟨rfl, b1⟩
  · have HNum := Lib.hid (rnumber_calls W hW (sizeW W x) ⟨hz0, by omega⟩)
    have E1 := Lib.hid (show pOk W x = true by rw [HO.out]; simp; omega)
    have E2 := Lib.hid (show pNeg W x = negW W x by rw [HN.out, E1.out]; rfl)
    have hrE := rawE_bd hW x (by omega)
    have hrM : rawM W x < 9007199254740992 := raw_lt hW x
    have hrM0 : 0 ≤ rawM W x := by unfold rawM; omega
    have HRz := Lib.hid (show 0 < sizeW W x → 0 < rawM W x from raw_pos x)
    have HRz2 : Hid (sizeW W x = 0 → rawM W x = 0) := fun h => by
      unfold rawM numM
      rw [h, show (0 : Int).toNat = 0 from rfl, if_pos (Nat.two_pow_pos _)]
      rfl
    have HNum2 : Hid (∀ w, Calls Tryz.prog 173 #[.int .i64 W, .int .u64 (sizeW W x)] w (fun e w' => e = .returned (.tuple #[.int .u64 (rawM W x), .int .i64 (rawE W x)]) ∧ Below w.heap.size w w')) := HNum.out
    clear HNum HO HN
    generalize infW W = I at *
    generalize pM W x = m at *
    generalize pE W x = p at *
    generalize rawM W x = rm at *
    generalize rawE W x = re at *
    generalize sizeW W x = z at *
    by_cases t2 : z = 0
    · have E3 := Lib.hid (show m = 0 by rw [HM.out, t2]; simp)
      have E4 := Lib.hid (show p = 0 by rw [HE.out, t2]; simp)
      have t3 : (rm == 0) = true := by simpa using HRz2.out t2
      clear HM HE t2
      go_enter Tryz.func135, Tryz.ntmps135
      go_wp2_with fail
      refine (HZ.out w).mono ?_
      rintro e w' ⟨rfl, rfl⟩
      go_wp2_with fail
      refine (HI.out w).mono ?_
      rintro e w1 ⟨rfl, b1⟩
      go_wp2_with fail
      refine (HZ.out w1).mono ?_
      rintro e w' ⟨rfl, rfl⟩
      go_wp2_with fail
      refine (HNum2.out w1).mono ?_
      rintro e w2 ⟨rfl, b2⟩
      go_wp2_with fail
      refine (HNg.out w2).mono ?_
      rintro e w' ⟨rfl, rfl⟩
      go_wp2
      ((try simp only [Exit.inBlock, Exit.then]); refine bodyPost_ret (results_tmp4 rfl _ _ _) rfl ?_)
      rw [E1.out, E2.out, E3.out, E4.out]
      exact ⟨rfl, below_trans b1 b2⟩
    · have hr0 := HRz.out (by omega)
      have E3 := Lib.hid (show m = oddI rm by rw [HM.out, E1.out, decide_eq_false t2]; rfl)
      have E4 := Lib.hid (show p = re + tzI rm by rw [HE.out, E1.out, decide_eq_false t2]; rfl)
      have t3 : (rm == 0) = false := by simp; omega
      clear HM HE t2
      go_enter Tryz.func135, Tryz.ntmps135
      go_wp2_with fail
      refine (HZ.out w).mono ?_
      rintro e w' ⟨rfl, rfl⟩
      go_wp2_with fail
      refine (HI.out w).mono ?_
      rintro e w1 ⟨rfl, b1⟩
      go_wp2_with fail
      refine (HZ.out w1).mono ?_
      rintro e w' ⟨rfl, rfl⟩
      go_wp2_with fail
      refine (HNum2.out w1).mono ?_
      rintro e w2 ⟨rfl, b2⟩
      go_wp2_with fail
      go_loop [8, 9] (fun s8 s9 => ∃ (a : Int) (k : Nat), s8 = .int .u64 a ∧ s9 = .int .i64 (re + k) ∧ 0 < a ∧ a < 9007199254740992 ∧ k < 53 ∧ Hid (rm = a * 2 ^ k)) (fun s8 _ => (intOf s8).toNat)
      case atStart => exact ⟨rm, 0, rfl, by simp, hr0, hrM, by omega, by show rm = rm * 2 ^ 0; simp⟩
      case round =>
        obtain ⟨a, k, rfl, rfl, ha0, ha1, hk, H⟩ := hrel
        by_cases hev : a % 2 = 0
        · have W1 : a.tmod 2 = 0 := by rw [Int.tmod_eq_emod_of_nonneg (by omega)]; exact hev
          have W2 : a.tdiv 2 = a / 2 := Int.tdiv_eq_ediv_of_nonneg (by omega)
          have H2 := Lib.hid (half_step rm a k H.out hev)
          have hk2 := place_small rm (a / 2) (k + 1) (by omega) hrM H2.out
          have W3 : IntKind.i64.wrap (re + k + 1) = re + k + 1 := IntWalk.i64_in _ (by omega)
          go_wp2
          go_round
          case rel => exact ⟨a / 2, k + 1, rfl, by congr 1; omega, by omega, by omega, hk2, H2.out⟩
          case measure => simp [intOf]; omega
        · have hod : a % 2 = 1 := by omega
          have W1 : a.tmod 2 = 1 := by rw [Int.tmod_eq_emod_of_nonneg (by omega)]; exact hod
          have K := odd_of rm a k hr0 (by omega) H.out hod
          have E5 := Lib.hid (show m = a by rw [E3.out, K.1])
          have E6 := Lib.hid (show p = re + k by rw [E4.out, K.2])
          clear K hev
          go_wp2_with fail
          refine (HNg.out w2).mono ?_
          rintro e w' ⟨rfl, rfl⟩
          go_wp2
          ((try simp only [Exit.inBlock, Exit.then]); refine bodyPost_ret (results_tmp4 rfl _ _ _) rfl ?_)
          rw [E1.out, E2.out, E5.out, E6.out]
          exact ⟨rfl, below_trans b1 b2⟩
end Go.Proofs.YtoimhjcpeifegaaGreatDoor

/- crucibleref04.Cmp2. -/
namespace Go.Proofs.YtoimhjcpeifegaaGreatDoor
open Go.RowKit

theorem rcmp2_calls (ad bd : Option Addr) (n m c d : Nat) (A B p q : Int) (w : World) (ha : Num w ad n c A) (hb : Num w bd m d B) (hA : 0 ≤ A) (hB : 0 ≤ B) (lA : A < 4294967296 ^ 4096) (lB : B < 4294967296 ^ 4096)
    (hn : n ≤ 1099511627776) (hm : m ≤ 1099511627776) (hp : -65536 ≤ p ∧ p ≤ 65536) (hq : -65536 ≤ q ∧ q ≤ 65536) :
    Calls Tryz.prog 174 #[.slice ad n c, .int .i64 p, .slice bd m d, .int .i64 q] w (RetIB (cmp2 A p B q) w) := by
  rcases Int.lt_trichotomy p q with h | h | h
  · obtain ⟨s1, s2, s3, s4⟩ := shl_fits B 4096 (q - p) hB lB (by omega) (by omega)
    have H1 := num_rshl bd m d B (q - p) w hb (by omega) (by omega)
    rw [s1, s2] at H1
    have E := Lib.hid (show cmpI A (B * 2 ^ (q - p).toNat) = cmp2 A p B q by unfold cmp2; rw [show (p - q).toNat = 0 by omega, Int.pow_zero, Int.mul_one])
    have H := Lib.hid H1
    generalize B * 2 ^ (q - p).toNat = B2 at *
    have S := Lib.hid s4
    clear H1 s1 s2 s4 lA lB
    go_enter Tryz.func174, Tryz.ntmps174
    go_wp2_with fail
    refine (H.out).mono ?_
    rintro e w1 ⟨bd1, m1, d1, rfl, f1, b1⟩
    have l1 := f1.len_le _ S.out
    have H2 := Lib.hid (num_rcmp ad bd1 n m1 c d1 A B2 w1 (ha.below b1 (Nat.le_refl _)) (f1.num s3) (by omega) (by omega))
    go_wp2_with fail
    refine (H2.out).mono ?_
    rintro e w2 ⟨rfl, b2⟩
    go_wp2
    go_ret
    rw [E.out]
    exact ⟨rfl, below_trans b1 b2⟩
  · subst h
    have E := Lib.hid (show cmpI A B = cmp2 A p B p by unfold cmp2; rw [Int.sub_self, show (0 : Int).toNat = 0 from rfl, Int.pow_zero, Int.mul_one, Int.mul_one])
    have H2 := Lib.hid (num_rcmp ad bd n m c d A B w ha hb (by omega) (by omega))
    clear lA lB
    go_enter Tryz.func174, Tryz.ntmps174
    go_wp2_with fail
    refine (H2.out).mono ?_
    rintro e w2 ⟨rfl, b2⟩
    go_wp2
    go_ret
    rw [E.out]
    exact ⟨rfl, b2⟩
  · obtain ⟨s1, s2, s3, s4⟩ := shl_fits A 4096 (p - q) hA lA (by omega) (by omega)
    have H1 := num_rshl ad n c A (p - q) w ha (by omega) (by omega)
    rw [s1, s2] at H1
    have E := Lib.hid (show cmpI (A * 2 ^ (p - q).toNat) B = cmp2 A p B q by unfold cmp2; rw [show (q - p).toNat = 0 by omega, Int.pow_zero, Int.mul_one])
    have H := Lib.hid H1
    generalize A * 2 ^ (p - q).toNat = A2 at *
    have S := Lib.hid s4
    clear H1 s1 s2 s4 lA lB
    go_enter Tryz.func174, Tryz.ntmps174
    go_wp2_with fail
    refine (H.out).mono ?_
    rintro e w1 ⟨ad1, n1, c1, rfl, f1, b1⟩
    have l1 := f1.len_le _ S.out
    have H2 := Lib.hid (num_rcmp ad1 bd n1 m c1 d A2 B w1 (f1.num s3) (hb.below b1 (Nat.le_refl _)) (by omega) (by omega))
    go_wp2_with fail
    refine (H2.out).mono ?_
    rintro e w2 ⟨rfl, b2⟩
    go_wp2
    go_ret
    rw [E.out]
    exact ⟨rfl, below_trans b1 b2⟩
end Go.Proofs.YtoimhjcpeifegaaGreatDoor

/- The table of places out of a row's list. -/
namespace Go.Proofs.YtoimhjcpeifegaaGreatDoor
open Go.RowKit

theorem gTz : Tryz.prog.globalNamed "math/bits.deBruijn64tab" = some 4 := by kernel_rfl
theorem gTzType : (Tryz.prog.globals[4]?).map (·.type) = some 201 := by kernel_rfl
theorem cellsTz : Tryz.prog.cellsOf 201 = 64 := by kernel_rfl
theorem cellsU8 : Tryz.prog.cellsOf 5 = 1 := by kernel_rfl
theorem tz_get : ∀ j, j < 64 → (Lib.deBruijn64tab.map (fun n : Nat => (n : Int))).getD j 0 = ((Lib.deBruijn64tab.getD j 0 : Nat) : Int) := by decide

theorem tab_of_laid {W : World} {rest : List (String × DataW Unit)} (h : laidMet Tryz.prog (("math/bits.deBruijn64tab", Rows.laid_math_bits_deBruijn64tab) :: rest) W) : Tab W := by
  have ht : Lib.TabIs Tryz.prog W "math/bits.deBruijn64tab" .u8 (Lib.deBruijn64tab.map (fun n : Nat => (n : Int))) :=
    Lib.tabIs_of_head (rest := rest) gTz gTzType Tryz.underlying201 Tryz.underlying5 cellsU8 cellsTz h
  intro j hj
  rw [← tz_get j hj]
  exact ht.cell gTz j (by decide +revert)
end Go.Proofs.YtoimhjcpeifegaaGreatDoor
