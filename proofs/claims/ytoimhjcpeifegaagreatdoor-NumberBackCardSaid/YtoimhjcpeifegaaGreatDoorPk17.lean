/- Contracts of functions, and plain facts, part 17. -/
import Derived.Deep.DeepCutAuto
import Derived.IntWalk
import Derived.Test.YtoimhjcpeifegaaGreatDoorPk15
set_option linter.unusedVariables false
set_option linter.unusedSimpArgs false
/- Printed by ieee3.py. -/
namespace Go.Proofs.YtoimhjcpeifegaaGreatDoor
open Go.RowKit

theorem low_16 (z : Int) (hz : 0 ≤ z ∧ z < 18446744073709551616) : bits .or .u64 (z % 1024) 1024 = 1024 + z % 1024 ∧ bits .and .u64 z 1023 = z % 1024 := by
  obtain ⟨z, rfl⟩ := Int.eq_ofNat_of_zero_le hz.1
  have e : bits .and .u64 (z : Int) ((1023 : Nat) : Int) = ((z &&& 1023 : Nat) : Int) := Go.bits_and_u64_nat z _ (by omega) (by omega)
  have h := Nat.and_two_pow_sub_one_eq_mod z 10
  rw [show (2 : Nat) ^ 10 = 1024 from by decide, show 1024 - 1 = 1023 from by decide] at h
  rw [h] at e
  have h3 : z % 1024 < 1024 := Nat.mod_lt _ (by omega)
  have e2 : bits .or .u64 ((z % 1024 : Nat) : Int) ((1024 : Nat) : Int) = ((z % 1024 ||| 1024 : Nat) : Int) := Go.bits_or_u64_nat _ _ (by omega) (by omega)
  have h2 := Nat.two_pow_add_eq_or_of_lt (show z % 1024 < 2 ^ 10 by rw [show (2 : Nat) ^ 10 = 1024 from by decide]; exact h3) 1
  rw [Nat.mul_one, show (2 : Nat) ^ 10 = 1024 from by decide, Nat.or_comm] at h2
  rw [← h2] at e2
  have e' : bits .and .u64 (z : Int) 1023 = ((z % 1024 : Nat) : Int) := e
  rw [e', show (z : Int) % 1024 = ((z % 1024 : Nat) : Int) by simp]
  exact ⟨e2.trans (by simp), rfl⟩

set_option maxRecDepth 20000 in
set_option maxHeartbeats 2000000 in
theorem parts_16 (w : World) (hS : Shapes w) (hT : Tab w) (x : Int) (hx : 0 ≤ x ∧ x < 65536) : Calls Tryz.prog 55 #[.int .u16 x] w (fun e w' => e = .returned (.tuple #[.bool (pNeg 16 x), .int .u64 (pM 16 x), .int .i64 (pE 16 x), .bool (pOk 16 x)]) ∧ Below w.heap.size w w') := by
  have H1 := Lib.hid (of_16 w hS)
  have H2 := Lib.hid (fun (w : World) (hS : Shapes w) => split_16 w hS x hx)
  have hz := size_bounds (W := 16) (by unfold Wide; omega) x ⟨hx.1, by exact hx.2⟩
  rw [sgn16] at hz
  have HM := Lib.hid (show pM 16 x = if pOk 16 x && !decide (sizeW 16 x = 0) then oddI (rawM 16 x) else 0 from rfl)
  have HE := Lib.hid (show pE 16 x = if pOk 16 x && !decide (sizeW 16 x = 0) then rawE 16 x + tzI (rawM 16 x) else 0 from rfl)
  have HN := Lib.hid (show pNeg 16 x = (pOk 16 x && negW 16 x) from rfl)
  have HO := Lib.hid (show pOk 16 x = decide (sizeW 16 x < 31744) by unfold pOk; rw [inf16])
  have HRM := Lib.hid (show rawM 16 x = (numM 10 (sizeW 16 x).toNat : Nat) from rfl)
  have HRE := Lib.hid (show rawE 16 x = -24 + (numP 10 (sizeW 16 x).toNat : Nat) from rfl)
  generalize pM 16 x = m at *
  generalize pE 16 x = p at *
  generalize pNeg 16 x = ng at *
  generalize pOk 16 x = ok at *
  generalize rawM 16 x = rm at *
  generalize rawE 16 x = re at *
  generalize sizeW 16 x = z at *
  generalize negW 16 x = n at *
  by_cases t1 : 31744 ≤ z
  · have E1 := Lib.hid (show ok = false by rw [HO.out]; simp; omega)
    have E2 := Lib.hid (show ng = false by rw [HN.out, E1.out]; rfl)
    have E3 := Lib.hid (show m = 0 by rw [HM.out, E1.out]; rfl)
    have E4 := Lib.hid (show p = 0 by rw [HE.out, E1.out]; rfl)
    clear HM HE HN HO HRM HRE
    go_enter Tryz.func55, Tryz.ntmps55
    go_wp2_with fail
    refine (H1.out).mono ?_
    rintro e w1 ⟨rfl, b1⟩
    have bA : Below w1.heap.size w1 (w1.alloc (.cells #[.int .i64 10, .int .i64 (-24), .int .i64 5] 95)) := (Below.refl _ _).alloc (Nat.le_refl _) _
    have sh2 : ShAt 10 (-24) 5 w1.heap.size (w1.alloc (.cells #[.int .i64 10, .int .i64 (-24), .int .i64 5] 95)) := ShAt.made _ _ _ _
    have HS2 := Lib.hid (H2.out (w1.alloc (.cells #[.int .i64 10, .int .i64 (-24), .int .i64 5] 95)) ((hS.below b1 (Nat.le_refl _)).below bA (Nat.le_refl _)))
    have hT2 := (hT.below b1 (Nat.le_refl _)).below bA (Nat.le_refl _)
    have b2 := below_trans b1 bA
    go_wp2_with fail
    refine (HS2.out).mono ?_
    rintro e w3 ⟨rfl, b3⟩
    have sh3 := sh2.below b3
    have hT3 := Lib.hid (hT2.below b3 (Nat.le_refl _))
    have b4 := below_trans b2 b3
    clear b3 sh2 hT2 b2 bA HS2
    generalize w1.heap.size = b at *
    obtain ⟨c0, c1, c2⟩ := sh3
    go_wp2_with fail
    refine (shinf_16 w3).mono ?_
    rintro e w5 ⟨rfl, b5⟩
    have sh5 := ShAt.below ⟨c0, c1, c2⟩ b5
    have hT5 := Lib.hid (hT3.out.below b5 (Nat.le_refl _))
    have b6 := below_trans b4 b5
    clear c0 c1 c2
    obtain ⟨c0, c1, c2⟩ := sh5
    go_wp2
    ((try simp only [Exit.inBlock, Exit.then]); refine bodyPost_ret (results_tmp4 rfl _ _ _) rfl ?_)
    rw [E1.out, E2.out, E3.out, E4.out]
    exact ⟨rfl, b6⟩
  · have E1 := Lib.hid (show ok = true by rw [HO.out]; simp; omega)
    have E2 := Lib.hid (show ng = n by rw [HN.out, E1.out]; rfl)
    by_cases t2 : z = 0
    · have E3 := Lib.hid (show m = 0 by rw [HM.out, t2]; simp)
      have E4 := Lib.hid (show p = 0 by rw [HE.out, t2]; simp)
      have t2' : (z == 0) = true := by simpa using t2
      clear HM HE HN HO HRM HRE t2
      go_enter Tryz.func55, Tryz.ntmps55
      go_wp2_with fail
      refine (H1.out).mono ?_
      rintro e w1 ⟨rfl, b1⟩
      have bA : Below w1.heap.size w1 (w1.alloc (.cells #[.int .i64 10, .int .i64 (-24), .int .i64 5] 95)) := (Below.refl _ _).alloc (Nat.le_refl _) _
      have sh2 : ShAt 10 (-24) 5 w1.heap.size (w1.alloc (.cells #[.int .i64 10, .int .i64 (-24), .int .i64 5] 95)) := ShAt.made _ _ _ _
      have HS2 := Lib.hid (H2.out (w1.alloc (.cells #[.int .i64 10, .int .i64 (-24), .int .i64 5] 95)) ((hS.below b1 (Nat.le_refl _)).below bA (Nat.le_refl _)))
      have hT2 := (hT.below b1 (Nat.le_refl _)).below bA (Nat.le_refl _)
      have b2 := below_trans b1 bA
      go_wp2_with fail
      refine (HS2.out).mono ?_
      rintro e w3 ⟨rfl, b3⟩
      have sh3 := sh2.below b3
      have hT3 := Lib.hid (hT2.below b3 (Nat.le_refl _))
      have b4 := below_trans b2 b3
      clear b3 sh2 hT2 b2 bA HS2
      generalize w1.heap.size = b at *
      obtain ⟨c0, c1, c2⟩ := sh3
      go_wp2_with fail
      refine (shinf_16 w3).mono ?_
      rintro e w5 ⟨rfl, b5⟩
      have sh5 := ShAt.below ⟨c0, c1, c2⟩ b5
      have hT5 := Lib.hid (hT3.out.below b5 (Nat.le_refl _))
      have b6 := below_trans b4 b5
      clear c0 c1 c2
      obtain ⟨c0, c1, c2⟩ := sh5
      go_wp2
      ((try simp only [Exit.inBlock, Exit.then]); refine bodyPost_ret (results_tmp4 rfl _ _ _) rfl ?_)
      rw [E1.out, E2.out, E3.out, E4.out]
      exact ⟨by first | rfl | simp, b6⟩
    · have t2' : (z == 0) = false := by simpa using t2
      have E3 := Lib.hid (show m = oddI rm by rw [HM.out, E1.out, decide_eq_false t2]; rfl)
      have E4 := Lib.hid (show p = re + tzI rm by rw [HE.out, E1.out, decide_eq_false t2]; rfl)
      have K1 : 0 < rm ∧ rm < 9007199254740992 := by
        rw [HRM.out]
        have h1 := numM_lt 10 z.toNat
        rw [show (2 : Nat) ^ (10 + 1) = 2048 from by decide] at h1
        unfold numM at h1 ⊢
        rw [show (2 : Nat) ^ 10 = 1024 from by decide] at h1 ⊢
        split at h1 <;> rename_i h2
        · rw [if_pos h2]; omega
        · rw [if_neg h2]; omega
      have K2 := odd_spec rm K1.1 (by omega)
      have K3 := Lib.hid (show oddI rm = rm / 2 ^ (tzI rm).toNat by unfold oddI tzI; rw [Int.toNat_natCast])
      have HL := low_16 z (by omega)
      have hre : -1074 ≤ re ∧ re ≤ 2048 := by
        rw [HRE.out]
        have h1 := numP_le (W := 16) (by unfold Wide; omega) z.toNat (by have := infW_eq (W := 16) (by unfold Wide; omega); rw [inf16] at this; omega)
        rw [show shF 16 = 10 from rfl, show (2 : Nat) ^ shE 16 = 32 from by decide] at h1
        omega
      have HTZ := Lib.hid (fun w hT => tz_calls rm ⟨K1.1, by omega⟩ w hT)
      obtain ⟨hL1, hL2⟩ := HL
      have V1 : IntKind.u64.wrap (1024 + z % 1024) = 1024 + z % 1024 := by rw [IntKind.wrap_u64]; omega
      have V2 : IntKind.i64.wrap (z / 1024) = z / 1024 := IntWalk.i64_in _ (by omega)
      have V3 : IntKind.i64.wrap (z / 1024 - 1) = z / 1024 - 1 := IntWalk.i64_in _ (by omega)
      have V4 : IntKind.i64.wrap (-24 + (z / 1024 - 1)) = -24 + (z / 1024 - 1) := IntWalk.i64_in _ (by omega)
      have V5 : IntKind.i64.wrap (re + tzI rm) = re + tzI rm := IntWalk.i64_in _ (by omega)
      obtain ⟨tz, htz⟩ : ∃ tz, tz = tzI rm := ⟨_, rfl⟩
      rw [← htz] at HTZ E4 K2 K3 V5
      have K4 := Lib.hid K2.1
      have hk5 := K2.2.2.2
      clear K2 htz HM HE HN HO t2
      rw [K3.out] at E3
      clear K3
      go_enter Tryz.func55, Tryz.ntmps55
      go_wp2_with fail
      refine (H1.out).mono ?_
      rintro e w1 ⟨rfl, b1⟩
      have bA : Below w1.heap.size w1 (w1.alloc (.cells #[.int .i64 10, .int .i64 (-24), .int .i64 5] 95)) := (Below.refl _ _).alloc (Nat.le_refl _) _
      have sh2 : ShAt 10 (-24) 5 w1.heap.size (w1.alloc (.cells #[.int .i64 10, .int .i64 (-24), .int .i64 5] 95)) := ShAt.made _ _ _ _
      have HS2 := Lib.hid (H2.out (w1.alloc (.cells #[.int .i64 10, .int .i64 (-24), .int .i64 5] 95)) ((hS.below b1 (Nat.le_refl _)).below bA (Nat.le_refl _)))
      have hT2 := (hT.below b1 (Nat.le_refl _)).below bA (Nat.le_refl _)
      have b2 := below_trans b1 bA
      go_wp2_with fail
      refine (HS2.out).mono ?_
      rintro e w3 ⟨rfl, b3⟩
      have sh3 := sh2.below b3
      have hT3 := Lib.hid (hT2.below b3 (Nat.le_refl _))
      have b4 := below_trans b2 b3
      clear b3 sh2 hT2 b2 bA HS2
      generalize w1.heap.size = b at *
      obtain ⟨c0, c1, c2⟩ := sh3
      go_wp2_with fail
      refine (shinf_16 w3).mono ?_
      rintro e w5 ⟨rfl, b5⟩
      have sh5 := ShAt.below ⟨c0, c1, c2⟩ b5
      have hT5 := Lib.hid (hT3.out.below b5 (Nat.le_refl _))
      have b6 := below_trans b4 b5
      clear c0 c1 c2
      obtain ⟨c0, c1, c2⟩ := sh5
      go_upto_region 7 with (fail)
      go_cut [3, 4] (fun s3 s4 wx => s3 = .int .u64 z ∧ s4 = .int .i64 (-24) ∧ ∃ q, wx = w5.drewN q)
      case first =>
        go_quiet (fail)
        go_wp2_with fail
        go_meet
        case rel => exact ⟨rfl, rfl, _, rfl⟩
      case rest =>
        obtain ⟨rfl, rfl, q, rfl⟩ := hcut
        go_upto_if 33 with (fail)
        go_cut [3, 4] (fun s3 s4 wx => s3 = .int .u64 rm ∧ s4 = .int .i64 re ∧ ∃ q, wx = w5.drewN q)
        case first =>
          by_cases hk : z < 1024
          · have hk1 : z / 1024 = 0 := by omega
            have E5 := Lib.hid (show rm = z by rw [HRM.out]; unfold numM; rw [if_pos (by rw [show (2 : Nat) ^ 10 = 1024 from by decide]; omega)]; omega)
            have E6 := Lib.hid (show re = -24 by rw [HRE.out]; unfold numP; rw [if_pos (by rw [show (2 : Nat) ^ 10 = 1024 from by decide]; omega)]; rfl)
            go_wp2_with fail
            go_meet
            case rel => exact ⟨by rw [E5.out], by rw [E6.out], _, rfl⟩
          · have hk1 : 0 < z / 1024 := by omega
            have E5 := Lib.hid (show rm = 1024 + z % 1024 by rw [HRM.out]; unfold numM; rw [if_neg (by rw [show (2 : Nat) ^ 10 = 1024 from by decide]; omega), show (2 : Nat) ^ 10 = 1024 from by decide]; omega)
            have E6 := Lib.hid (show re = -24 + (z / 1024 - 1) by rw [HRE.out]; unfold numP; rw [if_neg (by rw [show (2 : Nat) ^ 10 = 1024 from by decide]; omega), show (2 : Nat) ^ 10 = 1024 from by decide]; omega)
            go_wp2_with fail
            go_quiet (fail)
            go_wp2_with fail
            go_meet
            case rel => exact ⟨by first | (rw [E5.out]; done) | (rw [E5.out]; simp), by rw [E6.out], _, by first | rfl | exact World.drewN_drewN ..⟩
        case rest =>
          obtain ⟨rfl, rfl, q', rfl⟩ := hcut
          have HTZ2 := Lib.hid (HTZ.out (w5.drewN q') (hT5.out.below (below_drewN (Below.refl w5.heap.size w5) q') (Nat.le_refl _)))
          go_wp2_with fail
          refine (HTZ2.out).mono ?_
          rintro e w' ⟨rfl, rfl⟩
          go_wp2_with fail
          go_quiet (fail)
          go_wp2_with fail
          ((try simp only [Exit.inBlock, Exit.then]); refine bodyPost_ret (results_tmp4 rfl _ _ _) rfl ?_)
          rw [E1.out, E2.out, E3.out, E4.out]
          exact ⟨by first | rfl | simp, below_drewN (below_drewN b6 _) _⟩
end Go.Proofs.YtoimhjcpeifegaaGreatDoor


/- Printed by ieee3.py. -/
namespace Go.Proofs.YtoimhjcpeifegaaGreatDoor
open Go.RowKit

theorem low_32 (z : Int) (hz : 0 ≤ z ∧ z < 18446744073709551616) : bits .or .u64 (z % 8388608) 8388608 = 8388608 + z % 8388608 ∧ bits .and .u64 z 8388607 = z % 8388608 := by
  obtain ⟨z, rfl⟩ := Int.eq_ofNat_of_zero_le hz.1
  have e : bits .and .u64 (z : Int) ((8388607 : Nat) : Int) = ((z &&& 8388607 : Nat) : Int) := Go.bits_and_u64_nat z _ (by omega) (by omega)
  have h := Nat.and_two_pow_sub_one_eq_mod z 23
  rw [show (2 : Nat) ^ 23 = 8388608 from by decide, show 8388608 - 1 = 8388607 from by decide] at h
  rw [h] at e
  have h3 : z % 8388608 < 8388608 := Nat.mod_lt _ (by omega)
  have e2 : bits .or .u64 ((z % 8388608 : Nat) : Int) ((8388608 : Nat) : Int) = ((z % 8388608 ||| 8388608 : Nat) : Int) := Go.bits_or_u64_nat _ _ (by omega) (by omega)
  have h2 := Nat.two_pow_add_eq_or_of_lt (show z % 8388608 < 2 ^ 23 by rw [show (2 : Nat) ^ 23 = 8388608 from by decide]; exact h3) 1
  rw [Nat.mul_one, show (2 : Nat) ^ 23 = 8388608 from by decide, Nat.or_comm] at h2
  rw [← h2] at e2
  have e' : bits .and .u64 (z : Int) 8388607 = ((z % 8388608 : Nat) : Int) := e
  rw [e', show (z : Int) % 8388608 = ((z % 8388608 : Nat) : Int) by simp]
  exact ⟨e2.trans (by simp), rfl⟩

set_option maxRecDepth 20000 in
set_option maxHeartbeats 2000000 in
theorem parts_32 (w : World) (hS : Shapes w) (hT : Tab w) (x : Int) (hx : 0 ≤ x ∧ x < 4294967296) : Calls Tryz.prog 65 #[.int .u32 x] w (fun e w' => e = .returned (.tuple #[.bool (pNeg 32 x), .int .u64 (pM 32 x), .int .i64 (pE 32 x), .bool (pOk 32 x)]) ∧ Below w.heap.size w w') := by
  have H1 := Lib.hid (of_32 w hS)
  have H2 := Lib.hid (fun (w : World) (hS : Shapes w) => split_32 w hS x hx)
  have hz := size_bounds (W := 32) (by unfold Wide; omega) x ⟨hx.1, by exact hx.2⟩
  rw [sgn32] at hz
  have HM := Lib.hid (show pM 32 x = if pOk 32 x && !decide (sizeW 32 x = 0) then oddI (rawM 32 x) else 0 from rfl)
  have HE := Lib.hid (show pE 32 x = if pOk 32 x && !decide (sizeW 32 x = 0) then rawE 32 x + tzI (rawM 32 x) else 0 from rfl)
  have HN := Lib.hid (show pNeg 32 x = (pOk 32 x && negW 32 x) from rfl)
  have HO := Lib.hid (show pOk 32 x = decide (sizeW 32 x < 2139095040) by unfold pOk; rw [inf32])
  have HRM := Lib.hid (show rawM 32 x = (numM 23 (sizeW 32 x).toNat : Nat) from rfl)
  have HRE := Lib.hid (show rawE 32 x = -149 + (numP 23 (sizeW 32 x).toNat : Nat) from rfl)
  generalize pM 32 x = m at *
  generalize pE 32 x = p at *
  generalize pNeg 32 x = ng at *
  generalize pOk 32 x = ok at *
  generalize rawM 32 x = rm at *
  generalize rawE 32 x = re at *
  generalize sizeW 32 x = z at *
  generalize negW 32 x = n at *
  by_cases t1 : 2139095040 ≤ z
  · have E1 := Lib.hid (show ok = false by rw [HO.out]; simp; omega)
    have E2 := Lib.hid (show ng = false by rw [HN.out, E1.out]; rfl)
    have E3 := Lib.hid (show m = 0 by rw [HM.out, E1.out]; rfl)
    have E4 := Lib.hid (show p = 0 by rw [HE.out, E1.out]; rfl)
    clear HM HE HN HO HRM HRE
    go_enter Tryz.func65, Tryz.ntmps65
    go_wp2_with fail
    refine (H1.out).mono ?_
    rintro e w1 ⟨rfl, b1⟩
    have bA : Below w1.heap.size w1 (w1.alloc (.cells #[.int .i64 23, .int .i64 (-149), .int .i64 8] 95)) := (Below.refl _ _).alloc (Nat.le_refl _) _
    have sh2 : ShAt 23 (-149) 8 w1.heap.size (w1.alloc (.cells #[.int .i64 23, .int .i64 (-149), .int .i64 8] 95)) := ShAt.made _ _ _ _
    have HS2 := Lib.hid (H2.out (w1.alloc (.cells #[.int .i64 23, .int .i64 (-149), .int .i64 8] 95)) ((hS.below b1 (Nat.le_refl _)).below bA (Nat.le_refl _)))
    have hT2 := (hT.below b1 (Nat.le_refl _)).below bA (Nat.le_refl _)
    have b2 := below_trans b1 bA
    go_wp2_with fail
    refine (HS2.out).mono ?_
    rintro e w3 ⟨rfl, b3⟩
    have sh3 := sh2.below b3
    have hT3 := Lib.hid (hT2.below b3 (Nat.le_refl _))
    have b4 := below_trans b2 b3
    clear b3 sh2 hT2 b2 bA HS2
    generalize w1.heap.size = b at *
    obtain ⟨c0, c1, c2⟩ := sh3
    go_wp2_with fail
    refine (shinf_32 w3).mono ?_
    rintro e w5 ⟨rfl, b5⟩
    have sh5 := ShAt.below ⟨c0, c1, c2⟩ b5
    have hT5 := Lib.hid (hT3.out.below b5 (Nat.le_refl _))
    have b6 := below_trans b4 b5
    clear c0 c1 c2
    obtain ⟨c0, c1, c2⟩ := sh5
    go_wp2
    ((try simp only [Exit.inBlock, Exit.then]); refine bodyPost_ret (results_tmp4 rfl _ _ _) rfl ?_)
    rw [E1.out, E2.out, E3.out, E4.out]
    exact ⟨rfl, b6⟩
  · have E1 := Lib.hid (show ok = true by rw [HO.out]; simp; omega)
    have E2 := Lib.hid (show ng = n by rw [HN.out, E1.out]; rfl)
    by_cases t2 : z = 0
    · have E3 := Lib.hid (show m = 0 by rw [HM.out, t2]; simp)
      have E4 := Lib.hid (show p = 0 by rw [HE.out, t2]; simp)
      have t2' : (z == 0) = true := by simpa using t2
      clear HM HE HN HO HRM HRE t2
      go_enter Tryz.func65, Tryz.ntmps65
      go_wp2_with fail
      refine (H1.out).mono ?_
      rintro e w1 ⟨rfl, b1⟩
      have bA : Below w1.heap.size w1 (w1.alloc (.cells #[.int .i64 23, .int .i64 (-149), .int .i64 8] 95)) := (Below.refl _ _).alloc (Nat.le_refl _) _
      have sh2 : ShAt 23 (-149) 8 w1.heap.size (w1.alloc (.cells #[.int .i64 23, .int .i64 (-149), .int .i64 8] 95)) := ShAt.made _ _ _ _
      have HS2 := Lib.hid (H2.out (w1.alloc (.cells #[.int .i64 23, .int .i64 (-149), .int .i64 8] 95)) ((hS.below b1 (Nat.le_refl _)).below bA (Nat.le_refl _)))
      have hT2 := (hT.below b1 (Nat.le_refl _)).below bA (Nat.le_refl _)
      have b2 := below_trans b1 bA
      go_wp2_with fail
      refine (HS2.out).mono ?_
      rintro e w3 ⟨rfl, b3⟩
      have sh3 := sh2.below b3
      have hT3 := Lib.hid (hT2.below b3 (Nat.le_refl _))
      have b4 := below_trans b2 b3
      clear b3 sh2 hT2 b2 bA HS2
      generalize w1.heap.size = b at *
      obtain ⟨c0, c1, c2⟩ := sh3
      go_wp2_with fail
      refine (shinf_32 w3).mono ?_
      rintro e w5 ⟨rfl, b5⟩
      have sh5 := ShAt.below ⟨c0, c1, c2⟩ b5
      have hT5 := Lib.hid (hT3.out.below b5 (Nat.le_refl _))
      have b6 := below_trans b4 b5
      clear c0 c1 c2
      obtain ⟨c0, c1, c2⟩ := sh5
      go_wp2
      ((try simp only [Exit.inBlock, Exit.then]); refine bodyPost_ret (results_tmp4 rfl _ _ _) rfl ?_)
      rw [E1.out, E2.out, E3.out, E4.out]
      exact ⟨by first | rfl | simp, b6⟩
    · have t2' : (z == 0) = false := by simpa using t2
      have E3 := Lib.hid (show m = oddI rm by rw [HM.out, E1.out, decide_eq_false t2]; rfl)
      have E4 := Lib.hid (show p = re + tzI rm by rw [HE.out, E1.out, decide_eq_false t2]; rfl)
      have K1 : 0 < rm ∧ rm < 9007199254740992 := by
        rw [HRM.out]
        have h1 := numM_lt 23 z.toNat
        rw [show (2 : Nat) ^ (23 + 1) = 16777216 from by decide] at h1
        unfold numM at h1 ⊢
        rw [show (2 : Nat) ^ 23 = 8388608 from by decide] at h1 ⊢
        split at h1 <;> rename_i h2
        · rw [if_pos h2]; omega
        · rw [if_neg h2]; omega
      have K2 := odd_spec rm K1.1 (by omega)
      have K3 := Lib.hid (show oddI rm = rm / 2 ^ (tzI rm).toNat by unfold oddI tzI; rw [Int.toNat_natCast])
      have HL := low_32 z (by omega)
      have hre : -1074 ≤ re ∧ re ≤ 2048 := by
        rw [HRE.out]
        have h1 := numP_le (W := 32) (by unfold Wide; omega) z.toNat (by have := infW_eq (W := 32) (by unfold Wide; omega); rw [inf32] at this; omega)
        rw [show shF 32 = 23 from rfl, show (2 : Nat) ^ shE 32 = 256 from by decide] at h1
        omega
      have HTZ := Lib.hid (fun w hT => tz_calls rm ⟨K1.1, by omega⟩ w hT)
      obtain ⟨hL1, hL2⟩ := HL
      have V1 : IntKind.u64.wrap (8388608 + z % 8388608) = 8388608 + z % 8388608 := by rw [IntKind.wrap_u64]; omega
      have V2 : IntKind.i64.wrap (z / 8388608) = z / 8388608 := IntWalk.i64_in _ (by omega)
      have V3 : IntKind.i64.wrap (z / 8388608 - 1) = z / 8388608 - 1 := IntWalk.i64_in _ (by omega)
      have V4 : IntKind.i64.wrap (-149 + (z / 8388608 - 1)) = -149 + (z / 8388608 - 1) := IntWalk.i64_in _ (by omega)
      have V5 : IntKind.i64.wrap (re + tzI rm) = re + tzI rm := IntWalk.i64_in _ (by omega)
      obtain ⟨tz, htz⟩ : ∃ tz, tz = tzI rm := ⟨_, rfl⟩
      rw [← htz] at HTZ E4 K2 K3 V5
      have K4 := Lib.hid K2.1
      have hk5 := K2.2.2.2
      clear K2 htz HM HE HN HO t2
      rw [K3.out] at E3
      clear K3
      go_enter Tryz.func65, Tryz.ntmps65
      go_wp2_with fail
      refine (H1.out).mono ?_
      rintro e w1 ⟨rfl, b1⟩
      have bA : Below w1.heap.size w1 (w1.alloc (.cells #[.int .i64 23, .int .i64 (-149), .int .i64 8] 95)) := (Below.refl _ _).alloc (Nat.le_refl _) _
      have sh2 : ShAt 23 (-149) 8 w1.heap.size (w1.alloc (.cells #[.int .i64 23, .int .i64 (-149), .int .i64 8] 95)) := ShAt.made _ _ _ _
      have HS2 := Lib.hid (H2.out (w1.alloc (.cells #[.int .i64 23, .int .i64 (-149), .int .i64 8] 95)) ((hS.below b1 (Nat.le_refl _)).below bA (Nat.le_refl _)))
      have hT2 := (hT.below b1 (Nat.le_refl _)).below bA (Nat.le_refl _)
      have b2 := below_trans b1 bA
      go_wp2_with fail
      refine (HS2.out).mono ?_
      rintro e w3 ⟨rfl, b3⟩
      have sh3 := sh2.below b3
      have hT3 := Lib.hid (hT2.below b3 (Nat.le_refl _))
      have b4 := below_trans b2 b3
      clear b3 sh2 hT2 b2 bA HS2
      generalize w1.heap.size = b at *
      obtain ⟨c0, c1, c2⟩ := sh3
      go_wp2_with fail
      refine (shinf_32 w3).mono ?_
      rintro e w5 ⟨rfl, b5⟩
      have sh5 := ShAt.below ⟨c0, c1, c2⟩ b5
      have hT5 := Lib.hid (hT3.out.below b5 (Nat.le_refl _))
      have b6 := below_trans b4 b5
      clear c0 c1 c2
      obtain ⟨c0, c1, c2⟩ := sh5
      go_upto_region 7 with (fail)
      go_cut [3, 4] (fun s3 s4 wx => s3 = .int .u64 z ∧ s4 = .int .i64 (-149) ∧ ∃ q, wx = w5.drewN q)
      case first =>
        go_quiet (fail)
        go_wp2_with fail
        go_meet
        case rel => exact ⟨rfl, rfl, _, rfl⟩
      case rest =>
        obtain ⟨rfl, rfl, q, rfl⟩ := hcut
        go_upto_if 33 with (fail)
        go_cut [3, 4] (fun s3 s4 wx => s3 = .int .u64 rm ∧ s4 = .int .i64 re ∧ ∃ q, wx = w5.drewN q)
        case first =>
          by_cases hk : z < 8388608
          · have hk1 : z / 8388608 = 0 := by omega
            have E5 := Lib.hid (show rm = z by rw [HRM.out]; unfold numM; rw [if_pos (by rw [show (2 : Nat) ^ 23 = 8388608 from by decide]; omega)]; omega)
            have E6 := Lib.hid (show re = -149 by rw [HRE.out]; unfold numP; rw [if_pos (by rw [show (2 : Nat) ^ 23 = 8388608 from by decide]; omega)]; rfl)
            go_wp2_with fail
            go_meet
            case rel => exact ⟨by rw [E5.out], by rw [E6.out], _, rfl⟩
          · have hk1 : 0 < z / 8388608 := by omega
            have E5 := Lib.hid (show rm = 8388608 + z % 8388608 by rw [HRM.out]; unfold numM; rw [if_neg (by rw [show (2 : Nat) ^ 23 = 8388608 from by decide]; omega), show (2 : Nat) ^ 23 = 8388608 from by decide]; omega)
            have E6 := Lib.hid (show re = -149 + (z / 8388608 - 1) by rw [HRE.out]; unfold numP; rw [if_neg (by rw [show (2 : Nat) ^ 23 = 8388608 from by decide]; omega), show (2 : Nat) ^ 23 = 8388608 from by decide]; omega)
            go_wp2_with fail
            go_quiet (fail)
            go_wp2_with fail
            go_meet
            case rel => exact ⟨by first | (rw [E5.out]; done) | (rw [E5.out]; simp), by rw [E6.out], _, by first | rfl | exact World.drewN_drewN ..⟩
        case rest =>
          obtain ⟨rfl, rfl, q', rfl⟩ := hcut
          have HTZ2 := Lib.hid (HTZ.out (w5.drewN q') (hT5.out.below (below_drewN (Below.refl w5.heap.size w5) q') (Nat.le_refl _)))
          go_wp2_with fail
          refine (HTZ2.out).mono ?_
          rintro e w' ⟨rfl, rfl⟩
          go_wp2_with fail
          go_quiet (fail)
          go_wp2_with fail
          ((try simp only [Exit.inBlock, Exit.then]); refine bodyPost_ret (results_tmp4 rfl _ _ _) rfl ?_)
          rw [E1.out, E2.out, E3.out, E4.out]
          exact ⟨by first | rfl | simp, below_drewN (below_drewN b6 _) _⟩
end Go.Proofs.YtoimhjcpeifegaaGreatDoor

