/- Contracts of functions, and plain facts, part 9. -/
import Derived.Deep.DeepCutAuto
import Derived.IntWalk
import Derived.Test.YtoimhjcpeifegaaGreatDoorPk6
import Derived.Test.YtoimhjcpeifegaaGreatDoorPk7
import Derived.Test.YtoimhjcpeifegaaGreatDoorPk8
set_option linter.unusedVariables false
set_option linter.unusedSimpArgs false
/- Printed by ieee3.py. -/
namespace Go.Proofs.YtoimhjcpeifegaaGreatDoor
open Go.RowKit

theorem low_32 (z : Int) (hz : 0 ≤ z ∧ z < 18446744073709551616) : bits .or .u64 (z % 8388608) 8388608 = 8388608 + z % 8388608 ∧ bits .and .u64 z 8388607 = z % 8388608 := by
  obtain ⟨z, rfl⟩ := Int.eq_ofNat_of_zero_le hz.1
  have e : bits .and .u64 (z : Int) ((8388607 : Nat) : Int) = ((z &&& 8388607 : Nat) : Int) := Go.bits_and_u64_nat z _ (by omega) (by omega)
  have h := Nat.and_two_pow_sub_one_eq_mod z 23
  rw [show (2 : Nat) ^ 23 = 8388608 from by decide, show 8388608 - 1 = 8388607 from by decide] at h
  rw [h] at e
  have h3 : z % 8388608 < 8388608 := Nat.mod_lt _ (by omega)
  have e2 : bits .or .u64 ((z % 8388608 : Nat) : Int) ((8388608 : Nat) : Int) = ((z % 8388608 ||| 8388608 : Nat) : Int) := Go.bits_or_u64_nat _ _ (by omega) (by omega)
  have h2 := Nat.two_pow_add_eq_or_of_lt (show z % 8388608 < 2 ^ 23 by rw [show (2 : Nat) ^ 23 = 8388608 from by decide]; exact h3) 1
  rw [Nat.mul_one, show (2 : Nat) ^ 23 = 8388608 from by decide, Nat.or_comm] at h2
  rw [← h2] at e2
  have e' : bits .and .u64 (z : Int) 8388607 = ((z % 8388608 : Nat) : Int) := e
  rw [e', show (z : Int) % 8388608 = ((z % 8388608 : Nat) : Int) by simp]
  exact ⟨e2.trans (by simp), rfl⟩

set_option maxRecDepth 20000 in
set_option maxHeartbeats 2000000 in
theorem parts_32 (w : World) (hS : Shapes w) (hT : Tab w) (x : Int) (hx : 0 ≤ x ∧ x < 4294967296) : Calls Tryz.prog 65 #[.int .u32 x] w (fun e w' => e = .returned (.tuple #[.bool (pNeg 32 x), .int .u64 (pM 32 x), .int .i64 (pE 32 x), .bool (pOk 32 x)]) ∧ Below w.heap.size w w') := by
  have H1 := Lib.hid (of_32 w hS)
  have H2 := Lib.hid (fun (w : World) (hS : Shapes w) => split_32 w hS x hx)
  have hz := size_bounds (W := 32) (by unfold Wide; omega) x ⟨hx.1, by exact hx.2⟩
  rw [sgn32] at hz
  have HM := Lib.hid (show pM 32 x = if pOk 32 x && !decide (sizeW 32 x = 0) then oddI (rawM 32 x) else 0 from rfl)
  have HE := Lib.hid (show pE 32 x = if pOk 32 x && !decide (sizeW 32 x = 0) then rawE 32 x + tzI (rawM 32 x) else 0 from rfl)
  have HN := Lib.hid (show pNeg 32 x = (pOk 32 x && negW 32 x) from rfl)
  have HO := Lib.hid (show pOk 32 x = decide (sizeW 32 x < 2139095040) by unfold pOk; rw [inf32])
  have HRM := Lib.hid (show rawM 32 x = (numM 23 (sizeW 32 x).toNat : Nat) from rfl)
  have HRE := Lib.hid (show rawE 32 x = -149 + (numP 23 (sizeW 32 x).toNat : Nat) from rfl)
  generalize pM 32 x = m at *
  generalize pE 32 x = p at *
  generalize pNeg 32 x = ng at *
  generalize pOk 32 x = ok at *
  generalize rawM 32 x = rm at *
  generalize rawE 32 x = re at *
  generalize sizeW 32 x = z at *
  generalize negW 32 x = n at *
  by_cases t1 : 2139095040 ≤ z
  · have E1 := Lib.hid (show ok = false by rw [HO.out]; simp; omega)
    have E2 := Lib.hid (show ng = false by rw [HN.out, E1.out]; rfl)
    have E3 := Lib.hid (show m = 0 by rw [HM.out, E1.out]; rfl)
    have E4 := Lib.hid (show p = 0 by rw [HE.out, E1.out]; rfl)
    clear HM HE HN HO HRM HRE
    go_enter Tryz.func65, Tryz.ntmps65
    go_wp2_with fail
    refine (H1.out).mono ?_
    rintro e w1 ⟨rfl, b1⟩
    have bA : Below w1.heap.size w1 (w1.alloc (.cells #[.int .i64 23, .int .i64 (-149), .int .i64 8] 95)) := (Below.refl _ _).alloc (Nat.le_refl _) _
    have sh2 : ShAt 23 (-149) 8 w1.heap.size (w1.alloc (.cells #[.int .i64 23, .int .i64 (-149), .int .i64 8] 95)) := ShAt.made _ _ _ _
    have HS2 := Lib.hid (H2.out (w1.alloc (.cells #[.int .i64 23, .int .i64 (-149), .int .i64 8] 95)) ((hS.below b1 (Nat.le_refl _)).below bA (Nat.le_refl _)))
    have hT2 := (hT.below b1 (Nat.le_refl _)).below bA (Nat.le_refl _)
    have b2 := below_trans b1 bA
    go_wp2_with fail
    refine (HS2.out).mono ?_
    rintro e w3 ⟨rfl, b3⟩
    have sh3 := sh2.below b3
    have hT3 := Lib.hid (hT2.below b3 (Nat.le_refl _))
    have b4 := below_trans b2 b3
    clear b3 sh2 hT2 b2 bA HS2
    generalize w1.heap.size = b at *
    obtain ⟨c0, c1, c2⟩ := sh3
    go_wp2_with fail
    refine (shinf_32 w3).mono ?_
    rintro e w5 ⟨rfl, b5⟩
    have sh5 := ShAt.below ⟨c0, c1, c2⟩ b5
    have hT5 := Lib.hid (hT3.out.below b5 (Nat.le_refl _))
    have b6 := below_trans b4 b5
    clear c0 c1 c2
    obtain ⟨c0, c1, c2⟩ := sh5
    go_wp2
    ((try simp only [Exit.inBlock, Exit.then]); refine bodyPost_ret (results_tmp4 rfl _ _ _) rfl ?_)
    rw [E1.out, E2.out, E3.out, E4.out]
    exact ⟨rfl, b6⟩
  · have E1 := Lib.hid (show ok = true by rw [HO.out]; simp; omega)
    have E2 := Lib.hid (show ng = n by rw [HN.out, E1.out]; rfl)
    by_cases t2 : z = 0
    · have E3 := Lib.hid (show m = 0 by rw [HM.out, t2]; simp)
      have E4 := Lib.hid (show p = 0 by rw [HE.out, t2]; simp)
      have t2' : (z == 0) = true := by simpa using t2
      clear HM HE HN HO HRM HRE t2
      go_enter Tryz.func65, Tryz.ntmps65
      go_wp2_with fail
      refine (H1.out).mono ?_
      rintro e w1 ⟨rfl, b1⟩
      have bA : Below w1.heap.size w1 (w1.alloc (.cells #[.int .i64 23, .int .i64 (-149), .int .i64 8] 95)) := (Below.refl _ _).alloc (Nat.le_refl _) _
      have sh2 : ShAt 23 (-149) 8 w1.heap.size (w1.alloc (.cells #[.int .i64 23, .int .i64 (-149), .int .i64 8] 95)) := ShAt.made _ _ _ _
      have HS2 := Lib.hid (H2.out (w1.alloc (.cells #[.int .i64 23, .int .i64 (-149), .int .i64 8] 95)) ((hS.below b1 (Nat.le_refl _)).below bA (Nat.le_refl _)))
      have hT2 := (hT.below b1 (Nat.le_refl _)).below bA (Nat.le_refl _)
      have b2 := below_trans b1 bA
      go_wp2_with fail
      refine (HS2.out).mono ?_
      rintro e w3 ⟨rfl, b3⟩
      have sh3 := sh2.below b3
      have hT3 := Lib.hid (hT2.below b3 (Nat.le_refl _))
      have b4 := below_trans b2 b3
      clear b3 sh2 hT2 b2 bA HS2
      generalize w1.heap.size = b at *
      obtain ⟨c0, c1, c2⟩ := sh3
      go_wp2_with fail
      refine (shinf_32 w3).mono ?_
      rintro e w5 ⟨rfl, b5⟩
      have sh5 := ShAt.below ⟨c0, c1, c2⟩ b5
      have hT5 := Lib.hid (hT3.out.below b5 (Nat.le_refl _))
      have b6 := below_trans b4 b5
      clear c0 c1 c2
      obtain ⟨c0, c1, c2⟩ := sh5
      go_wp2
      ((try simp only [Exit.inBlock, Exit.then]); refine bodyPost_ret (results_tmp4 rfl _ _ _) rfl ?_)
      rw [E1.out, E2.out, E3.out, E4.out]
      exact ⟨by first | rfl | simp, b6⟩
    · have t2' : (z == 0) = false := by simpa using t2
      have E3 := Lib.hid (show m = oddI rm by rw [HM.out, E1.out, decide_eq_false t2]; rfl)
      have E4 := Lib.hid (show p = re + tzI rm by rw [HE.out, E1.out, decide_eq_false t2]; rfl)
      have K1 : 0 < rm ∧ rm < 9007199254740992 := by
        rw [HRM.out]
        have h1 := numM_lt 23 z.toNat
        rw [show (2 : Nat) ^ (23 + 1) = 16777216 from by decide] at h1
        unfold numM at h1 ⊢
        rw [show (2 : Nat) ^ 23 = 8388608 from by decide] at h1 ⊢
        split at h1 <;> rename_i h2
        · rw [if_pos h2]; omega
        · rw [if_neg h2]; omega
      have K2 := odd_spec rm K1.1 (by omega)
      have K3 := Lib.hid (show oddI rm = rm / 2 ^ (tzI rm).toNat by unfold oddI tzI; rw [Int.toNat_natCast])
      have HL := low_32 z (by omega)
      have hre : -1074 ≤ re ∧ re ≤ 2048 := by
        rw [HRE.out]
        have h1 := numP_le (W := 32) (by unfold Wide; omega) z.toNat (by have := infW_eq (W := 32) (by unfold Wide; omega); rw [inf32] at this; omega)
        rw [show shF 32 = 23 from rfl, show (2 : Nat) ^ shE 32 = 256 from by decide] at h1
        omega
      have HTZ := Lib.hid (fun w hT => tz_calls rm ⟨K1.1, by omega⟩ w hT)
      obtain ⟨hL1, hL2⟩ := HL
      have V1 : IntKind.u64.wrap (8388608 + z % 8388608) = 8388608 + z % 8388608 := by rw [IntKind.wrap_u64]; omega
      have V2 : IntKind.i64.wrap (z / 8388608) = z / 8388608 := IntWalk.i64_in _ (by omega)
      have V3 : IntKind.i64.wrap (z / 8388608 - 1) = z / 8388608 - 1 := IntWalk.i64_in _ (by omega)
      have V4 : IntKind.i64.wrap (-149 + (z / 8388608 - 1)) = -149 + (z / 8388608 - 1) := IntWalk.i64_in _ (by omega)
      have V5 : IntKind.i64.wrap (re + tzI rm) = re + tzI rm := IntWalk.i64_in _ (by omega)
      obtain ⟨tz, htz⟩ : ∃ tz, tz = tzI rm := ⟨_, rfl⟩
      rw [← htz] at HTZ E4 K2 K3 V5
      have K4 := Lib.hid K2.1
      have hk5 := K2.2.2.2
      clear K2 htz HM HE HN HO t2
      rw [K3.out] at E3
      clear K3
      go_enter Tryz.func65, Tryz.ntmps65
      go_wp2_with fail
      refine (H1.out).mono ?_
      rintro e w1 ⟨rfl, b1⟩
      have bA : Below w1.heap.size w1 (w1.alloc (.cells #[.int .i64 23, .int .i64 (-149), .int .i64 8] 95)) := (Below.refl _ _).alloc (Nat.le_refl _) _
      have sh2 : ShAt 23 (-149) 8 w1.heap.size (w1.alloc (.cells #[.int .i64 23, .int .i64 (-149), .int .i64 8] 95)) := ShAt.made _ _ _ _
      have HS2 := Lib.hid (H2.out (w1.alloc (.cells #[.int .i64 23, .int .i64 (-149), .int .i64 8] 95)) ((hS.below b1 (Nat.le_refl _)).below bA (Nat.le_refl _)))
      have hT2 := (hT.below b1 (Nat.le_refl _)).below bA (Nat.le_refl _)
      have b2 := below_trans b1 bA
      go_wp2_with fail
      refine (HS2.out).mono ?_
      rintro e w3 ⟨rfl, b3⟩
      have sh3 := sh2.below b3
      have hT3 := Lib.hid (hT2.below b3 (Nat.le_refl _))
      have b4 := below_trans b2 b3
      clear b3 sh2 hT2 b2 bA HS2
      generalize w1.heap.size = b at *
      obtain ⟨c0, c1, c2⟩ := sh3
      go_wp2_with fail
      refine (shinf_32 w3).mono ?_
      rintro e w5 ⟨rfl, b5⟩
      have sh5 := ShAt.below ⟨c0, c1, c2⟩ b5
      have hT5 := Lib.hid (hT3.out.below b5 (Nat.le_refl _))
      have b6 := below_trans b4 b5
      clear c0 c1 c2
      obtain ⟨c0, c1, c2⟩ := sh5
      go_upto_region 7 with (fail)
      go_cut [3, 4] (fun s3 s4 wx => s3 = .int .u64 z ∧ s4 = .int .i64 (-149) ∧ ∃ q, wx = w5.drewN q)
      case first =>
        go_quiet (fail)
        go_wp2_with fail
        go_meet
        case rel => exact ⟨rfl, rfl, _, rfl⟩
      case rest =>
        obtain ⟨rfl, rfl, q, rfl⟩ := hcut
        go_upto_if 33 with (fail)
        go_cut [3, 4] (fun s3 s4 wx => s3 = .int .u64 rm ∧ s4 = .int .i64 re ∧ ∃ q, wx = w5.drewN q)
        case first =>
          by_cases hk : z < 8388608
          · have hk1 : z / 8388608 = 0 := by omega
            have E5 := Lib.hid (show rm = z by rw [HRM.out]; unfold numM; rw [if_pos (by rw [show (2 : Nat) ^ 23 = 8388608 from by decide]; omega)]; omega)
            have E6 := Lib.hid (show re = -149 by rw [HRE.out]; unfold numP; rw [if_pos (by rw [show (2 : Nat) ^ 23 = 8388608 from by decide]; omega)]; rfl)
            go_wp2_with fail
            go_meet
            case rel => exact ⟨by rw [E5.out], by rw [E6.out], _, rfl⟩
          · have hk1 : 0 < z / 8388608 := by omega
            have E5 := Lib.hid (show rm = 8388608 + z % 8388608 by rw [HRM.out]; unfold numM; rw [if_neg (by rw [show (2 : Nat) ^ 23 = 8388608 from by decide]; omega), show (2 : Nat) ^ 23 = 8388608 from by decide]; omega)
            have E6 := Lib.hid (show re = -149 + (z / 8388608 - 1) by rw [HRE.out]; unfold numP; rw [if_neg (by rw [show (2 : Nat) ^ 23 = 8388608 from by decide]; omega), show (2 : Nat) ^ 23 = 8388608 from by decide]; omega)
            go_wp2_with fail
            go_quiet (fail)
            go_wp2_with fail
            go_meet
            case rel => exact ⟨by first | (rw [E5.out]; done) | (rw [E5.out]; simp), by rw [E6.out], _, by first | rfl | exact World.drewN_drewN ..⟩
        case rest =>
          obtain ⟨rfl, rfl, q', rfl⟩ := hcut
          have HTZ2 := Lib.hid (HTZ.out (w5.drewN q') (hT5.out.below (below_drewN (Below.refl w5.heap.size w5) q') (Nat.le_refl _)))
          go_wp2_with fail
          refine (HTZ2.out).mono ?_
          rintro e w' ⟨rfl, rfl⟩
          go_wp2_with fail
          go_quiet (fail)
          go_wp2_with fail
          ((try simp only [Exit.inBlock, Exit.then]); refine bodyPost_ret (results_tmp4 rfl _ _ _) rfl ?_)
          rw [E1.out, E2.out, E3.out, E4.out]
          exact ⟨by first | rfl | simp, below_drewN (below_drewN b6 _) _⟩
end Go.Proofs.YtoimhjcpeifegaaGreatDoor


/- Printed by ieee3.py. -/
namespace Go.Proofs.YtoimhjcpeifegaaGreatDoor
open Go.RowKit

set_option maxRecDepth 100000 in
set_option maxHeartbeats 4000000 in
theorem round_64 (w : World) (hS : Shapes w) (neg : Bool) (ad : Option Addr) (n c : Nat) (V p : Int) (more : Bool) (h : Num w ad n c V) (hn : n ≤ 1099511627776) (hp : -9223372036854775808 ≤ p ∧ p < 9223372036854775808) :
    Calls Tryz.prog 62 #[.bool neg, .slice ad n c, .int .i64 p, .bool more] w (fun e w' => e = .returned (.int .u64 (roundW 64 neg V p more)) ∧ Below w.heap.size w w') := by
  have HW := Lib.hid (show Wide 64 by unfold Wide; omega)
  have HSn := Lib.hid (fun (w : World) (hS : Shapes w) (z : Int) (hz : 0 ≤ z ∧ z < 9223372036854775808) => signed_64 w hS neg z hz)
  have HIn := Lib.hid (shinf_64)
  have HIW := Lib.hid (show (9218868437227405312 : Int) = (infN 64 : Nat) by decide)
  have hN := h.bits_le
  have hV := h.nonneg
  have HVn := Lib.hid h.lt
  obtain ⟨N, hNe⟩ : ∃ N, N = bitsOf V := ⟨_, rfl⟩
  rw [← hNe] at hN
  have HN0 := Lib.hid (show N = 0 ↔ V = 0 by rw [hNe]; exact bits_zero_iff V hV)
  have HNe := Lib.hid hNe
  clear hNe
  have HR := Lib.hid (show roundW 64 neg V p more = (if neg then sgnW 64 else 0) + (nearE 64 (rM V more) (rE p more) : Nat) from rfl)
  generalize roundW 64 neg V p more = R at *
  generalize (if neg then sgnW 64 else 0) = sg at *
  have H1 := Lib.hid (of_64 w hS)
  go_enter Tryz.func62, Tryz.ntmps62
  go_wp2_with fail
  refine (H1.out).mono ?_
  rintro e w1 ⟨rfl, b1⟩
  have bA : Below w1.heap.size w1 (w1.alloc (.cells #[.int .i64 52, .int .i64 (-1074), .int .i64 11] 95)) := (Below.refl _ _).alloc (Nat.le_refl _) _
  have sh2 : ShAt 52 (-1074) 11 w1.heap.size (w1.alloc (.cells #[.int .i64 52, .int .i64 (-1074), .int .i64 11] 95)) := ShAt.made _ _ _ _
  have h2 := (h.below b1 (Nat.le_refl _)).below bA (Nat.le_refl _)
  have hS2 := (hS.below b1 (Nat.le_refl _)).below bA (Nat.le_refl _)
  have b2 := below_trans b1 bA
  have HLen := Lib.hid (num_len ad n c V _ h2 (by omega))
  rw [← HNe.out] at HLen
  clear h hS bA b1
  go_wp2_with fail
  refine (HLen.out).mono ?_
  rintro e w' ⟨rfl, rfl⟩
  clear HLen
  generalize (w1.alloc (.cells #[.int .i64 52, .int .i64 (-1074), .int .i64 11] 95)) = w2 at *
  generalize w1.heap.size = b at *
  obtain ⟨c0, c1, c2⟩ := sh2
  by_cases hz : V = 0 ∧ more = false
  · obtain ⟨rfl, rfl⟩ := hz
    obtain rfl : N = 0 := HN0.out.2 rfl
    have HE := Lib.hid (show R = sg by rw [HR.out]; show sg + (nearE 64 0 p : Int) = _; rw [nearE_zero HW.out]; omega)
    go_wp2_with fail
    refine (HSn.out w2 hS2 0 (by omega)).mono ?_
    rintro e w3 ⟨rfl, b3⟩
    go_wp2
    go_ret
    rw [HE.out]
    exact ⟨rfl, below_trans b2 b3⟩
  · have HZ := Lib.hid hz
    have HZ2 : Hid (N = 0 → more = true) := fun hN0 => by
      have := HN0.out.1 hN0
      cases more
      · exact absurd ⟨this, rfl⟩ hz
      · rfl
    clear hz
    go_upto_region 3 with (fail)
    go_cut [20] (fun s20 wx => s20 = .bool false ∧ w2 = wx)
    case first =>
      by_cases hn0 : N = 0
      · obtain rfl := HZ2.out hn0
        subst hn0
        go_wp2_with fail
        go_meet
        case rel => exact ⟨rfl, rfl⟩
      · have hn1 : (N == 0) = false := by simpa using hn0
        clear hn0
        go_wp2_with fail
        go_meet
        case rel => exact ⟨rfl, rfl⟩
    case rest =>
      obtain ⟨rfl, rfl⟩ := hcut
      by_cases hp1 : 2000 < p
      · have HE := Lib.hid (show R = sg + 9218868437227405312 by rw [HR.out, prog_big HW.out V p more hV HZ.out hp1, HIW.out])
        go_wp2_with fail
        refine (HIn.out _).mono ?_
        rintro e w3 ⟨rfl, b3⟩
        go_wp2_with fail
        refine (HSn.out w3 (hS2.below b3 (Nat.le_refl _)) 9218868437227405312 (by omega)).mono ?_
        rintro e w4 ⟨rfl, b4⟩
        go_wp2
        go_ret
        rw [HE.out]
        exact ⟨rfl, below_trans b2 (below_trans b3 b4)⟩
      · have W1 : IntKind.i64.wrap (-3000 - N) = -3000 - N := IntWalk.i64_in _ (by omega)
        by_cases hp2 : p < -3000 - N
        · have HE := Lib.hid (show R = sg by rw [HR.out, prog_zero HW.out V p more hV (by rw [← HNe.out]; exact hp2)]; omega)
          go_wp2_with fail
          refine (HSn.out w2 hS2 0 (by omega)).mono ?_
          rintro e w3 ⟨rfl, b3⟩
          go_wp2
          go_ret
          rw [HE.out]
          exact ⟨rfl, below_trans b2 b3⟩
        · go_upto_if 43 with (fail)
          go_cut [1, 2, 10] (fun s1 s2 s10 wx => ∃ ad' n' c' M p' N', s1 = .slice ad' n' c' ∧ s2 = .int .i64 p' ∧ s10 = .int .i64 N' ∧ PNum 64 52 (-1074) 11 b w wx (nearE 64 (rM V more) (rE p more)) ad' n' c' M p' N')
          case first =>
            cases more
            · have hV0 : 0 < V := by have := HZ.out; simp at this; omega
              go_wp2_with fail
              go_meet
              case rel => exact ⟨_, _, _, _, _, _, rfl, rfl, rfl, h2, hV0, by omega, by omega, by omega, HNe.out, rfl, ⟨c0, c1, c2⟩, hS2, b2⟩
            · have NE : Hid (nearE 64 (rM V true) (rE p true) = nearE 64 (V + V + 1).toNat (p - 1)) := by
                show nearE 64 (2 * V.toNat + 1) (p - 1) = _
                rw [show (V + V + 1).toNat = 2 * V.toNat + 1 by omega]
              have NB := Lib.hid (show N + 1 = bitsOf (V + V + 1) by rw [bitsOf_double V hV, HNe.out])
              have A1 := Lib.hid (num_add ad ad n n c c V V w2 h2 h2 (by omega) (by omega))
              have L1 := Lib.hid (double_lt hV HVn.out)
              go_wp2_with fail
              refine (A1.out).mono ?_
              rintro e w3 ⟨ad3, n3, c3, rfl, f3, b3⟩
              have l3 := f3.len_le (n + 1) (by have := L1.out; omega)
              have bB : Below w3.heap.size w3 (w3.alloc (.cells #[.int .u32 1] 23)) := (Below.refl _ _).alloc (Nat.le_refl _) _
              have A2 := Lib.hid (num_add ad3 _ n3 1 c3 1 (V + V) 1 _ ((f3.num (by omega)).below bB (Nat.le_refl _)) (num_one w3) (by omega) (by omega))
              go_wp2_with fail
              refine (A2.out).mono ?_
              rintro e w4 ⟨ad4, n4, c4, rfl, f4, b4⟩
              have l4 := f4.len_le (n + 1) L1.out
              have b24 := below_trans b3 (below_trans bB b4)
              have W2 : IntKind.i64.wrap (p - 1) = p - 1 := IntWalk.i64_in _ (by omega)
              have W3 : IntKind.i64.wrap (N + 1) = N + 1 := IntWalk.i64_in _ (by omega)
              go_wp2_with fail
              go_meet
              case rel => exact ⟨_, _, _, _, _, _, rfl, rfl, rfl, f4.num (by omega), by omega, by omega, by omega, by omega, NB.out, NE.out, ShAt.below ⟨c0, c1, c2⟩ b24, hS2.below b24 (Nat.le_refl _), below_trans b2 b24⟩
          case rest =>
            obtain ⟨ad3, n3, c3, M, p3, N3, rfl, rfl, rfl, hm⟩ := hcut
            have hpos := hm.pos
            have hbd := hm.bd
            have hnb := hm.nb
            have hlen := hm.len
            have HM := Lib.hid hm
            clear hm
            obtain ⟨w5, hw5⟩ : ∃ x, x = wc := ⟨_, rfl⟩
            subst hw5
            obtain ⟨last, hmax⟩ : ∃ last, max (N3 - 52 - 1 + p3) (-1074) = last := ⟨_, rfl⟩
            have hl1 : N3 - 52 - 1 + p3 ≤ last := by omega
            have hl2 : -1074 ≤ last := by omega
            have HL3 := Lib.hid (show last = -1074 ∨ last = N3 - 52 - 1 + p3 by omega)
            have hl4 : last ≤ 1125899906852625 := by omega
            obtain ⟨c0, c1, c2⟩ := HM.out.sh
            have W1 : IntKind.i64.wrap (N3 - 52) = N3 - 52 := IntWalk.i64_in _ (by omega)
            have W2 : IntKind.i64.wrap (N3 - 52 - 1) = N3 - 52 - 1 := IntWalk.i64_in _ (by omega)
            have W3 : IntKind.i64.wrap (N3 - 52 - 1 + p3) = N3 - 52 - 1 + p3 := IntWalk.i64_in _ (by omega)
            have W4 : IntKind.i64.wrap (last - (-1074)) = last - (-1074) := IntWalk.i64_in _ (by omega)
            go_upto_region 13 with (fail)
            clear W1 W2 W3 hmax
            have e1 : shF 64 = 52 := rfl
            have e2 : shL 64 = -1074 := rfl
            have e3 : (2 : Int) ^ shE 64 = 2046 + 2 := by decide
            have HK := Lib.hid (And.intro e1 (And.intro e2 e3))
            clear e1 e2 e3
            by_cases hd : 2046 ≤ last - (-1074)
            · have HE := Lib.hid (show R = sg + 9218868437227405312 by
                rw [HR.out, HM.out.near.out, prog_inf HW.out M p3 last hpos (by rw [HK.out.1, ← HM.out.bits.out]; have := HL3.out; omega) (by rw [HK.out.2.1, HK.out.2.2]; omega), HIW.out])
              have hd2 : decide (2046 ≤ last + 1074) = true := decide_eq_true (by omega)
              go_cut [71] (fun s71 wx => s71 = .bool true ∧ PNum 64 52 (-1074) 11 b w wx (nearE 64 (rM V more) (rE p more)) ad3 n3 c3 M p3 N3)
              case first =>
                go_quiet (fail)
                go_wp2_with fail
                go_meet
                case rel => exact ⟨by first | rfl | rw [hd2], HM.out.below (below_drewN (Below.refl _ _) _)⟩
              case rest =>
                obtain ⟨rfl, hm6⟩ := hcut
                obtain ⟨c0, c1, c2⟩ := hm6.sh
                have HM6 := Lib.hid hm6
                clear hm6
                go_wp2_with fail
                refine (HIn.out _).mono ?_
                rintro e w7 ⟨rfl, b7⟩
                have HM7 := Lib.hid (HM6.out.below b7)
                go_wp2_with fail
                refine (HSn.out w7 HM7.out.shp 9218868437227405312 (by omega)).mono ?_
                rintro e w8 ⟨rfl, b8⟩
                go_wp2
                go_ret
                rw [HE.out]
                exact ⟨rfl, below_trans HM7.out.bel b8⟩
            · have hd2 : decide (2046 ≤ last + 1074) = false := decide_eq_false (by omega)
              go_cut [71] (fun s71 wx => s71 = .bool false ∧ PNum 64 52 (-1074) 11 b w wx (nearE 64 (rM V more) (rE p more)) ad3 n3 c3 M p3 N3)
              case first =>
                go_quiet (fail)
                go_wp2_with fail
                go_meet
                case rel => exact ⟨by first | rfl | rw [hd2], HM.out.below (below_drewN (Below.refl _ _) _)⟩
              case rest =>
                obtain ⟨rfl, hm6⟩ := hcut
                obtain ⟨w6, hw6⟩ : ∃ x, x = wc := ⟨_, rfl⟩
                subst hw6
                have HM6 := Lib.hid hm6
                clear hm6 c0 c1 c2 HM
                generalize nearE 64 (rM V more) (rE p more) = T at *
                go_upto_if 78 with (fail)
                go_cut [12] (fun s12 wx => ∃ kept : Int, s12 = .int .u64 kept ∧ (0 ≤ kept ∧ kept ≤ 9007199254740992) ∧ Hid ((T : Int) = (last - (-1074)) * 4503599627370496 + kept) ∧ (last = -1074 ∨ 4503599627370496 ≤ kept) ∧ PAt 52 (-1074) 11 b w wx)
                case first =>
                  by_cases hlp : last ≤ p3
                  · have K := prog_exact HW.out M p3 N3 last (last - (-1074)) hpos HM6.out.bits.out (by rw [HK.out.1]; exact hl1) (by rw [HK.out.2.1]) (by omega) (by rw [HK.out.2.2]; omega) (by rw [HK.out.1]; have := HL3.out; omega) hlp
                    rw [HK.out.1, show (2 : Int) ^ 52 = 4503599627370496 from by decide, show (2 : Int) ^ (52 + 1) = 9007199254740992 from by decide, ← HM6.out.near.out] at K
                    obtain ⟨kp, hkp⟩ : ∃ kp, M * 2 ^ (p3 - last).toNat = kp := ⟨_, rfl⟩
                    rw [hkp] at K
                    obtain ⟨K1, K2, K3, K4⟩ := K
                    have hkp0 : 0 ≤ kp := by rw [← hkp]; exact Int.mul_nonneg (by omega) (Int.le_of_lt (Int.pow_pos (by omega)))
                    have HU := num_uint ad3 n3 c3 M w6 HM6.out.num (by omega)
                    rw [show low64 M = M by unfold low64; rw [if_pos (by omega)]] at HU
                    generalize fits64 M = ff at *
                    have HU1 := Lib.hid HU
                    have K1' := Lib.hid K1
                    have W5 : IntKind.i64.wrap (p3 - last) = p3 - last := IntWalk.i64_in _ (by omega)
                    have W6 : IntKind.u64.wrap kp = kp := by rw [IntKind.wrap_u64]; omega
                    have W7 : kp % 18446744073709551616 = kp := by omega
                    clear HU K1
                    go_wp2_with fail
                    refine (HU1.out).mono ?_
                    rintro e w' ⟨rfl, rfl⟩
                    go_wp2_with fail
                    go_meet
                    case rel => exact ⟨kp, rfl, by omega, K1'.out, by omega, HM6.out.sh, HM6.out.shp, HM6.out.bel⟩
                  · obtain ⟨q, hq⟩ : ∃ q, q = M / 2 ^ (last - p3 - 1).toNat := ⟨_, rfl⟩
                    obtain ⟨rest, hr⟩ : ∃ rest, rest = decide (M % 2 ^ (last - p3 - 1).toNat ≠ 0) := ⟨_, rfl⟩
                    have K := prog_cut HW.out M p3 N3 last (last - (-1074)) q hpos HM6.out.bits.out (by rw [HK.out.1]; exact hl1) (by rw [HK.out.2.1]) (by omega) (by rw [HK.out.2.2]; omega) (by rw [HK.out.1]; have := HL3.out; omega) (by omega) hq rest hr
                    rw [HK.out.1, show (2 : Int) ^ 52 = 4503599627370496 from by decide, show (2 : Int) ^ (52 + 2) = 18014398509481984 from by decide, ← HM6.out.near.out] at K
                    obtain ⟨K1, K2, K3, K4⟩ := K
                    have HS := num_shr ad3 n3 c3 M (last - p3 - 1) w6 HM6.out.num (by omega) (by omega)
                    rw [show shrNum M (last - p3 - 1) = q by unfold shrNum; rw [if_pos (by omega), hq], show shrMore M (last - p3 - 1) = rest by unfold shrMore; rw [decide_eq_true (by omega : 0 ≤ last - p3 - 1), Bool.true_and, hr]] at HS
                    have HS1 := Lib.hid HS
                    have K1' := Lib.hid K1
                    clear HS K1 hq hr
                    have W5 : IntKind.i64.wrap (last - p3) = last - p3 := IntWalk.i64_in _ (by omega)
                    have W6 : IntKind.i64.wrap (last - p3 - 1) = last - p3 - 1 := IntWalk.i64_in _ (by omega)
                    go_wp2_with fail
                    refine (HS1.out).mono ?_
                    rintro e w7 ⟨adq, lq, cq, rfl, fq, b7⟩
                    have hlq := fq.len_le 2 (Int.lt_of_lt_of_le K3 (by decide))
                    have HU := num_uint adq lq cq q w7 (fq.num K2) (by omega)
                    rw [show low64 q = q by unfold low64; rw [if_pos (by omega)]] at HU
                    generalize fits64 q = ff at *
                    have HU1 := Lib.hid HU
                    have HM7 := Lib.hid (HM6.out.below b7)
                    clear HU W5 W6
                    go_wp2_with fail
                    refine (HU1.out).mono ?_
                    rintro e w' ⟨rfl, rfl⟩
                    have A1 := and_one q ⟨K2, by omega⟩
                    have A2 := and_one (q / 2) ⟨by omega, by omega⟩
                    have W5 : IntKind.u64.wrap (q / 2 + 1) = q / 2 + 1 := by rw [IntKind.wrap_u64]; omega
                    have W6 : (q / 2 + 1) % 18446744073709551616 = q / 2 + 1 := by omega
                    by_cases hodd : q % 2 = 1
                    · have hc1 : rest = true ∨ (rest = false ∧ q / 2 % 2 = 1) ∨ (rest = false ∧ q / 2 % 2 = 0) := by cases rest <;> simp <;> omega
                      rcases hc1 with rfl | ⟨rfl, he⟩ | ⟨rfl, he⟩
                      · have K5 := Lib.hid (show (T : Int) = (last - (-1074)) * 4503599627370496 + (q / 2 + 1) by rw [K1'.out, if_pos ⟨hodd, .inl rfl⟩])
                        rw [hodd] at A1
                        go_wp2_with fail
                        go_meet
                        case rel => exact ⟨q / 2 + 1, rfl, by omega, K5.out, by omega, HM7.out.sh, HM7.out.shp, HM7.out.bel⟩
                      · have K5 := Lib.hid (show (T : Int) = (last - (-1074)) * 4503599627370496 + (q / 2 + 1) by rw [K1'.out, if_pos ⟨hodd, .inr he⟩])
                        rw [hodd] at A1
                        rw [he] at A2
                        go_wp2_with fail
                        go_meet
                        case rel => exact ⟨q / 2 + 1, rfl, by omega, K5.out, by omega, HM7.out.sh, HM7.out.shp, HM7.out.bel⟩
                      · have K5 := Lib.hid (show (T : Int) = (last - (-1074)) * 4503599627370496 + q / 2 by rw [K1'.out, if_neg (by rintro ⟨-, h | h⟩; exact absurd h (by decide); omega)])
                        rw [hodd] at A1
                        rw [he] at A2
                        go_wp2_with fail
                        go_meet
                        case rel => exact ⟨q / 2, rfl, by omega, K5.out, by omega, HM7.out.sh, HM7.out.shp, HM7.out.bel⟩
                    · have K5 := Lib.hid (show (T : Int) = (last - (-1074)) * 4503599627370496 + q / 2 by rw [K1'.out, if_neg (fun h => hodd h.1)])
                      rw [show q % 2 = 0 by omega] at A1
                      clear hodd
                      go_wp2_with fail
                      go_meet
                      case rel => exact ⟨q / 2, rfl, by omega, K5.out, by omega, HM7.out.sh, HM7.out.shp, HM7.out.bel⟩
                case rest =>
                  obtain ⟨kept, rfl, hk, HT, hor, hat⟩ := hcut
                  obtain ⟨w8, hw8⟩ : ∃ x, x = wc := ⟨_, rfl⟩
                  subst hw8
                  obtain ⟨sh8, hS8, b8⟩ := hat
                  obtain ⟨c0, c1, c2⟩ := sh8
                  clear HM6
                  by_cases hk0 : kept < 4503599627370496
                  · have HE := Lib.hid (show R = sg + kept by rw [HR.out, HT.out]; omega)
                    have hk1 : (kept / 4503599627370496 == 0) = true := by simp; omega
                    clear HT
                    go_wp2_with fail
                    refine (HSn.out w8 hS8 kept (by omega)).mono ?_
                    rintro e w9 ⟨rfl, b9⟩
                    go_wp2
                    go_ret
                    rw [HE.out]
                    exact ⟨rfl, below_trans b8 b9⟩
                  · have HE := Lib.hid (show R = sg + ((last + 1074) * 4503599627370496 + kept) by rw [HR.out, HT.out]; omega)
                    have hk1 : (kept / 4503599627370496 == 0) = false := by simp; omega
                    have W5 : IntKind.u64.wrap (last + 1074) = last + 1074 := by rw [IntKind.wrap_u64]; omega
                    have W6 : IntKind.u64.wrap ((last + 1074) * 4503599627370496) = (last + 1074) * 4503599627370496 := by rw [IntKind.wrap_u64]; omega
                    have W7 : IntKind.u64.wrap ((last + 1074) * 4503599627370496 + kept) = (last + 1074) * 4503599627370496 + kept := by rw [IntKind.wrap_u64]; omega
                    have V5 : (last + 1074) % 18446744073709551616 = last + 1074 := by omega
                    have V6 : (last + 1074) * 4503599627370496 % 18446744073709551616 = (last + 1074) * 4503599627370496 := by omega
                    have V7 : ((last + 1074) * 4503599627370496 + kept) % 18446744073709551616 = (last + 1074) * 4503599627370496 + kept := by omega
                    clear HT
                    go_wp2_with fail
                    refine (HSn.out w8 hS8 ((last + 1074) * 4503599627370496 + kept) (by omega)).mono ?_
                    rintro e w9 ⟨rfl, b9⟩
                    go_wp2
                    go_ret
                    rw [HE.out]
                    exact ⟨rfl, below_trans b8 b9⟩
end Go.Proofs.YtoimhjcpeifegaaGreatDoor


/- Printed by ieee2.py. -/
namespace Go.Proofs.YtoimhjcpeifegaaGreatDoor
open Go.RowKit

theorem class_16 (w : World) (hS : Shapes w) (x : Int) (hx : 0 ≤ x ∧ x < 65536) : Calls Tryz.prog 56 #[.int .u16 x] w (fun e w' => e = .returned (.int .i8 (clsW 16 x)) ∧ Below w.heap.size w w') := by
  have HC := Lib.hid (show clsW 16 x = if 31744 < sizeW 16 x then 5 else if sizeW 16 x = 31744 then 4 else if sizeW 16 x = 0 then 1 else if sizeW 16 x < 1024 then 2 else 3 by unfold clsW; rw [inf16, show (2 : Int) ^ shF 16 = 1024 from by decide])
  have H1 := Lib.hid (of_16 w hS)
  have H2 := Lib.hid (fun (w : World) (hS : Shapes w) => split_16 w hS x hx)
  have hz0 := (size_bounds (W := 16) (by unfold Wide; omega) x ⟨hx.1, by exact hx.2⟩).1
  generalize clsW 16 x = C at *
  generalize sizeW 16 x = z at *
  by_cases t1 : 31744 < z
  · have HR := Lib.hid (show C = 5 by rw [HC.out, if_pos t1])
    clear HC
    go_enter Tryz.func56, Tryz.ntmps56
    go_wp2_with fail
    refine (H1.out).mono ?_
    rintro e w1 ⟨rfl, b1⟩
    have bA : Below w1.heap.size w1 (w1.alloc (.cells #[.int .i64 10, .int .i64 (-24), .int .i64 5] 95)) := (Below.refl _ _).alloc (Nat.le_refl _) _
    have c0 : (w1.alloc (.cells #[.int .i64 10, .int .i64 (-24), .int .i64 5] 95)).cell? ⟨w1.heap.size, 0, none⟩ = some (.int .i64 (10)) := World.cell?_alloc_at _ _ _ _ rfl
    have c1 : (w1.alloc (.cells #[.int .i64 10, .int .i64 (-24), .int .i64 5] 95)).cell? ⟨w1.heap.size, 1, none⟩ = some (.int .i64 (-24)) := World.cell?_alloc_at _ _ _ _ rfl
    have c2 : (w1.alloc (.cells #[.int .i64 10, .int .i64 (-24), .int .i64 5] 95)).cell? ⟨w1.heap.size, 2, none⟩ = some (.int .i64 (5)) := World.cell?_alloc_at _ _ _ _ rfl
    have HS2 := Lib.hid (H2.out (w1.alloc (.cells #[.int .i64 10, .int .i64 (-24), .int .i64 5] 95)) ((hS.below b1 (Nat.le_refl _)).below bA (Nat.le_refl _)))
    go_wp2_with fail
    refine (HS2.out).mono ?_
    rintro e w2 ⟨rfl, b2⟩
    have d0 := below_cell b2 (Nat.le_refl _) c0
    have d1 := below_cell b2 (Nat.le_refl _) c1
    have d2 := below_cell b2 (Nat.le_refl _) c2
    have b2' := below_trans bA b2
    go_wp2_with fail
    refine (shinf_16 w2).mono ?_
    rintro e w3 ⟨rfl, b3⟩
    have e0 := below_cell b3 (Nat.le_refl _) d0
    have e1 := below_cell b3 (Nat.le_refl _) d1
    have e2 := below_cell b3 (Nat.le_refl _) d2
    go_wp2
    go_ret
    rw [HR.out]
    exact ⟨rfl, below_trans b1 (below_trans b2' b3)⟩
  · by_cases t2 : z = 31744
    · have HR := Lib.hid (show C = 4 by rw [HC.out, if_neg t1, if_pos t2])
      have t2' : (z == 31744) = true := by simpa using t2
      clear HC t2
      go_enter Tryz.func56, Tryz.ntmps56
      go_wp2_with fail
      refine (H1.out).mono ?_
      rintro e w1 ⟨rfl, b1⟩
      have bA : Below w1.heap.size w1 (w1.alloc (.cells #[.int .i64 10, .int .i64 (-24), .int .i64 5] 95)) := (Below.refl _ _).alloc (Nat.le_refl _) _
      have c0 : (w1.alloc (.cells #[.int .i64 10, .int .i64 (-24), .int .i64 5] 95)).cell? ⟨w1.heap.size, 0, none⟩ = some (.int .i64 (10)) := World.cell?_alloc_at _ _ _ _ rfl
      have c1 : (w1.alloc (.cells #[.int .i64 10, .int .i64 (-24), .int .i64 5] 95)).cell? ⟨w1.heap.size, 1, none⟩ = some (.int .i64 (-24)) := World.cell?_alloc_at _ _ _ _ rfl
      have c2 : (w1.alloc (.cells #[.int .i64 10, .int .i64 (-24), .int .i64 5] 95)).cell? ⟨w1.heap.size, 2, none⟩ = some (.int .i64 (5)) := World.cell?_alloc_at _ _ _ _ rfl
      have HS2 := Lib.hid (H2.out (w1.alloc (.cells #[.int .i64 10, .int .i64 (-24), .int .i64 5] 95)) ((hS.below b1 (Nat.le_refl _)).below bA (Nat.le_refl _)))
      go_wp2_with fail
      refine (HS2.out).mono ?_
      rintro e w2 ⟨rfl, b2⟩
      have d0 := below_cell b2 (Nat.le_refl _) c0
      have d1 := below_cell b2 (Nat.le_refl _) c1
      have d2 := below_cell b2 (Nat.le_refl _) c2
      have b2' := below_trans bA b2
      go_wp2_with fail
      refine (shinf_16 w2).mono ?_
      rintro e w3 ⟨rfl, b3⟩
      have e0 := below_cell b3 (Nat.le_refl _) d0
      have e1 := below_cell b3 (Nat.le_refl _) d1
      have e2 := below_cell b3 (Nat.le_refl _) d2
      go_wp2_with fail
      refine (shinf_16 w3).mono ?_
      rintro e w4 ⟨rfl, b4⟩
      have g0 := below_cell b4 (Nat.le_refl _) e0
      have g1 := below_cell b4 (Nat.le_refl _) e1
      have g2 := below_cell b4 (Nat.le_refl _) e2
      go_wp2
      go_ret
      rw [HR.out]
      exact ⟨rfl, below_trans b1 (below_trans b2' (below_trans b3 b4))⟩
    · have t2' : (z == 31744) = false := by simpa using t2
      by_cases t3 : z = 0
      · have HR := Lib.hid (show C = 1 by rw [HC.out, if_neg t1, if_neg t2, if_pos t3])
        have t3' : (z == 0) = true := by simpa using t3
        clear HC t3 t2
        go_enter Tryz.func56, Tryz.ntmps56
        go_wp2_with fail
        refine (H1.out).mono ?_
        rintro e w1 ⟨rfl, b1⟩
        have bA : Below w1.heap.size w1 (w1.alloc (.cells #[.int .i64 10, .int .i64 (-24), .int .i64 5] 95)) := (Below.refl _ _).alloc (Nat.le_refl _) _
        have c0 : (w1.alloc (.cells #[.int .i64 10, .int .i64 (-24), .int .i64 5] 95)).cell? ⟨w1.heap.size, 0, none⟩ = some (.int .i64 (10)) := World.cell?_alloc_at _ _ _ _ rfl
        have c1 : (w1.alloc (.cells #[.int .i64 10, .int .i64 (-24), .int .i64 5] 95)).cell? ⟨w1.heap.size, 1, none⟩ = some (.int .i64 (-24)) := World.cell?_alloc_at _ _ _ _ rfl
        have c2 : (w1.alloc (.cells #[.int .i64 10, .int .i64 (-24), .int .i64 5] 95)).cell? ⟨w1.heap.size, 2, none⟩ = some (.int .i64 (5)) := World.cell?_alloc_at _ _ _ _ rfl
        have HS2 := Lib.hid (H2.out (w1.alloc (.cells #[.int .i64 10, .int .i64 (-24), .int .i64 5] 95)) ((hS.below b1 (Nat.le_refl _)).below bA (Nat.le_refl _)))
        go_wp2_with fail
        refine (HS2.out).mono ?_
        rintro e w2 ⟨rfl, b2⟩
        have d0 := below_cell b2 (Nat.le_refl _) c0
        have d1 := below_cell b2 (Nat.le_refl _) c1
        have d2 := below_cell b2 (Nat.le_refl _) c2
        have b2' := below_trans bA b2
        go_wp2_with fail
        refine (shinf_16 w2).mono ?_
        rintro e w3 ⟨rfl, b3⟩
        have e0 := below_cell b3 (Nat.le_refl _) d0
        have e1 := below_cell b3 (Nat.le_refl _) d1
        have e2 := below_cell b3 (Nat.le_refl _) d2
        go_wp2_with fail
        refine (shinf_16 w3).mono ?_
        rintro e w4 ⟨rfl, b4⟩
        have g0 := below_cell b4 (Nat.le_refl _) e0
        have g1 := below_cell b4 (Nat.le_refl _) e1
        have g2 := below_cell b4 (Nat.le_refl _) e2
        go_wp2
        go_ret
        rw [HR.out]
        exact ⟨rfl, below_trans b1 (below_trans b2' (below_trans b3 b4))⟩
      · have t3' : (z == 0) = false := by simpa using t3
        by_cases t4 : z < 1024
        · have HR := Lib.hid (show C = 2 by rw [HC.out, if_neg t1, if_neg t2, if_neg t3, if_pos t4])
          have t4' : (z / 1024 == 0) = true := by simp; omega
          clear HC t3 t2 t4
          go_enter Tryz.func56, Tryz.ntmps56
          go_wp2_with fail
          refine (H1.out).mono ?_
          rintro e w1 ⟨rfl, b1⟩
          have bA : Below w1.heap.size w1 (w1.alloc (.cells #[.int .i64 10, .int .i64 (-24), .int .i64 5] 95)) := (Below.refl _ _).alloc (Nat.le_refl _) _
          have c0 : (w1.alloc (.cells #[.int .i64 10, .int .i64 (-24), .int .i64 5] 95)).cell? ⟨w1.heap.size, 0, none⟩ = some (.int .i64 (10)) := World.cell?_alloc_at _ _ _ _ rfl
          have c1 : (w1.alloc (.cells #[.int .i64 10, .int .i64 (-24), .int .i64 5] 95)).cell? ⟨w1.heap.size, 1, none⟩ = some (.int .i64 (-24)) := World.cell?_alloc_at _ _ _ _ rfl
          have c2 : (w1.alloc (.cells #[.int .i64 10, .int .i64 (-24), .int .i64 5] 95)).cell? ⟨w1.heap.size, 2, none⟩ = some (.int .i64 (5)) := World.cell?_alloc_at _ _ _ _ rfl
          have HS2 := Lib.hid (H2.out (w1.alloc (.cells #[.int .i64 10, .int .i64 (-24), .int .i64 5] 95)) ((hS.below b1 (Nat.le_refl _)).below bA (Nat.le_refl _)))
          go_wp2_with fail
          refine (HS2.out).mono ?_
          rintro e w2 ⟨rfl, b2⟩
          have d0 := below_cell b2 (Nat.le_refl _) c0
          have d1 := below_cell b2 (Nat.le_refl _) c1
          have d2 := below_cell b2 (Nat.le_refl _) c2
          have b2' := below_trans bA b2
          go_wp2_with fail
          refine (shinf_16 w2).mono ?_
          rintro e w3 ⟨rfl, b3⟩
          have e0 := below_cell b3 (Nat.le_refl _) d0
          have e1 := below_cell b3 (Nat.le_refl _) d1
          have e2 := below_cell b3 (Nat.le_refl _) d2
          go_wp2_with fail
          refine (shinf_16 w3).mono ?_
          rintro e w4 ⟨rfl, b4⟩
          have g0 := below_cell b4 (Nat.le_refl _) e0
          have g1 := below_cell b4 (Nat.le_refl _) e1
          have g2 := below_cell b4 (Nat.le_refl _) e2
          go_wp2
          go_ret
          rw [HR.out]
          exact ⟨rfl, below_trans b1 (below_trans b2' (below_trans b3 b4))⟩
        · have HR := Lib.hid (show C = 3 by rw [HC.out, if_neg t1, if_neg t2, if_neg t3, if_neg t4])
          have t4' : (z / 1024 == 0) = false := by simp; omega
          clear HC t3 t2 t4
          go_enter Tryz.func56, Tryz.ntmps56
          go_wp2_with fail
          refine (H1.out).mono ?_
          rintro e w1 ⟨rfl, b1⟩
          have bA : Below w1.heap.size w1 (w1.alloc (.cells #[.int .i64 10, .int .i64 (-24), .int .i64 5] 95)) := (Below.refl _ _).alloc (Nat.le_refl _) _
          have c0 : (w1.alloc (.cells #[.int .i64 10, .int .i64 (-24), .int .i64 5] 95)).cell? ⟨w1.heap.size, 0, none⟩ = some (.int .i64 (10)) := World.cell?_alloc_at _ _ _ _ rfl
          have c1 : (w1.alloc (.cells #[.int .i64 10, .int .i64 (-24), .int .i64 5] 95)).cell? ⟨w1.heap.size, 1, none⟩ = some (.int .i64 (-24)) := World.cell?_alloc_at _ _ _ _ rfl
          have c2 : (w1.alloc (.cells #[.int .i64 10, .int .i64 (-24), .int .i64 5] 95)).cell? ⟨w1.heap.size, 2, none⟩ = some (.int .i64 (5)) := World.cell?_alloc_at _ _ _ _ rfl
          have HS2 := Lib.hid (H2.out (w1.alloc (.cells #[.int .i64 10, .int .i64 (-24), .int .i64 5] 95)) ((hS.below b1 (Nat.le_refl _)).below bA (Nat.le_refl _)))
          go_wp2_with fail
          refine (HS2.out).mono ?_
          rintro e w2 ⟨rfl, b2⟩
          have d0 := below_cell b2 (Nat.le_refl _) c0
          have d1 := below_cell b2 (Nat.le_refl _) c1
          have d2 := below_cell b2 (Nat.le_refl _) c2
          have b2' := below_trans bA b2
          go_wp2_with fail
          refine (shinf_16 w2).mono ?_
          rintro e w3 ⟨rfl, b3⟩
          have e0 := below_cell b3 (Nat.le_refl _) d0
          have e1 := below_cell b3 (Nat.le_refl _) d1
          have e2 := below_cell b3 (Nat.le_refl _) d2
          go_wp2_with fail
          refine (shinf_16 w3).mono ?_
          rintro e w4 ⟨rfl, b4⟩
          have g0 := below_cell b4 (Nat.le_refl _) e0
          have g1 := below_cell b4 (Nat.le_refl _) e1
          have g2 := below_cell b4 (Nat.le_refl _) e2
          go_wp2
          go_ret
          rw [HR.out]
          exact ⟨rfl, below_trans b1 (below_trans b2' (below_trans b3 b4))⟩
end Go.Proofs.YtoimhjcpeifegaaGreatDoor


/- A pattern in another width, and the nearest pattern to a whole number: plain definitions. -/
namespace Go.Proofs.YtoimhjcpeifegaaGreatDoor

theorem pow_wide {W : Nat} (hW : Wide W) : (2 : Int) ^ W = sgnW W + sgnW W ∧ 0 < sgnW W ∧ (2 : Int) ^ W ≤ 18446744073709551616 := by rcases hW with rfl | rfl | rfl <;> decide
theorem roundW_bd {W : Nat} (hW : Wide W) (neg : Bool) (V p : Int) (more : Bool) : 0 ≤ roundW W neg V p more ∧ roundW W neg V p more < 2 ^ W := by
  have h1 := nearE_le W (rM V more) (rE p more)
  have h2 := infN_lt hW
  have h3 := pow_wide hW
  unfold roundW
  cases neg <;> simp <;> omega

/-- Has y of width V the number that x of width W has? -/
def sameW (V W : Nat) (x y : Int) : Bool := pOk V y && decide (pM V y = pM W x) && decide (pE V y = pE W x)
noncomputable def toW (V W : Nat) (x : Int) : Int × Bool :=
  if isNaN W x then (nanW V, true) else if sizeW W x = infW W then ((if negW W x then sgnW V else 0) + infW V, true)
  else (roundW V (pNeg W x) (pM W x) (pE W x) false, sameW V W x (roundW V (pNeg W x) (pM W x) (pE W x) false))
/-- The nearest pattern to a whole number, and is it that number? -/
noncomputable def fromW (W : Nat) (N : Int) : Int × Bool :=
  (roundW W (decide (N < 0)) N.natAbs 0 false, intOk W (roundW W (decide (N < 0)) N.natAbs 0 false) && decide ((intN W (roundW W (decide (N < 0)) N.natAbs 0 false)).natAbs = N.natAbs))
theorem inf_fits {W : Nat} (hW : Wide W) : 0 < infW W ∧ infW W < sgnW W ∧ nanW W < sgnW W ∧ 0 < nanW W := by rcases hW with rfl | rfl | rfl <;> decide
end Go.Proofs.YtoimhjcpeifegaaGreatDoor


/- Printed by ieee2.py. -/
namespace Go.Proofs.YtoimhjcpeifegaaGreatDoor
open Go.RowKit

theorem class_32 (w : World) (hS : Shapes w) (x : Int) (hx : 0 ≤ x ∧ x < 4294967296) : Calls Tryz.prog 66 #[.int .u32 x] w (fun e w' => e = .returned (.int .i8 (clsW 32 x)) ∧ Below w.heap.size w w') := by
  have HC := Lib.hid (show clsW 32 x = if 2139095040 < sizeW 32 x then 5 else if sizeW 32 x = 2139095040 then 4 else if sizeW 32 x = 0 then 1 else if sizeW 32 x < 8388608 then 2 else 3 by unfold clsW; rw [inf32, show (2 : Int) ^ shF 32 = 8388608 from by decide])
  have H1 := Lib.hid (of_32 w hS)
  have H2 := Lib.hid (fun (w : World) (hS : Shapes w) => split_32 w hS x hx)
  have hz0 := (size_bounds (W := 32) (by unfold Wide; omega) x ⟨hx.1, by exact hx.2⟩).1
  generalize clsW 32 x = C at *
  generalize sizeW 32 x = z at *
  by_cases t1 : 2139095040 < z
  · have HR := Lib.hid (show C = 5 by rw [HC.out, if_pos t1])
    clear HC
    go_enter Tryz.func66, Tryz.ntmps66
    go_wp2_with fail
    refine (H1.out).mono ?_
    rintro e w1 ⟨rfl, b1⟩
    have bA : Below w1.heap.size w1 (w1.alloc (.cells #[.int .i64 23, .int .i64 (-149), .int .i64 8] 95)) := (Below.refl _ _).alloc (Nat.le_refl _) _
    have c0 : (w1.alloc (.cells #[.int .i64 23, .int .i64 (-149), .int .i64 8] 95)).cell? ⟨w1.heap.size, 0, none⟩ = some (.int .i64 (23)) := World.cell?_alloc_at _ _ _ _ rfl
    have c1 : (w1.alloc (.cells #[.int .i64 23, .int .i64 (-149), .int .i64 8] 95)).cell? ⟨w1.heap.size, 1, none⟩ = some (.int .i64 (-149)) := World.cell?_alloc_at _ _ _ _ rfl
    have c2 : (w1.alloc (.cells #[.int .i64 23, .int .i64 (-149), .int .i64 8] 95)).cell? ⟨w1.heap.size, 2, none⟩ = some (.int .i64 (8)) := World.cell?_alloc_at _ _ _ _ rfl
    have HS2 := Lib.hid (H2.out (w1.alloc (.cells #[.int .i64 23, .int .i64 (-149), .int .i64 8] 95)) ((hS.below b1 (Nat.le_refl _)).below bA (Nat.le_refl _)))
    go_wp2_with fail
    refine (HS2.out).mono ?_
    rintro e w2 ⟨rfl, b2⟩
    have d0 := below_cell b2 (Nat.le_refl _) c0
    have d1 := below_cell b2 (Nat.le_refl _) c1
    have d2 := below_cell b2 (Nat.le_refl _) c2
    have b2' := below_trans bA b2
    go_wp2_with fail
    refine (shinf_32 w2).mono ?_
    rintro e w3 ⟨rfl, b3⟩
    have e0 := below_cell b3 (Nat.le_refl _) d0
    have e1 := below_cell b3 (Nat.le_refl _) d1
    have e2 := below_cell b3 (Nat.le_refl _) d2
    go_wp2
    go_ret
    rw [HR.out]
    exact ⟨rfl, below_trans b1 (below_trans b2' b3)⟩
  · by_cases t2 : z = 2139095040
    · have HR := Lib.hid (show C = 4 by rw [HC.out, if_neg t1, if_pos t2])
      have t2' : (z == 2139095040) = true := by simpa using t2
      clear HC t2
      go_enter Tryz.func66, Tryz.ntmps66
      go_wp2_with fail
      refine (H1.out).mono ?_
      rintro e w1 ⟨rfl, b1⟩
      have bA : Below w1.heap.size w1 (w1.alloc (.cells #[.int .i64 23, .int .i64 (-149), .int .i64 8] 95)) := (Below.refl _ _).alloc (Nat.le_refl _) _
      have c0 : (w1.alloc (.cells #[.int .i64 23, .int .i64 (-149), .int .i64 8] 95)).cell? ⟨w1.heap.size, 0, none⟩ = some (.int .i64 (23)) := World.cell?_alloc_at _ _ _ _ rfl
      have c1 : (w1.alloc (.cells #[.int .i64 23, .int .i64 (-149), .int .i64 8] 95)).cell? ⟨w1.heap.size, 1, none⟩ = some (.int .i64 (-149)) := World.cell?_alloc_at _ _ _ _ rfl
      have c2 : (w1.alloc (.cells #[.int .i64 23, .int .i64 (-149), .int .i64 8] 95)).cell? ⟨w1.heap.size, 2, none⟩ = some (.int .i64 (8)) := World.cell?_alloc_at _ _ _ _ rfl
      have HS2 := Lib.hid (H2.out (w1.alloc (.cells #[.int .i64 23, .int .i64 (-149), .int .i64 8] 95)) ((hS.below b1 (Nat.le_refl _)).below bA (Nat.le_refl _)))
      go_wp2_with fail
      refine (HS2.out).mono ?_
      rintro e w2 ⟨rfl, b2⟩
      have d0 := below_cell b2 (Nat.le_refl _) c0
      have d1 := below_cell b2 (Nat.le_refl _) c1
      have d2 := below_cell b2 (Nat.le_refl _) c2
      have b2' := below_trans bA b2
      go_wp2_with fail
      refine (shinf_32 w2).mono ?_
      rintro e w3 ⟨rfl, b3⟩
      have e0 := below_cell b3 (Nat.le_refl _) d0
      have e1 := below_cell b3 (Nat.le_refl _) d1
      have e2 := below_cell b3 (Nat.le_refl _) d2
      go_wp2_with fail
      refine (shinf_32 w3).mono ?_
      rintro e w4 ⟨rfl, b4⟩
      have g0 := below_cell b4 (Nat.le_refl _) e0
      have g1 := below_cell b4 (Nat.le_refl _) e1
      have g2 := below_cell b4 (Nat.le_refl _) e2
      go_wp2
      go_ret
      rw [HR.out]
      exact ⟨rfl, below_trans b1 (below_trans b2' (below_trans b3 b4))⟩
    · have t2' : (z == 2139095040) = false := by simpa using t2
      by_cases t3 : z = 0
      · have HR := Lib.hid (show C = 1 by rw [HC.out, if_neg t1, if_neg t2, if_pos t3])
        have t3' : (z == 0) = true := by simpa using t3
        clear HC t3 t2
        go_enter Tryz.func66, Tryz.ntmps66
        go_wp2_with fail
        refine (H1.out).mono ?_
        rintro e w1 ⟨rfl, b1⟩
        have bA : Below w1.heap.size w1 (w1.alloc (.cells #[.int .i64 23, .int .i64 (-149), .int .i64 8] 95)) := (Below.refl _ _).alloc (Nat.le_refl _) _
        have c0 : (w1.alloc (.cells #[.int .i64 23, .int .i64 (-149), .int .i64 8] 95)).cell? ⟨w1.heap.size, 0, none⟩ = some (.int .i64 (23)) := World.cell?_alloc_at _ _ _ _ rfl
        have c1 : (w1.alloc (.cells #[.int .i64 23, .int .i64 (-149), .int .i64 8] 95)).cell? ⟨w1.heap.size, 1, none⟩ = some (.int .i64 (-149)) := World.cell?_alloc_at _ _ _ _ rfl
        have c2 : (w1.alloc (.cells #[.int .i64 23, .int .i64 (-149), .int .i64 8] 95)).cell? ⟨w1.heap.size, 2, none⟩ = some (.int .i64 (8)) := World.cell?_alloc_at _ _ _ _ rfl
        have HS2 := Lib.hid (H2.out (w1.alloc (.cells #[.int .i64 23, .int .i64 (-149), .int .i64 8] 95)) ((hS.below b1 (Nat.le_refl _)).below bA (Nat.le_refl _)))
        go_wp2_with fail
        refine (HS2.out).mono ?_
        rintro e w2 ⟨rfl, b2⟩
        have d0 := below_cell b2 (Nat.le_refl _) c0
        have d1 := below_cell b2 (Nat.le_refl _) c1
        have d2 := below_cell b2 (Nat.le_refl _) c2
        have b2' := below_trans bA b2
        go_wp2_with fail
        refine (shinf_32 w2).mono ?_
        rintro e w3 ⟨rfl, b3⟩
        have e0 := below_cell b3 (Nat.le_refl _) d0
        have e1 := below_cell b3 (Nat.le_refl _) d1
        have e2 := below_cell b3 (Nat.le_refl _) d2
        go_wp2_with fail
        refine (shinf_32 w3).mono ?_
        rintro e w4 ⟨rfl, b4⟩
        have g0 := below_cell b4 (Nat.le_refl _) e0
        have g1 := below_cell b4 (Nat.le_refl _) e1
        have g2 := below_cell b4 (Nat.le_refl _) e2
        go_wp2
        go_ret
        rw [HR.out]
        exact ⟨rfl, below_trans b1 (below_trans b2' (below_trans b3 b4))⟩
      · have t3' : (z == 0) = false := by simpa using t3
        by_cases t4 : z < 8388608
        · have HR := Lib.hid (show C = 2 by rw [HC.out, if_neg t1, if_neg t2, if_neg t3, if_pos t4])
          have t4' : (z / 8388608 == 0) = true := by simp; omega
          clear HC t3 t2 t4
          go_enter Tryz.func66, Tryz.ntmps66
          go_wp2_with fail
          refine (H1.out).mono ?_
          rintro e w1 ⟨rfl, b1⟩
          have bA : Below w1.heap.size w1 (w1.alloc (.cells #[.int .i64 23, .int .i64 (-149), .int .i64 8] 95)) := (Below.refl _ _).alloc (Nat.le_refl _) _
          have c0 : (w1.alloc (.cells #[.int .i64 23, .int .i64 (-149), .int .i64 8] 95)).cell? ⟨w1.heap.size, 0, none⟩ = some (.int .i64 (23)) := World.cell?_alloc_at _ _ _ _ rfl
          have c1 : (w1.alloc (.cells #[.int .i64 23, .int .i64 (-149), .int .i64 8] 95)).cell? ⟨w1.heap.size, 1, none⟩ = some (.int .i64 (-149)) := World.cell?_alloc_at _ _ _ _ rfl
          have c2 : (w1.alloc (.cells #[.int .i64 23, .int .i64 (-149), .int .i64 8] 95)).cell? ⟨w1.heap.size, 2, none⟩ = some (.int .i64 (8)) := World.cell?_alloc_at _ _ _ _ rfl
          have HS2 := Lib.hid (H2.out (w1.alloc (.cells #[.int .i64 23, .int .i64 (-149), .int .i64 8] 95)) ((hS.below b1 (Nat.le_refl _)).below bA (Nat.le_refl _)))
          go_wp2_with fail
          refine (HS2.out).mono ?_
          rintro e w2 ⟨rfl, b2⟩
          have d0 := below_cell b2 (Nat.le_refl _) c0
          have d1 := below_cell b2 (Nat.le_refl _) c1
          have d2 := below_cell b2 (Nat.le_refl _) c2
          have b2' := below_trans bA b2
          go_wp2_with fail
          refine (shinf_32 w2).mono ?_
          rintro e w3 ⟨rfl, b3⟩
          have e0 := below_cell b3 (Nat.le_refl _) d0
          have e1 := below_cell b3 (Nat.le_refl _) d1
          have e2 := below_cell b3 (Nat.le_refl _) d2
          go_wp2_with fail
          refine (shinf_32 w3).mono ?_
          rintro e w4 ⟨rfl, b4⟩
          have g0 := below_cell b4 (Nat.le_refl _) e0
          have g1 := below_cell b4 (Nat.le_refl _) e1
          have g2 := below_cell b4 (Nat.le_refl _) e2
          go_wp2
          go_ret
          rw [HR.out]
          exact ⟨rfl, below_trans b1 (below_trans b2' (below_trans b3 b4))⟩
        · have HR := Lib.hid (show C = 3 by rw [HC.out, if_neg t1, if_neg t2, if_neg t3, if_neg t4])
          have t4' : (z / 8388608 == 0) = false := by simp; omega
          clear HC t3 t2 t4
          go_enter Tryz.func66, Tryz.ntmps66
          go_wp2_with fail
          refine (H1.out).mono ?_
          rintro e w1 ⟨rfl, b1⟩
          have bA : Below w1.heap.size w1 (w1.alloc (.cells #[.int .i64 23, .int .i64 (-149), .int .i64 8] 95)) := (Below.refl _ _).alloc (Nat.le_refl _) _
          have c0 : (w1.alloc (.cells #[.int .i64 23, .int .i64 (-149), .int .i64 8] 95)).cell? ⟨w1.heap.size, 0, none⟩ = some (.int .i64 (23)) := World.cell?_alloc_at _ _ _ _ rfl
          have c1 : (w1.alloc (.cells #[.int .i64 23, .int .i64 (-149), .int .i64 8] 95)).cell? ⟨w1.heap.size, 1, none⟩ = some (.int .i64 (-149)) := World.cell?_alloc_at _ _ _ _ rfl
          have c2 : (w1.alloc (.cells #[.int .i64 23, .int .i64 (-149), .int .i64 8] 95)).cell? ⟨w1.heap.size, 2, none⟩ = some (.int .i64 (8)) := World.cell?_alloc_at _ _ _ _ rfl
          have HS2 := Lib.hid (H2.out (w1.alloc (.cells #[.int .i64 23, .int .i64 (-149), .int .i64 8] 95)) ((hS.below b1 (Nat.le_refl _)).below bA (Nat.le_refl _)))
          go_wp2_with fail
          refine (HS2.out).mono ?_
          rintro e w2 ⟨rfl, b2⟩
          have d0 := below_cell b2 (Nat.le_refl _) c0
          have d1 := below_cell b2 (Nat.le_refl _) c1
          have d2 := below_cell b2 (Nat.le_refl _) c2
          have b2' := below_trans bA b2
          go_wp2_with fail
          refine (shinf_32 w2).mono ?_
          rintro e w3 ⟨rfl, b3⟩
          have e0 := below_cell b3 (Nat.le_refl _) d0
          have e1 := below_cell b3 (Nat.le_refl _) d1
          have e2 := below_cell b3 (Nat.le_refl _) d2
          go_wp2_with fail
          refine (shinf_32 w3).mono ?_
          rintro e w4 ⟨rfl, b4⟩
          have g0 := below_cell b4 (Nat.le_refl _) e0
          have g1 := below_cell b4 (Nat.le_refl _) e1
          have g2 := below_cell b4 (Nat.le_refl _) e2
          go_wp2
          go_ret
          rw [HR.out]
          exact ⟨rfl, below_trans b1 (below_trans b2' (below_trans b3 b4))⟩
end Go.Proofs.YtoimhjcpeifegaaGreatDoor

