/- The law IeeeSteps: its walk. -/
import Derived.Test.YtmnabilgpndjmaaDoorPk2
import Derived.Test.YtmnabilgpndjmaaDoorPk3
import Derived.Test.YtmnabilgpndjmaaDoorPk13
import Derived.Test.YtmnabilgpndjmaaDoorPk25
import Derived.Test.YtmnabilgpndjmaaDoorPk28
set_option linter.unusedVariables false
set_option linter.unusedSimpArgs false
/- The law IeeeSteps: its walk out of the contracts of what it calls. (Printed by law5.py.) -/
namespace Go.Proofs.YtmnabilgpndjmaaDoor
open Go.RowKit


theorem nan_size {W : Nat} (x : Int) : isNaN W x = decide (infW W < sizeW W x) := rfl
theorem next_zero {W : Nat} (hW : Wide W) : nextW W 0 = 1 ∧ nextW W (sgnW W) = 1 := by rcases hW with rfl | rfl | rfl <;> exact ⟨by decide, by decide⟩
theorem cmpI_bd (a b : Int) : -1 ≤ cmpI a b ∧ cmpI a b ≤ 1 := by
  unfold cmpI
  split
  · omega
  · split <;> omega

set_option maxRecDepth 20000 in
set_option maxHeartbeats 2000000 in
theorem walk_IeeeSteps (w : World) (hS : Shapes w) (hT : Tab w) (k0 : Int) (hk0 : 0 ≤ k0 ∧ k0 < 256) (x : Int) (hx : 0 ≤ x ∧ x < 18446744073709551616) (z : Int) (hz : 0 ≤ z ∧ z < 18446744073709551616) :
    Calls Tryd.prog 10 #[.int .u8 k0, .int .u64 x, .int .u64 z] w (LawTrue w) := by
  have b0 : Below w.heap.size w w := Below.refl _ _
  go_enter Tryd.func10, Tryd.ntmps10
  have h := Lib.hid (llives_calls w hS hT)
  go_wp2_with fail
  refine (h.out).mono ?_
  rintro e w1 ⟨rfl, b⟩
  clear h
  replace hS := hS.below b (Nat.le_refl _)
  replace hT := hT.below b (Nat.le_refl _)
  replace b0 := below_trans b0 b
  clear b
  have h := Lib.hid (lfit_calls k0 hk0 x hx w1)
  go_wp2_with fail
  refine (h.out).mono ?_
  rintro e w' ⟨rfl, rfl⟩
  clear h
  have hx1 := fit_bd (wide_wd k0) x
  generalize x % 2 ^ wd k0 = x1 at *
  have h := Lib.hid (lfit_calls k0 hk0 z hz w1)
  go_wp2_with fail
  refine (h.out).mono ?_
  rintro e w' ⟨rfl, rfl⟩
  clear h
  have hz1 := fit_bd (wide_wd k0) z
  generalize z % 2 ^ wd k0 = z1 at *
  have h := Lib.hid (lnext_calls k0 hk0 w1 hS x1 hx1)
  go_wp2_with fail
  refine (h.out).mono ?_
  rintro e w4 ⟨rfl, b⟩
  clear h
  replace hS := hS.below b (Nat.le_refl _)
  replace hT := hT.below b (Nat.le_refl _)
  replace b0 := below_trans b0 b
  clear b
  have HTop := Lib.hid (ltop_calls k0 hk0)
  have HSgn := Lib.hid (lsign_calls k0 hk0)
  have hfit := inf_fits (wide_wd k0)
  have hpw := pow_wide (wide_wd k0)
  have bx := size_bounds (wide_wd k0) x1 hx1
  have bz := size_bounds (wide_wd k0) z1 hz1
  have ex := size_mod (wide_wd k0) x1 hx1
  have ez := size_mod (wide_wd k0) z1 hz1
  have tx : x1.tmod (sgnW (wd k0)) = sizeW (wd k0) x1 := by rw [Int.tmod_eq_emod_of_nonneg hx1.1, ex]
  have tz : z1.tmod (sgnW (wd k0)) = sizeW (wd k0) z1 := by rw [Int.tmod_eq_emod_of_nonneg hz1.1, ez]
  have HNx := Lib.hid (next_rank (wide_wd k0) x1 hx1)
  have HN0 := Lib.hid (next_zero (wide_wd k0))
  have HNd := Lib.hid (show nextW (wd k0) x1 = if infW (wd k0) < sizeW (wd k0) x1 ∨ x1 = infW (wd k0) then x1 else if sizeW (wd k0) x1 = 0 then 1 else if negW (wd k0) x1 then x1 - 1 else x1 + 1 from rfl)
  have HC := Lib.hid (fun (w : World) (hS : Shapes w) (a b : Int) (ha : 0 ≤ a ∧ a < 2 ^ wd k0) (hb : 0 ≤ b ∧ b < 2 ^ wd k0) => lcmp_calls k0 hk0 w hS a b ha hb)
  have HTo := Lib.hid (fun (w : World) (hS : Shapes w) (a b : Int) (ha : 0 ≤ a ∧ a < 2 ^ wd k0) (hb : 0 ≤ b ∧ b < 2 ^ wd k0) => ltotal_calls k0 hk0 w hS a b ha hb)
  have HNe := Lib.hid (fun (w : World) (hS : Shapes w) (a : Int) (ha : 0 ≤ a ∧ a < 2 ^ wd k0) => lnext_calls k0 hk0 w hS a ha)
  have HQ1 := Lib.hid (cmp_qk (wide_wd k0))
  have HQ2 := Lib.hid (total_rk (wide_wd k0))
  have HIz := Lib.hid (show isNaN (wd k0) z1 = decide (infW (wd k0) < sizeW (wd k0) z1) from rfl)
  have HIx := Lib.hid (show isNaN (wd k0) x1 = decide (infW (wd k0) < sizeW (wd k0) x1) from rfl)
  clear ex ez
  generalize hy : nextW (wd k0) x1 = y at *
  have HY := Lib.hid hy
  clear hy
  have HS0 := Lib.hid (show 0 ≤ sgnW (wd k0) ∧ sgnW (wd k0) < 2 ^ wd k0 by omega)
  have H00 := Lib.hid (show 0 ≤ (0 : Int) ∧ (0 : Int) < 2 ^ wd k0 by omega)
  have tx2 : x1 % sgnW (wd k0) = sizeW (wd k0) x1 := (size_mod (wide_wd k0) x1 hx1).symm
  have tz2 : z1 % sgnW (wd k0) = sizeW (wd k0) z1 := (size_mod (wide_wd k0) z1 hz1).symm
  by_cases hc : infW (wd k0) < sizeW (wd k0) x1 ∨ x1 = infW (wd k0)
  · have HE := Lib.hid (show y = x1 by rw [HNd.out, if_pos hc])
    rcases (show infW (wd k0) < sizeW (wd k0) x1 ∨ (¬ infW (wd k0) < sizeW (wd k0) x1 ∧ x1 = infW (wd k0)) by omega) with h1 | ⟨h1, h2⟩
    · clear hc
      generalize infW (wd k0) = I at *
      generalize sgnW (wd k0) = S at *
      generalize sizeW (wd k0) x1 = sx at *
      have hS0 : ¬ S = 0 := by omega
      have hS1 : (S == 0) = false := by simpa using hS0
      rw [HE.out]
      go_wp2_with fail
      go_quiet ((first | (go_at_call 37; exact quiet_left (HSgn.out _)) | (go_at_call 36; exact quiet_left (HTop.out _))))
      have b := below_drewN (Below.refl w4.heap.size w4) nq
      generalize w4.drewN nq = w5 at *
      replace hS := hS.below b (Nat.le_refl _)
      replace hT := hT.below b (Nat.le_refl _)
      replace b0 := below_trans b0 b
      clear b
      go_wp2_with fail
      go_ret
      exact ⟨rfl, b0⟩
    · have h3 : (x1 == infW (wd k0)) = true := by simpa using h2
      clear h2 hc
      generalize infW (wd k0) = I at *
      generalize sgnW (wd k0) = S at *
      generalize sizeW (wd k0) x1 = sx at *
      have hS0 : ¬ S = 0 := by omega
      have hS1 : (S == 0) = false := by simpa using hS0
      rw [HE.out]
      go_wp2_with fail
      go_quiet ((first | (go_at_call 37; exact quiet_left (HSgn.out _)) | (go_at_call 36; exact quiet_left (HTop.out _))))
      have b := below_drewN (Below.refl w4.heap.size w4) nq
      generalize w4.drewN nq = w5 at *
      replace hS := hS.below b (Nat.le_refl _)
      replace hT := hT.below b (Nat.le_refl _)
      replace b0 := below_trans b0 b
      clear b
      go_wp2_with fail
      go_ret
      exact ⟨rfl, b0⟩
  · obtain ⟨hyb, hyq, hyr, hyn⟩ := HNx.out hc
    have hx2 : sizeW (wd k0) x1 ≤ infW (wd k0) := by omega
    have hx3 : ¬ infW (wd k0) < sizeW (wd k0) x1 := by omega
    have hx4 : (x1 == infW (wd k0)) = false := by simp; omega
    have hxn : isNaN (wd k0) x1 = false := by rw [HIx.out]; exact decide_eq_false hx3
    have c1 : cmpW (wd k0) x1 y = (-1, true) := by rw [HQ1.out x1 y hx1 hyb, hxn, hyn, hyq]; simp; exact cmpI_lt (by omega)
    have c2 : totalW (wd k0) x1 y = -1 := by rw [HQ2.out x1 y hx1 hyb, cmpI_lt hyr]
    have K1 := HC.out
    have hC1 : ∀ w, Shapes w → Calls Tryd.prog 15 #[.int .u8 k0, .int .u64 x1, .int .u64 y] w (fun e w' => e = .returned (.tuple #[.int .i64 (-1), .bool true]) ∧ Below w.heap.size w w') := fun w hS => by have := HC.out w hS x1 y hx1 hyb; rwa [c1] at this
    have hT1 : ∀ w, Shapes w → Calls Tryd.prog 18 #[.int .u8 k0, .int .u64 x1, .int .u64 y] w (fun e w' => e = .returned (.int .i64 (-1)) ∧ Below w.heap.size w w') := fun w hS => by have := HTo.out w hS x1 y hx1 hyb; rwa [c2] at this
    have HC1 := Lib.hid hC1
    have HT1 := Lib.hid hT1
    clear hC1 hT1 c1 c2 K1 hc
    have e2 : cmpW (wd k0) x1 z1 = if isNaN (wd k0) z1 then (0, false) else (cmpI (qk (wd k0) x1) (qk (wd k0) z1), true) := by rw [HQ1.out x1 z1 hx1 hz1, hxn]; rfl
    have e3 : cmpW (wd k0) z1 y = if isNaN (wd k0) z1 then (0, false) else (cmpI (qk (wd k0) z1) (qk (wd k0) x1 + 1), true) := by rw [HQ1.out z1 y hz1 hyb, hyn, hyq, Bool.or_false]
    have HE2 := Lib.hid (HC.out · · x1 z1 hx1 hz1)
    have HE3 := Lib.hid (HC.out · · z1 y hz1 hyb)
    rw [e2] at HE2
    rw [e3] at HE3
    clear e2 e3
    have hn1 : ∀ w, Shapes w → Calls Tryd.prog 20 #[.int .u8 k0, .int .u64 0] w (fun e w' => e = .returned (.int .u64 1) ∧ Below w.heap.size w w') := fun w hS => by have := HNe.out w hS 0 H00.out; rwa [HN0.out.1] at this
    have hn2 : ∀ w, Shapes w → Calls Tryd.prog 20 #[.int .u8 k0, .int .u64 (sgnW (wd k0))] w (fun e w' => e = .returned (.int .u64 1) ∧ Below w.heap.size w w') := fun w hS => by have := HNe.out w hS (sgnW (wd k0)) HS0.out; rwa [HN0.out.2] at this
    have HM1 := Lib.hid hn1
    have HM2 := Lib.hid hn2
    clear hn1 hn2 HNe HN0 HC HTo HQ1 HQ2 HNx HNd HY H00 HS0 hxn hyn
    by_cases hzn : infW (wd k0) < sizeW (wd k0) z1
    · have hz1n : isNaN (wd k0) z1 = true := by rw [HIz.out]; exact decide_eq_true hzn
      rw [hz1n, if_pos rfl] at HE2 HE3
      clear HIz HIx hz1n
      have hzn2 : ¬ sizeW (wd k0) z1 ≤ infW (wd k0) := by omega
      generalize infW (wd k0) = I at *
      generalize sgnW (wd k0) = S at *
      generalize sizeW (wd k0) x1 = sx at *
      generalize sizeW (wd k0) z1 = sz at *
      have hS0 : ¬ S = 0 := by omega
      have hS1 : (S == 0) = false := by simpa using hS0
      go_wp2_with fail
      go_quiet ((first | (go_at_call 37; exact quiet_left (HSgn.out _)) | (go_at_call 36; exact quiet_left (HTop.out _))))
      have b := below_drewN (Below.refl w4.heap.size w4) nq
      generalize w4.drewN nq = w5 at *
      replace hS := hS.below b (Nat.le_refl _)
      replace hT := hT.below b (Nat.le_refl _)
      replace b0 := below_trans b0 b
      clear b
      have h := Lib.hid (HC1.out w5 hS)
      go_wp2_with fail
      refine (h.out).mono ?_
      rintro e w6 ⟨rfl, b⟩
      clear h
      replace hS := hS.below b (Nat.le_refl _)
      replace hT := hT.below b (Nat.le_refl _)
      replace b0 := below_trans b0 b
      clear b
      have h := Lib.hid (HT1.out w6 hS)
      go_wp2_with fail
      refine (h.out).mono ?_
      rintro e w7 ⟨rfl, b⟩
      clear h
      replace hS := hS.below b (Nat.le_refl _)
      replace hT := hT.below b (Nat.le_refl _)
      replace b0 := below_trans b0 b
      clear b
      have h := Lib.hid (HE2.out w7 hS)
      go_wp2_with fail
      refine (h.out).mono ?_
      rintro e w8 ⟨rfl, b⟩
      clear h
      replace hS := hS.below b (Nat.le_refl _)
      replace hT := hT.below b (Nat.le_refl _)
      replace b0 := below_trans b0 b
      clear b
      have h := Lib.hid (HE3.out w8 hS)
      go_wp2_with fail
      refine (h.out).mono ?_
      rintro e w9 ⟨rfl, b⟩
      clear h
      replace hS := hS.below b (Nat.le_refl _)
      replace hT := hT.below b (Nat.le_refl _)
      replace b0 := below_trans b0 b
      clear b
      go_wp2_with fail
      go_quiet ((first | (go_at_call 37; exact quiet_left (HSgn.out _)) | (go_at_call 36; exact quiet_left (HTop.out _))))
      have b := below_drewN (Below.refl w9.heap.size w9) nq
      generalize w9.drewN nq = w10 at *
      replace hS := hS.below b (Nat.le_refl _)
      replace hT := hT.below b (Nat.le_refl _)
      replace b0 := below_trans b0 b
      clear b
      have h := Lib.hid (HM1.out w10 hS)
      go_wp2_with fail
      refine (h.out).mono ?_
      rintro e w11 ⟨rfl, b⟩
      clear h
      replace hS := hS.below b (Nat.le_refl _)
      replace hT := hT.below b (Nat.le_refl _)
      replace b0 := below_trans b0 b
      clear b
      have h := Lib.hid (HSgn.out w11)
      go_wp2_with fail
      refine (h.out).mono ?_
      rintro e w' ⟨rfl, rfl⟩
      clear h
      have h := Lib.hid (HM2.out w11 hS)
      go_wp2_with fail
      refine (h.out).mono ?_
      rintro e w13 ⟨rfl, b⟩
      clear h
      replace hS := hS.below b (Nat.le_refl _)
      replace hT := hT.below b (Nat.le_refl _)
      replace b0 := below_trans b0 b
      clear b
      go_wp2_with fail
      go_ret
      exact ⟨rfl, b0⟩
    · have hz1n : isNaN (wd k0) z1 = false := by rw [HIz.out]; exact decide_eq_false hzn
      rw [hz1n, if_neg (by decide)] at HE2 HE3
      clear HIz HIx hz1n
      have hzn2 : sizeW (wd k0) z1 ≤ infW (wd k0) := by omega
      by_cases hq : qk (wd k0) z1 ≤ qk (wd k0) x1
      · have ha := cmpI_ge hq
        generalize cmpI (qk (wd k0) x1) (qk (wd k0) z1) = ca at *
        generalize cmpI (qk (wd k0) z1) (qk (wd k0) x1 + 1) = cb at *
        have ha2 : decide (ca < 0) = false := decide_eq_false (by omega)
        clear hq
        generalize infW (wd k0) = I at *
        generalize sgnW (wd k0) = S at *
        generalize sizeW (wd k0) x1 = sx at *
        generalize sizeW (wd k0) z1 = sz at *
        have hS0 : ¬ S = 0 := by omega
        have hS1 : (S == 0) = false := by simpa using hS0
        go_wp2_with fail
        go_quiet ((first | (go_at_call 37; exact quiet_left (HSgn.out _)) | (go_at_call 36; exact quiet_left (HTop.out _))))
        have b := below_drewN (Below.refl w4.heap.size w4) nq
        generalize w4.drewN nq = w5 at *
        replace hS := hS.below b (Nat.le_refl _)
        replace hT := hT.below b (Nat.le_refl _)
        replace b0 := below_trans b0 b
        clear b
        have h := Lib.hid (HC1.out w5 hS)
        go_wp2_with fail
        refine (h.out).mono ?_
        rintro e w6 ⟨rfl, b⟩
        clear h
        replace hS := hS.below b (Nat.le_refl _)
        replace hT := hT.below b (Nat.le_refl _)
        replace b0 := below_trans b0 b
        clear b
        have h := Lib.hid (HT1.out w6 hS)
        go_wp2_with fail
        refine (h.out).mono ?_
        rintro e w7 ⟨rfl, b⟩
        clear h
        replace hS := hS.below b (Nat.le_refl _)
        replace hT := hT.below b (Nat.le_refl _)
        replace b0 := below_trans b0 b
        clear b
        have h := Lib.hid (HE2.out w7 hS)
        go_wp2_with fail
        refine (h.out).mono ?_
        rintro e w8 ⟨rfl, b⟩
        clear h
        replace hS := hS.below b (Nat.le_refl _)
        replace hT := hT.below b (Nat.le_refl _)
        replace b0 := below_trans b0 b
        clear b
        have h := Lib.hid (HE3.out w8 hS)
        go_wp2_with fail
        refine (h.out).mono ?_
        rintro e w9 ⟨rfl, b⟩
        clear h
        replace hS := hS.below b (Nat.le_refl _)
        replace hT := hT.below b (Nat.le_refl _)
        replace b0 := below_trans b0 b
        clear b
        go_wp2_with fail
        go_quiet ((first | (go_at_call 37; exact quiet_left (HSgn.out _)) | (go_at_call 36; exact quiet_left (HTop.out _))))
        have b := below_drewN (Below.refl w9.heap.size w9) nq
        generalize w9.drewN nq = w10 at *
        replace hS := hS.below b (Nat.le_refl _)
        replace hT := hT.below b (Nat.le_refl _)
        replace b0 := below_trans b0 b
        clear b
        have h := Lib.hid (HM1.out w10 hS)
        go_wp2_with fail
        refine (h.out).mono ?_
        rintro e w11 ⟨rfl, b⟩
        clear h
        replace hS := hS.below b (Nat.le_refl _)
        replace hT := hT.below b (Nat.le_refl _)
        replace b0 := below_trans b0 b
        clear b
        have h := Lib.hid (HSgn.out w11)
        go_wp2_with fail
        refine (h.out).mono ?_
        rintro e w' ⟨rfl, rfl⟩
        clear h
        have h := Lib.hid (HM2.out w11 hS)
        go_wp2_with fail
        refine (h.out).mono ?_
        rintro e w13 ⟨rfl, b⟩
        clear h
        replace hS := hS.below b (Nat.le_refl _)
        replace hT := hT.below b (Nat.le_refl _)
        replace b0 := below_trans b0 b
        clear b
        go_wp2_with fail
        go_ret
        exact ⟨rfl, b0⟩
      · have ha := cmpI_ge (show qk (wd k0) x1 + 1 ≤ qk (wd k0) z1 by omega)
        rw [cmpI_lt (show qk (wd k0) x1 < qk (wd k0) z1 by omega)] at HE2
        generalize cmpI (qk (wd k0) z1) (qk (wd k0) x1 + 1) = cb at *
        have ha2 : decide (cb < 0) = false := decide_eq_false (by omega)
        clear hq
        generalize infW (wd k0) = I at *
        generalize sgnW (wd k0) = S at *
        generalize sizeW (wd k0) x1 = sx at *
        generalize sizeW (wd k0) z1 = sz at *
        have hS0 : ¬ S = 0 := by omega
        have hS1 : (S == 0) = false := by simpa using hS0
        go_wp2_with fail
        go_quiet ((first | (go_at_call 37; exact quiet_left (HSgn.out _)) | (go_at_call 36; exact quiet_left (HTop.out _))))
        have b := below_drewN (Below.refl w4.heap.size w4) nq
        generalize w4.drewN nq = w5 at *
        replace hS := hS.below b (Nat.le_refl _)
        replace hT := hT.below b (Nat.le_refl _)
        replace b0 := below_trans b0 b
        clear b
        have h := Lib.hid (HC1.out w5 hS)
        go_wp2_with fail
        refine (h.out).mono ?_
        rintro e w6 ⟨rfl, b⟩
        clear h
        replace hS := hS.below b (Nat.le_refl _)
        replace hT := hT.below b (Nat.le_refl _)
        replace b0 := below_trans b0 b
        clear b
        have h := Lib.hid (HT1.out w6 hS)
        go_wp2_with fail
        refine (h.out).mono ?_
        rintro e w7 ⟨rfl, b⟩
        clear h
        replace hS := hS.below b (Nat.le_refl _)
        replace hT := hT.below b (Nat.le_refl _)
        replace b0 := below_trans b0 b
        clear b
        have h := Lib.hid (HE2.out w7 hS)
        go_wp2_with fail
        refine (h.out).mono ?_
        rintro e w8 ⟨rfl, b⟩
        clear h
        replace hS := hS.below b (Nat.le_refl _)
        replace hT := hT.below b (Nat.le_refl _)
        replace b0 := below_trans b0 b
        clear b
        have h := Lib.hid (HE3.out w8 hS)
        go_wp2_with fail
        refine (h.out).mono ?_
        rintro e w9 ⟨rfl, b⟩
        clear h
        replace hS := hS.below b (Nat.le_refl _)
        replace hT := hT.below b (Nat.le_refl _)
        replace b0 := below_trans b0 b
        clear b
        go_wp2_with fail
        go_quiet ((first | (go_at_call 37; exact quiet_left (HSgn.out _)) | (go_at_call 36; exact quiet_left (HTop.out _))))
        have b := below_drewN (Below.refl w9.heap.size w9) nq
        generalize w9.drewN nq = w10 at *
        replace hS := hS.below b (Nat.le_refl _)
        replace hT := hT.below b (Nat.le_refl _)
        replace b0 := below_trans b0 b
        clear b
        have h := Lib.hid (HM1.out w10 hS)
        go_wp2_with fail
        refine (h.out).mono ?_
        rintro e w11 ⟨rfl, b⟩
        clear h
        replace hS := hS.below b (Nat.le_refl _)
        replace hT := hT.below b (Nat.le_refl _)
        replace b0 := below_trans b0 b
        clear b
        have h := Lib.hid (HSgn.out w11)
        go_wp2_with fail
        refine (h.out).mono ?_
        rintro e w' ⟨rfl, rfl⟩
        clear h
        have h := Lib.hid (HM2.out w11 hS)
        go_wp2_with fail
        refine (h.out).mono ?_
        rintro e w13 ⟨rfl, b⟩
        clear h
        replace hS := hS.below b (Nat.le_refl _)
        replace hT := hT.below b (Nat.le_refl _)
        replace b0 := below_trans b0 b
        clear b
        go_wp2_with fail
        go_ret
        exact ⟨rfl, b0⟩
end Go.Proofs.YtmnabilgpndjmaaDoor
