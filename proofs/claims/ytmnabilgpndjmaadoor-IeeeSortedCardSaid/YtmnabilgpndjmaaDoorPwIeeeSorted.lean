/- The law IeeeSorted: its walk. -/
import Derived.Deep.DeepCutAuto
import Derived.Test.YtmnabilgpndjmaaDoorPk2
import Derived.Test.YtmnabilgpndjmaaDoorPk3
import Derived.Test.YtmnabilgpndjmaaDoorPk13
import Derived.Test.YtmnabilgpndjmaaDoorPk25
import Derived.Test.YtmnabilgpndjmaaDoorPk28
set_option linter.unusedVariables false
set_option linter.unusedSimpArgs false
/- The law IeeeSorted: its walk out of the contracts of what it calls. (Printed by law5.py.) -/
namespace Go.Proofs.YtmnabilgpndjmaaDoor
open Go.RowKit


set_option maxRecDepth 20000 in
set_option maxHeartbeats 2000000 in
theorem walk_IeeeSorted (w : World) (hS : Shapes w) (hT : Tab w) (k0 : Int) (hk0 : 0 ≤ k0 ∧ k0 < 256) (x : Int) (hx : 0 ≤ x ∧ x < 18446744073709551616) (y : Int) (hy : 0 ≤ y ∧ y < 18446744073709551616) (z : Int) (hz : 0 ≤ z ∧ z < 18446744073709551616) :
    Calls Tryd.prog 11 #[.int .u8 k0, .int .u64 x, .int .u64 y, .int .u64 z] w (LawTrue w) := by
  have b0 : Below w.heap.size w w := Below.refl _ _
  go_enter Tryd.func11, Tryd.ntmps11
  have h := Lib.hid (llives_calls w hS hT)
  go_wp2_with fail
  refine (h.out).mono ?_
  rintro e w1 ⟨rfl, b⟩
  clear h
  replace hS := hS.below b (Nat.le_refl _)
  replace hT := hT.below b (Nat.le_refl _)
  replace b0 := below_trans b0 b
  clear b
  have h := Lib.hid (lfit_calls k0 hk0 x hx w1)
  go_wp2_with fail
  refine (h.out).mono ?_
  rintro e w' ⟨rfl, rfl⟩
  clear h
  have hx1 := fit_bd (wide_wd k0) x
  generalize x % 2 ^ wd k0 = x1 at *
  have h := Lib.hid (lfit_calls k0 hk0 y hy w1)
  go_wp2_with fail
  refine (h.out).mono ?_
  rintro e w' ⟨rfl, rfl⟩
  clear h
  have hy1 := fit_bd (wide_wd k0) y
  generalize y % 2 ^ wd k0 = y1 at *
  have h := Lib.hid (lfit_calls k0 hk0 z hz w1)
  go_wp2_with fail
  refine (h.out).mono ?_
  rintro e w' ⟨rfl, rfl⟩
  clear h
  have hz1 := fit_bd (wide_wd k0) z
  generalize z % 2 ^ wd k0 = z1 at *
  have HTop := Lib.hid (ltop_calls k0 hk0)
  have HSgn := Lib.hid (lsign_calls k0 hk0)
  have hfit := inf_fits (wide_wd k0)
  have hpw := pow_wide (wide_wd k0)
  have Bx := size_bounds (wide_wd k0) x1 hx1
  have tx2 : x1 % sgnW (wd k0) = sizeW (wd k0) x1 := (size_mod (wide_wd k0) x1 hx1).symm
  have tx : x1.tmod (sgnW (wd k0)) = sizeW (wd k0) x1 := by rw [Int.tmod_eq_emod_of_nonneg hx1.1, tx2]
  have HIx := Lib.hid (show isNaN (wd k0) x1 = decide (infW (wd k0) < sizeW (wd k0) x1) from rfl)
  have By := size_bounds (wide_wd k0) y1 hy1
  have ty2 : y1 % sgnW (wd k0) = sizeW (wd k0) y1 := (size_mod (wide_wd k0) y1 hy1).symm
  have ty : y1.tmod (sgnW (wd k0)) = sizeW (wd k0) y1 := by rw [Int.tmod_eq_emod_of_nonneg hy1.1, ty2]
  have HIy := Lib.hid (show isNaN (wd k0) y1 = decide (infW (wd k0) < sizeW (wd k0) y1) from rfl)
  have HTo := Lib.hid (fun (w : World) (hS : Shapes w) (a b : Int) (ha : 0 ≤ a ∧ a < 2 ^ wd k0) (hb : 0 ≤ b ∧ b < 2 ^ wd k0) => ltotal_calls k0 hk0 w hS a b ha hb)
  have HCm := Lib.hid (fun (w : World) (hS : Shapes w) => lcmp_calls k0 hk0 w hS x1 y1 hx1 hy1)
  have HRk := Lib.hid (total_rk (wide_wd k0))
  have HInj := Lib.hid (rk_inj (wide_wd k0) x1 y1 hx1 hy1)
  have HCd := Lib.hid (show cmpW (wd k0) x1 y1 = if isNaN (wd k0) x1 || isNaN (wd k0) y1 then (0, false) else if sizeW (wd k0) x1 = 0 ∧ sizeW (wd k0) y1 = 0 then (0, true) else (totalW (wd k0) x1 y1, true) from rfl)
  have h := Lib.hid (HTo.out w1 hS x1 y1 hx1 hy1)
  go_wp2_with fail
  refine (h.out).mono ?_
  rintro e w5 ⟨rfl, b⟩
  clear h
  replace hS := hS.below b (Nat.le_refl _)
  replace hT := hT.below b (Nat.le_refl _)
  replace b0 := below_trans b0 b
  clear b
  have h := Lib.hid (HTo.out w5 hS y1 z1 hy1 hz1)
  go_wp2_with fail
  refine (h.out).mono ?_
  rintro e w6 ⟨rfl, b⟩
  clear h
  replace hS := hS.below b (Nat.le_refl _)
  replace hT := hT.below b (Nat.le_refl _)
  replace b0 := below_trans b0 b
  clear b
  have Ha := Lib.hid (HRk.out x1 y1 hx1 hy1)
  have Hb := Lib.hid (HRk.out y1 z1 hy1 hz1)
  have Hc := Lib.hid (HRk.out x1 z1 hx1 hz1)
  have Hd := Lib.hid (HRk.out y1 x1 hy1 hx1)
  have KC := Lib.hid (HTo.out · · x1 z1 hx1 hz1)
  have KD := Lib.hid (HTo.out · · y1 x1 hy1 hx1)
  generalize totalW (wd k0) x1 y1 = a at *
  generalize totalW (wd k0) y1 z1 = b at *
  generalize totalW (wd k0) x1 z1 = c at *
  generalize totalW (wd k0) y1 x1 = d at *
  generalize rk (wd k0) x1 = rx at *
  generalize rk (wd k0) y1 = ry at *
  generalize rk (wd k0) z1 = rz at *
  generalize infW (wd k0) = I at *
  generalize sgnW (wd k0) = S at *
  have hS0 : ¬ S = 0 := by omega
  have hS1 : (S == 0) = false := by simpa using hS0
  generalize hszx : sizeW (wd k0) x1 = sx at *
  clear hszx
  generalize hszy : sizeW (wd k0) y1 = sy at *
  clear hszy
  go_upto_region 8 with (fail)
  go_cut [69] (fun s69 wx => s69 = .bool false ∧ Below w6.heap.size w6 wx)
  case first =>
    rcases Int.lt_trichotomy rx ry with h | h | h
    · by_cases hb : ry ≤ rz
      · skip
        have e1 : a = -1 := by rw [Ha.out]; exact cmpI_lt h
        have e2 : d = 1 := by rw [Hd.out]; exact cmpI_gt h
        have hxy : (x1 == y1) = false := by simp; exact fun e => absurd (HInj.out.2 e) (by omega)
        have hb1 : b ≤ 0 := by rw [Hb.out]; exact cmpI_le hb
        have hc1 : decide (0 < c) = false := by have := cmpI_le (show rx ≤ rz by omega); rw [← Hc.out] at this; exact decide_eq_false (by omega)
        subst e1 e2
        clear Ha Hb Hc Hd HRk HCd HTo h HInj hb
        have D1 := Lib.hid (KD.out w6 hS)
        go_wp2_with fail
        refine (D1.out).mono ?_
        rintro e u1 ⟨rfl, v1⟩
        have D2 := Lib.hid (KC.out u1 (hS.below v1 (Nat.le_refl _)))
        go_wp2_with fail
        refine (D2.out).mono ?_
        rintro e u2 ⟨rfl, v2⟩
        go_wp2_with fail
        go_meet
        case rel => exact ⟨rfl, below_trans v1 v2⟩
      · skip
        have e1 : a = -1 := by rw [Ha.out]; exact cmpI_lt h
        have e2 : d = 1 := by rw [Hd.out]; exact cmpI_gt h
        have hxy : (x1 == y1) = false := by simp; exact fun e => absurd (HInj.out.2 e) (by omega)
        have hb1 : ¬ b ≤ 0 := by rw [Hb.out, cmpI_gt (by omega)]; omega
        subst e1 e2
        clear Ha Hb Hc Hd HRk HCd HTo h HInj hb
        have D1 := Lib.hid (KD.out w6 hS)
        go_wp2_with fail
        refine (D1.out).mono ?_
        rintro e u1 ⟨rfl, v1⟩
        go_wp2_with fail
        go_meet
        case rel => exact ⟨rfl, v1⟩
    · by_cases hb : ry ≤ rz
      · skip
        have e1 : a = 0 := by rw [Ha.out]; exact cmpI_eq h
        have e2 : d = 0 := by rw [Hd.out]; exact cmpI_eq h.symm
        have hxy : (x1 == y1) = true := by simp; exact HInj.out.1 h
        have hb1 : b ≤ 0 := by rw [Hb.out]; exact cmpI_le hb
        have hc1 : decide (0 < c) = false := by have := cmpI_le (show rx ≤ rz by omega); rw [← Hc.out] at this; exact decide_eq_false (by omega)
        subst e1 e2
        clear Ha Hb Hc Hd HRk HCd HTo h HInj hb
        have D1 := Lib.hid (KD.out w6 hS)
        go_wp2_with fail
        refine (D1.out).mono ?_
        rintro e u1 ⟨rfl, v1⟩
        have D2 := Lib.hid (KC.out u1 (hS.below v1 (Nat.le_refl _)))
        go_wp2_with fail
        refine (D2.out).mono ?_
        rintro e u2 ⟨rfl, v2⟩
        go_wp2_with fail
        go_meet
        case rel => exact ⟨rfl, below_trans v1 v2⟩
      · skip
        have e1 : a = 0 := by rw [Ha.out]; exact cmpI_eq h
        have e2 : d = 0 := by rw [Hd.out]; exact cmpI_eq h.symm
        have hxy : (x1 == y1) = true := by simp; exact HInj.out.1 h
        have hb1 : ¬ b ≤ 0 := by rw [Hb.out, cmpI_gt (by omega)]; omega
        subst e1 e2
        clear Ha Hb Hc Hd HRk HCd HTo h HInj hb
        have D1 := Lib.hid (KD.out w6 hS)
        go_wp2_with fail
        refine (D1.out).mono ?_
        rintro e u1 ⟨rfl, v1⟩
        go_wp2_with fail
        go_meet
        case rel => exact ⟨rfl, v1⟩
    · skip
      have e1 : a = 1 := by rw [Ha.out]; exact cmpI_gt h
      have e2 : d = -1 := by rw [Hd.out]; exact cmpI_lt h
      have hxy : (x1 == y1) = false := by simp; exact fun e => absurd (HInj.out.2 e) (by omega)
      subst e1 e2
      clear Ha Hb Hc Hd HRk HCd HTo h HInj
      have D1 := Lib.hid (KD.out w6 hS)
      go_wp2_with fail
      refine (D1.out).mono ?_
      rintro e u1 ⟨rfl, v1⟩
      go_wp2_with fail
      go_meet
      case rel => exact ⟨rfl, v1⟩
  case rest =>
    obtain ⟨rfl, bb⟩ := hcut
    obtain ⟨wr, hwr⟩ : ∃ x, x = wc := ⟨_, rfl⟩
    subst hwr
    replace hS := hS.below bb (Nat.le_refl _)
    replace hT := hT.below bb (Nat.le_refl _)
    replace b0 := below_trans b0 bb
    clear bb Ha Hb Hc Hd HRk HTo HInj KC KD
    by_cases hnx : I < sx
    · skip
      have eC : cmpW (wd k0) x1 y1 = (0, false) := by rw [HCd.out]; rw [HIx.out, decide_eq_true hnx]; rfl
      have KM := HCm.out
      simp only [eC] at KM
      have KM1 := Lib.hid KM
      clear KM eC HCd HCm HIx HIy
      have hnx2 : decide (sx ≤ I) = false := decide_eq_false (by omega)
      have h := Lib.hid (KM1.out wr hS)
      go_wp2_with fail
      refine (h.out).mono ?_
      rintro e w51 ⟨rfl, v⟩
      clear h
      replace b0 := below_trans b0 v
      clear v
      go_wp2_with fail
      go_quiet ((first | (go_at_call 37; exact quiet_left (HSgn.out _)) | (go_at_call 36; exact quiet_left (HTop.out _))))
      have v := below_drewN (Below.refl w51.heap.size w51) nq
      replace b0 := below_trans b0 v
      clear v
      generalize w51.drewN nq = w52 at *
      go_wp2_with fail
      go_ret
      exact ⟨rfl, b0⟩
    · have hnx2 : decide (sx ≤ I) = true := decide_eq_true (by omega)
      by_cases hny : I < sy
      · skip
        have eC : cmpW (wd k0) x1 y1 = (0, false) := by rw [HCd.out]; rw [HIy.out, decide_eq_true hny, Bool.or_true]; rfl
        have KM := HCm.out
        simp only [eC] at KM
        have KM1 := Lib.hid KM
        clear KM eC HCd HCm HIx HIy
        have hny2 : decide (sy ≤ I) = false := decide_eq_false (by omega)
        have h := Lib.hid (KM1.out wr hS)
        go_wp2_with fail
        refine (h.out).mono ?_
        rintro e w51 ⟨rfl, v⟩
        clear h
        replace b0 := below_trans b0 v
        clear v
        go_wp2_with fail
        go_quiet ((first | (go_at_call 37; exact quiet_left (HSgn.out _)) | (go_at_call 36; exact quiet_left (HTop.out _))))
        have v := below_drewN (Below.refl w51.heap.size w51) nq
        replace b0 := below_trans b0 v
        clear v
        generalize w51.drewN nq = w52 at *
        go_wp2_with fail
        go_ret
        exact ⟨rfl, b0⟩
      · have hny2 : decide (sy ≤ I) = true := decide_eq_true (by omega)
        have hnn : (isNaN (wd k0) x1 || isNaN (wd k0) y1) = false := by rw [HIx.out, HIy.out, decide_eq_false hnx, decide_eq_false hny]; rfl
        by_cases hzx : sx = 0
        · have hzx2 : (sx == 0) = true := by simpa using hzx
          by_cases hzy : sy = 0
          · have hzy2 : (sy == 0) = true := by simpa using hzy
            have eC : cmpW (wd k0) x1 y1 = (0, true) := by rw [HCd.out]; rw [hnn, if_neg (by decide), if_pos ⟨hzx, hzy⟩]
            have KM := HCm.out
            simp only [eC] at KM
            have KM1 := Lib.hid KM
            clear KM eC HCd HCm HIx HIy
            clear hzx hzy hnn
            have h := Lib.hid (KM1.out wr hS)
            go_wp2_with fail
            refine (h.out).mono ?_
            rintro e w51 ⟨rfl, v⟩
            clear h
            replace b0 := below_trans b0 v
            clear v
            go_wp2_with fail
            go_quiet ((first | (go_at_call 37; exact quiet_left (HSgn.out _)) | (go_at_call 36; exact quiet_left (HTop.out _))))
            have v := below_drewN (Below.refl w51.heap.size w51) nq
            replace b0 := below_trans b0 v
            clear v
            generalize w51.drewN nq = w52 at *
            have h := Lib.hid (HSgn.out w52)
            go_wp2_with fail
            refine (h.out).mono ?_
            rintro e w' ⟨rfl, rfl⟩
            clear h
            have h := Lib.hid (HSgn.out w52)
            go_wp2_with fail
            refine (h.out).mono ?_
            rintro e w' ⟨rfl, rfl⟩
            clear h
            go_wp2_with fail
            go_ret
            exact ⟨rfl, b0⟩
          · have hzy2 : (sy == 0) = false := by simpa using hzy
            have eC : cmpW (wd k0) x1 y1 = (a, true) := by rw [HCd.out]; rw [hnn, if_neg (by decide), if_neg (fun h => hzy h.2)]
            have KM := HCm.out
            simp only [eC] at KM
            have KM1 := Lib.hid KM
            clear KM eC HCd HCm HIx HIy
            clear hzx hzy hnn
            have h := Lib.hid (KM1.out wr hS)
            go_wp2_with fail
            refine (h.out).mono ?_
            rintro e w51 ⟨rfl, v⟩
            clear h
            replace b0 := below_trans b0 v
            clear v
            go_wp2_with fail
            go_quiet ((first | (go_at_call 37; exact quiet_left (HSgn.out _)) | (go_at_call 36; exact quiet_left (HTop.out _))))
            have v := below_drewN (Below.refl w51.heap.size w51) nq
            replace b0 := below_trans b0 v
            clear v
            generalize w51.drewN nq = w52 at *
            have h := Lib.hid (HSgn.out w52)
            go_wp2_with fail
            refine (h.out).mono ?_
            rintro e w' ⟨rfl, rfl⟩
            clear h
            have h := Lib.hid (HSgn.out w52)
            go_wp2_with fail
            refine (h.out).mono ?_
            rintro e w' ⟨rfl, rfl⟩
            clear h
            go_wp2_with fail
            go_ret
            exact ⟨rfl, b0⟩
        · have hzx2 : (sx == 0) = false := by simpa using hzx
          have eC : cmpW (wd k0) x1 y1 = (a, true) := by rw [HCd.out]; rw [hnn, if_neg (by decide), if_neg (fun h => hzx h.1)]
          have KM := HCm.out
          simp only [eC] at KM
          have KM1 := Lib.hid KM
          clear KM eC HCd HCm HIx HIy
          clear hzx hnn
          have h := Lib.hid (KM1.out wr hS)
          go_wp2_with fail
          refine (h.out).mono ?_
          rintro e w51 ⟨rfl, v⟩
          clear h
          replace b0 := below_trans b0 v
          clear v
          go_wp2_with fail
          go_quiet ((first | (go_at_call 37; exact quiet_left (HSgn.out _)) | (go_at_call 36; exact quiet_left (HTop.out _))))
          have v := below_drewN (Below.refl w51.heap.size w51) nq
          replace b0 := below_trans b0 v
          clear v
          generalize w51.drewN nq = w52 at *
          have h := Lib.hid (HSgn.out w52)
          go_wp2_with fail
          refine (h.out).mono ?_
          rintro e w' ⟨rfl, rfl⟩
          clear h
          go_wp2_with fail
          go_ret
          exact ⟨rfl, b0⟩
end Go.Proofs.YtmnabilgpndjmaaDoor
