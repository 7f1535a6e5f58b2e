/- The law IeeeNearest: its walk. -/
import Derived.Test.YtmnabilgpndjmaaDoorPk2
import Derived.Test.YtmnabilgpndjmaaDoorPk3
import Derived.Test.YtmnabilgpndjmaaDoorPk16
import Derived.Test.YtmnabilgpndjmaaDoorPk25
import Derived.Test.YtmnabilgpndjmaaDoorPk31
set_option linter.unusedVariables false
set_option linter.unusedSimpArgs false
/- The law IeeeNearest: its walk out of the contracts of what it calls. (Printed by law5.py.) -/
namespace Go.Proofs.YtmnabilgpndjmaaDoor
open Go.RowKit


theorem round_pos (W : Nat) (V p : Int) (more : Bool) : roundW W false V p more = (nearE W (rM V more) (rE p more) : Nat) := by unfold roundW; simp

set_option maxRecDepth 20000 in
set_option maxHeartbeats 2000000 in
theorem walk_IeeeNearest (w : World) (hS : Shapes w) (hT : Tab w) (k0 : Int) (hk0 : 0 ≤ k0 ∧ k0 < 256) (adm : Option Addr) (nm cm : Nat) (xm : List Int) (hncm : nm ≤ cm) (hnm : nm * 4 ≤ 140737488351232) (hrm : Rds w .u32 adm nm xm) (dxm : Dig 4294967296 xm) (p0 : Int) (hp0 : -32768 ≤ p0 ∧ p0 < 32768) (more : Bool) :
    Calls Tryd.prog 9 #[.int .u8 k0, .slice adm nm cm, .int .i16 p0, .bool more] w (LawTrue w) := by
  have fm : Arg w adm nm cm xm := ⟨hncm, hrm, dxm⟩
  clear hrm dxm
  have b0 : Below w.heap.size w w := Below.refl _ _
  go_enter Tryd.func9, Tryd.ntmps9
  have h := Lib.hid (llives_calls w hS hT)
  go_wp2_with fail
  refine (h.out).mono ?_
  rintro e w1 ⟨rfl, b⟩
  clear h
  replace fm := fm.below b (Nat.le_refl _)
  replace hS := hS.below b (Nat.le_refl _)
  replace hT := hT.below b (Nat.le_refl _)
  replace b0 := below_trans b0 b
  clear b
  by_cases hn60 : 60 < nm
  · skip
    go_wp2_with fail
    go_ret
    exact ⟨rfl, b0⟩
  · have hn61 : nm ≤ 60 := by omega
    have Zm := Lib.hid fm.nonneg
    have Tm := Lib.hid (Int.lt_of_lt_of_le fm.lt (pow_le (b := 4294967296) (by omega) hn61))
    obtain ⟨p, hp⟩ : ∃ p, p0.tmod 2000 = p := ⟨_, rfl⟩
    have hpb : -2000 < p ∧ p < 2000 := by rw [← hp]; exact ⟨Int.lt_tmod_of_pos _ (by decide), Int.tmod_lt_of_pos _ (by decide)⟩
    have Wc : IntKind.i64.wrap p0 = p0 := IntWalk.i64_in _ (by omega)
    have h := Lib.hid (lround_calls k0 hk0 w1 hS false _ _ _ _ p more fm.num (by omega) (by omega))
    go_wp2_with fail
    refine (h.out).mono ?_
    rintro e w2 ⟨rfl, b⟩
    clear h
    replace fm := fm.below b (Nat.le_refl _)
    replace hS := hS.below b (Nat.le_refl _)
    replace hT := hT.below b (Nat.le_refl _)
    replace b0 := below_trans b0 b
    clear b
    have HTop := Lib.hid (ltop_calls k0 hk0)
    have hfit := inf_fits (wide_wd k0)
    have hpw := pow_wide (wide_wd k0)
    have HRd := Lib.hid (round_pos (wd k0) (val 4294967296 xm) p more)
    generalize roundW (wd k0) false (val 4294967296 xm) p more = r at *
    have W1 : IntKind.i64.wrap (p - 1) = p - 1 := IntWalk.i64_in _ (by omega)
    cases more
    · skip
      have HNm := Lib.hid (near_mid (wide_wd k0) (val 4294967296 xm) p Zm.out r (by rw [HRd.out]; rfl))
      have LT := Lib.hid (Int.lt_of_lt_of_le Tm.out (pow_le (b := 4294967296) (by omega) (show 60 ≤ 4096 by omega)))
      obtain ⟨hr, n1, n2⟩ := HNm.out
      have N1 := Lib.hid n1
      have N2 := Lib.hid n2
      clear n1 n2 HNm HRd
      have hrt : ¬ infW (wd k0) < r := by omega
      have h := Lib.hid (HTop.out w2)
      go_wp2_with fail
      refine (h.out).mono ?_
      rintro e w' ⟨rfl, rfl⟩
      clear h
      by_cases hrI : r < infW (wd k0)
      · have HM1 := Lib.hid (lmiddle_calls k0 hk0 r (by omega) _ _ _ (val 4294967296 xm) p w2 hS hT fm.num LT.out (by omega) (by omega))
        have h := Lib.hid (HTop.out w2)
        go_wp2_with fail
        refine (h.out).mono ?_
        rintro e w' ⟨rfl, rfl⟩
        clear h
        have N3 := Lib.hid (N1.out hrI)
        generalize midC (wd k0) r (val 4294967296 xm) p = c1 at *
        have h := Lib.hid (HM1.out)
        go_wp2_with fail
        refine (h.out).mono ?_
        rintro e w5 ⟨rfl, b⟩
        clear h
        replace fm := fm.below b (Nat.le_refl _)
        replace hS := hS.below b (Nat.le_refl _)
        replace hT := hT.below b (Nat.le_refl _)
        replace b0 := below_trans b0 b
        clear b
        by_cases hr0 : 0 < r
        · rcases (show c1 < 0 ∨ (c1 = 0 ∧ r % 2 = 0) by have := N3.out; omega) with h | ⟨h, h5⟩
          · have hc1 : ¬ 0 < c1 := by omega
            have hc2 : (c1 == 0) = false := by simp; omega
            have V1 : IntKind.u64.wrap (r - 1) = r - 1 := by rw [IntKind.wrap_u64]; omega
            have V2 : (r - 1) % 18446744073709551616 = r - 1 := by omega
            have HM2 := Lib.hid (lmiddle_calls k0 hk0 (r - 1) (by omega) _ _ _ (val 4294967296 xm) p w5 hS hT fm.num LT.out (by omega) (by omega))
            have N4 := Lib.hid (N2.out hr0)
            generalize midC (wd k0) (r - 1) (val 4294967296 xm) p = c2 at *
            have h := Lib.hid (HM2.out)
            go_wp2_with fail
            refine (h.out).mono ?_
            rintro e w6 ⟨rfl, b⟩
            clear h
            replace fm := fm.below b (Nat.le_refl _)
            replace hS := hS.below b (Nat.le_refl _)
            replace hT := hT.below b (Nat.le_refl _)
            replace b0 := below_trans b0 b
            clear b
            rcases (show 0 < c2 ∨ (c2 = 0 ∧ r % 2 = 0) by have := N4.out; omega) with h | ⟨h, h5⟩
            · go_wp2_with fail
              go_ret
              exact ⟨rfl, b0⟩
            · subst h
              have V3 : r.tmod 2 = 0 := by rw [Int.tmod_eq_emod_of_nonneg (by omega)]; exact h5
              go_wp2_with fail
              go_ret
              exact ⟨rfl, b0⟩
          · subst h
            have V0 : r.tmod 2 = 0 := by rw [Int.tmod_eq_emod_of_nonneg (by omega)]; exact h5
            have V1 : IntKind.u64.wrap (r - 1) = r - 1 := by rw [IntKind.wrap_u64]; omega
            have V2 : (r - 1) % 18446744073709551616 = r - 1 := by omega
            have HM2 := Lib.hid (lmiddle_calls k0 hk0 (r - 1) (by omega) _ _ _ (val 4294967296 xm) p w5 hS hT fm.num LT.out (by omega) (by omega))
            have N4 := Lib.hid (N2.out hr0)
            generalize midC (wd k0) (r - 1) (val 4294967296 xm) p = c2 at *
            have h := Lib.hid (HM2.out)
            go_wp2_with fail
            refine (h.out).mono ?_
            rintro e w6 ⟨rfl, b⟩
            clear h
            replace fm := fm.below b (Nat.le_refl _)
            replace hS := hS.below b (Nat.le_refl _)
            replace hT := hT.below b (Nat.le_refl _)
            replace b0 := below_trans b0 b
            clear b
            rcases (show 0 < c2 ∨ (c2 = 0 ∧ r % 2 = 0) by have := N4.out; omega) with h | ⟨h, h5⟩
            · go_wp2_with fail
              go_ret
              exact ⟨rfl, b0⟩
            · subst h
              have V3 : r.tmod 2 = 0 := by rw [Int.tmod_eq_emod_of_nonneg (by omega)]; exact h5
              go_wp2_with fail
              go_ret
              exact ⟨rfl, b0⟩
        · rcases (show c1 < 0 ∨ (c1 = 0 ∧ r % 2 = 0) by have := N3.out; omega) with h | ⟨h, h5⟩
          · have hc1 : ¬ 0 < c1 := by omega
            have hc2 : (c1 == 0) = false := by simp; omega
            go_wp2_with fail
            go_ret
            exact ⟨rfl, b0⟩
          · subst h
            have V0 : r.tmod 2 = 0 := by rw [Int.tmod_eq_emod_of_nonneg (by omega)]; exact h5
            go_wp2_with fail
            go_ret
            exact ⟨rfl, b0⟩
      · have hr0 : 0 < r := by omega
        have h := Lib.hid (HTop.out w2)
        go_wp2_with fail
        refine (h.out).mono ?_
        rintro e w' ⟨rfl, rfl⟩
        clear h
        have V1 : IntKind.u64.wrap (r - 1) = r - 1 := by rw [IntKind.wrap_u64]; omega
        have V2 : (r - 1) % 18446744073709551616 = r - 1 := by omega
        have HM2 := Lib.hid (lmiddle_calls k0 hk0 (r - 1) (by omega) _ _ _ (val 4294967296 xm) p w2 hS hT fm.num LT.out (by omega) (by omega))
        have N4 := Lib.hid (N2.out hr0)
        generalize midC (wd k0) (r - 1) (val 4294967296 xm) p = c2 at *
        have h := Lib.hid (HM2.out)
        go_wp2_with fail
        refine (h.out).mono ?_
        rintro e w5 ⟨rfl, b⟩
        clear h
        replace fm := fm.below b (Nat.le_refl _)
        replace hS := hS.below b (Nat.le_refl _)
        replace hT := hT.below b (Nat.le_refl _)
        replace b0 := below_trans b0 b
        clear b
        rcases (show 0 < c2 ∨ (c2 = 0 ∧ r % 2 = 0) by have := N4.out; omega) with h | ⟨h, h5⟩
        · go_wp2_with fail
          go_ret
          exact ⟨rfl, b0⟩
        · subst h
          have V3 : r.tmod 2 = 0 := by rw [Int.tmod_eq_emod_of_nonneg (by omega)]; exact h5
          go_wp2_with fail
          go_ret
          exact ⟨rfl, b0⟩
    · skip
      have T1 := Lib.hid (show (val 4294967296 xm) + (val 4294967296 xm) < 4294967296 ^ 61 by have := double_lt Zm.out Tm.out; omega)
      have T2 := Lib.hid (double_lt Zm.out Tm.out)
      have Z2 := Lib.hid (show 0 ≤ (val 4294967296 xm) + (val 4294967296 xm) by have := Zm.out; omega)
      have Z3 := Lib.hid (show 0 ≤ (val 4294967296 xm) + (val 4294967296 xm) + 1 by have := Zm.out; omega)
      have h := Lib.hid (num_add _ _ _ _ _ _ _ _ w2 fm.num fm.num (by omega) (by omega))
      go_wp2_with fail
      refine (h.out).mono ?_
      rintro e w3 ⟨add, nd, cd, rfl, fd, b⟩
      clear h
      replace fm := fm.below b (Nat.le_refl _)
      replace hS := hS.below b (Nat.le_refl _)
      replace hT := hT.below b (Nat.le_refl _)
      replace b0 := below_trans b0 b
      clear b
      have ld := fd.len_le _ T1.out
      have h := Lib.hid ((from_calls 1 w3 (by omega) (by omega)).mono fun e w' q => q.can)
      go_wp2_with fail
      refine (h.out).mono ?_
      rintro e w4 ⟨adi, ni, ci, rfl, fi, b⟩
      clear h
      replace fm := fm.below b (Nat.le_refl _)
      replace hS := hS.below b (Nat.le_refl _)
      replace hT := hT.below b (Nat.le_refl _)
      replace fd := fd.below b (Nat.le_refl _)
      replace b0 := below_trans b0 b
      clear b
      have li := fi.len_le 1 (by decide)
      have h := Lib.hid (num_add _ _ _ _ _ _ _ _ w4 (fd.num Z2.out) (fi.num (by omega)) (by omega) (by omega))
      go_wp2_with fail
      refine (h.out).mono ?_
      rintro e w5 ⟨adv, nv, cv, rfl, fv, b⟩
      clear h
      replace fm := fm.below b (Nat.le_refl _)
      replace hS := hS.below b (Nat.le_refl _)
      replace hT := hT.below b (Nat.le_refl _)
      replace fd := fd.below b (Nat.le_refl _)
      replace fi := fi.below b (Nat.le_refl _)
      replace b0 := below_trans b0 b
      clear b
      have lv := fv.len_le _ T2.out
      have HVn := Lib.hid (fv.num Z3.out)
      have HNm := Lib.hid (near_mid (wide_wd k0) ((val 4294967296 xm) + (val 4294967296 xm) + 1) (p - 1) Z3.out r (by rw [HRd.out]; congr 2; show 2 * ((val 4294967296 xm)).toNat + 1 = _; have := Zm.out; omega))
      have LT := Lib.hid (Int.lt_of_lt_of_le T2.out (pow_le (b := 4294967296) (by omega) (show 60 + 1 ≤ 4096 by omega)))
      obtain ⟨hr, n1, n2⟩ := HNm.out
      have N1 := Lib.hid n1
      have N2 := Lib.hid n2
      clear n1 n2 HNm HRd
      have hrt : ¬ infW (wd k0) < r := by omega
      have h := Lib.hid (HTop.out w5)
      go_wp2_with fail
      refine (h.out).mono ?_
      rintro e w' ⟨rfl, rfl⟩
      clear h
      by_cases hrI : r < infW (wd k0)
      · have HM1 := Lib.hid (lmiddle_calls k0 hk0 r (by omega) _ _ _ ((val 4294967296 xm) + (val 4294967296 xm) + 1) (p - 1) w5 hS hT (fv.num Z3.out) LT.out (by omega) (by omega))
        have h := Lib.hid (HTop.out w5)
        go_wp2_with fail
        refine (h.out).mono ?_
        rintro e w' ⟨rfl, rfl⟩
        clear h
        have N3 := Lib.hid (N1.out hrI)
        generalize midC (wd k0) r ((val 4294967296 xm) + (val 4294967296 xm) + 1) (p - 1) = c1 at *
        have h := Lib.hid (HM1.out)
        go_wp2_with fail
        refine (h.out).mono ?_
        rintro e w8 ⟨rfl, b⟩
        clear h
        replace fm := fm.below b (Nat.le_refl _)
        replace hS := hS.below b (Nat.le_refl _)
        replace hT := hT.below b (Nat.le_refl _)
        replace fd := fd.below b (Nat.le_refl _)
        replace fi := fi.below b (Nat.le_refl _)
        replace fv := fv.below b (Nat.le_refl _)
        replace b0 := below_trans b0 b
        clear b
        by_cases hr0 : 0 < r
        · rcases (show c1 < 0 ∨ (c1 = 0 ∧ r % 2 = 0) by have := N3.out; omega) with h | ⟨h, h5⟩
          · have hc1 : ¬ 0 < c1 := by omega
            have hc2 : (c1 == 0) = false := by simp; omega
            have V1 : IntKind.u64.wrap (r - 1) = r - 1 := by rw [IntKind.wrap_u64]; omega
            have V2 : (r - 1) % 18446744073709551616 = r - 1 := by omega
            have HM2 := Lib.hid (lmiddle_calls k0 hk0 (r - 1) (by omega) _ _ _ ((val 4294967296 xm) + (val 4294967296 xm) + 1) (p - 1) w8 hS hT (fv.num Z3.out) LT.out (by omega) (by omega))
            have N4 := Lib.hid (N2.out hr0)
            generalize midC (wd k0) (r - 1) ((val 4294967296 xm) + (val 4294967296 xm) + 1) (p - 1) = c2 at *
            have h := Lib.hid (HM2.out)
            go_wp2_with fail
            refine (h.out).mono ?_
            rintro e w9 ⟨rfl, b⟩
            clear h
            replace fm := fm.below b (Nat.le_refl _)
            replace hS := hS.below b (Nat.le_refl _)
            replace hT := hT.below b (Nat.le_refl _)
            replace fd := fd.below b (Nat.le_refl _)
            replace fi := fi.below b (Nat.le_refl _)
            replace fv := fv.below b (Nat.le_refl _)
            replace b0 := below_trans b0 b
            clear b
            rcases (show 0 < c2 ∨ (c2 = 0 ∧ r % 2 = 0) by have := N4.out; omega) with h | ⟨h, h5⟩
            · go_wp2_with fail
              go_ret
              exact ⟨rfl, b0⟩
            · subst h
              have V3 : r.tmod 2 = 0 := by rw [Int.tmod_eq_emod_of_nonneg (by omega)]; exact h5
              go_wp2_with fail
              go_ret
              exact ⟨rfl, b0⟩
          · subst h
            have V0 : r.tmod 2 = 0 := by rw [Int.tmod_eq_emod_of_nonneg (by omega)]; exact h5
            have V1 : IntKind.u64.wrap (r - 1) = r - 1 := by rw [IntKind.wrap_u64]; omega
            have V2 : (r - 1) % 18446744073709551616 = r - 1 := by omega
            have HM2 := Lib.hid (lmiddle_calls k0 hk0 (r - 1) (by omega) _ _ _ ((val 4294967296 xm) + (val 4294967296 xm) + 1) (p - 1) w8 hS hT (fv.num Z3.out) LT.out (by omega) (by omega))
            have N4 := Lib.hid (N2.out hr0)
            generalize midC (wd k0) (r - 1) ((val 4294967296 xm) + (val 4294967296 xm) + 1) (p - 1) = c2 at *
            have h := Lib.hid (HM2.out)
            go_wp2_with fail
            refine (h.out).mono ?_
            rintro e w9 ⟨rfl, b⟩
            clear h
            replace fm := fm.below b (Nat.le_refl _)
            replace hS := hS.below b (Nat.le_refl _)
            replace hT := hT.below b (Nat.le_refl _)
            replace fd := fd.below b (Nat.le_refl _)
            replace fi := fi.below b (Nat.le_refl _)
            replace fv := fv.below b (Nat.le_refl _)
            replace b0 := below_trans b0 b
            clear b
            rcases (show 0 < c2 ∨ (c2 = 0 ∧ r % 2 = 0) by have := N4.out; omega) with h | ⟨h, h5⟩
            · go_wp2_with fail
              go_ret
              exact ⟨rfl, b0⟩
            · subst h
              have V3 : r.tmod 2 = 0 := by rw [Int.tmod_eq_emod_of_nonneg (by omega)]; exact h5
              go_wp2_with fail
              go_ret
              exact ⟨rfl, b0⟩
        · rcases (show c1 < 0 ∨ (c1 = 0 ∧ r % 2 = 0) by have := N3.out; omega) with h | ⟨h, h5⟩
          · have hc1 : ¬ 0 < c1 := by omega
            have hc2 : (c1 == 0) = false := by simp; omega
            go_wp2_with fail
            go_ret
            exact ⟨rfl, b0⟩
          · subst h
            have V0 : r.tmod 2 = 0 := by rw [Int.tmod_eq_emod_of_nonneg (by omega)]; exact h5
            go_wp2_with fail
            go_ret
            exact ⟨rfl, b0⟩
      · have hr0 : 0 < r := by omega
        have h := Lib.hid (HTop.out w5)
        go_wp2_with fail
        refine (h.out).mono ?_
        rintro e w' ⟨rfl, rfl⟩
        clear h
        have V1 : IntKind.u64.wrap (r - 1) = r - 1 := by rw [IntKind.wrap_u64]; omega
        have V2 : (r - 1) % 18446744073709551616 = r - 1 := by omega
        have HM2 := Lib.hid (lmiddle_calls k0 hk0 (r - 1) (by omega) _ _ _ ((val 4294967296 xm) + (val 4294967296 xm) + 1) (p - 1) w5 hS hT (fv.num Z3.out) LT.out (by omega) (by omega))
        have N4 := Lib.hid (N2.out hr0)
        generalize midC (wd k0) (r - 1) ((val 4294967296 xm) + (val 4294967296 xm) + 1) (p - 1) = c2 at *
        have h := Lib.hid (HM2.out)
        go_wp2_with fail
        refine (h.out).mono ?_
        rintro e w8 ⟨rfl, b⟩
        clear h
        replace fm := fm.below b (Nat.le_refl _)
        replace hS := hS.below b (Nat.le_refl _)
        replace hT := hT.below b (Nat.le_refl _)
        replace fd := fd.below b (Nat.le_refl _)
        replace fi := fi.below b (Nat.le_refl _)
        replace fv := fv.below b (Nat.le_refl _)
        replace b0 := below_trans b0 b
        clear b
        rcases (show 0 < c2 ∨ (c2 = 0 ∧ r % 2 = 0) by have := N4.out; omega) with h | ⟨h, h5⟩
        · go_wp2_with fail
          go_ret
          exact ⟨rfl, b0⟩
        · subst h
          have V3 : r.tmod 2 = 0 := by rw [Int.tmod_eq_emod_of_nonneg (by omega)]; exact h5
          go_wp2_with fail
          go_ret
          exact ⟨rfl, b0⟩
end Go.Proofs.YtmnabilgpndjmaaDoor
