/- The law IeeeBack: its walk. -/
import Derived.Deep.DeepCutAuto
import Derived.Test.YtmnabilgpndjmaaDoorPk2
import Derived.Test.YtmnabilgpndjmaaDoorPk3
import Derived.Test.YtmnabilgpndjmaaDoorPk12
import Derived.Test.YtmnabilgpndjmaaDoorPk13
import Derived.Test.YtmnabilgpndjmaaDoorPk24
import Derived.Test.YtmnabilgpndjmaaDoorPk25
import Derived.Test.YtmnabilgpndjmaaDoorPk30
import Derived.Test.YtmnabilgpndjmaaDoorPk32
set_option linter.unusedVariables false
set_option linter.unusedSimpArgs false
/- The law IeeeBack: its walk out of the contracts of what it calls. (Printed by law5.py.) -/
namespace Go.Proofs.YtmnabilgpndjmaaDoor
open Go.RowKit


structure LtBig (V : Int) : Prop where
  lt : V < 4294967296 ^ (2 + 4097)
theorem sI_self (N : Int) : sI (decide (N < 0)) N.natAbs = N := by
  unfold sI
  by_cases h : N < 0
  · rw [decide_eq_true h, if_pos rfl]; omega
  · rw [decide_eq_false h, if_neg (by decide)]; omega

set_option maxRecDepth 20000 in
set_option maxHeartbeats 2000000 in
theorem walk_IeeeBack (w : World) (hS : Shapes w) (hT : Tab w) (v0 : Int) (hv0 : 0 ≤ v0 ∧ v0 < 256) (k0 : Int) (hk0 : 0 ≤ k0 ∧ k0 < 256) (x : Int) (hx : 0 ≤ x ∧ x < 18446744073709551616) :
    Calls Tryd.prog 13 #[.int .u8 v0, .int .u8 k0, .int .u64 x] w (LawTrue w) := by
  have b0 : Below w.heap.size w w := Below.refl _ _
  go_enter Tryd.func13, Tryd.ntmps13
  have h := Lib.hid (llives_calls w hS hT)
  go_wp2_with fail
  refine (h.out).mono ?_
  rintro e w1 ⟨rfl, b⟩
  clear h
  replace hS := hS.below b (Nat.le_refl _)
  replace hT := hT.below b (Nat.le_refl _)
  replace b0 := below_trans b0 b
  clear b
  have h := Lib.hid (lfit_calls k0 hk0 x hx w1)
  go_wp2_with fail
  refine (h.out).mono ?_
  rintro e w' ⟨rfl, rfl⟩
  clear h
  have hx1 := fit_bd (wide_wd k0) x
  generalize x % 2 ^ wd k0 = x1 at *
  have HSgn := Lib.hid (lsign_calls k0 hk0)
  have HTop := Lib.hid (ltop_calls k0 hk0)
  have HNan := Lib.hid (lnan_calls k0 hk0)
  have HNaV := Lib.hid (lnan_calls v0 hv0)
  have HWk := Lib.hid (lwidth_calls k0 hk0)
  have HWv := Lib.hid (lwidth_calls v0 hv0)
  have hfit := inf_fits (wide_wd k0)
  have hpw := pow_wide (wide_wd k0)
  have Bx := size_bounds (wide_wd k0) x1 hx1
  have tx2 : x1 % sgnW (wd k0) = sizeW (wd k0) x1 := (size_mod (wide_wd k0) x1 hx1).symm
  have tx : x1.tmod (sgnW (wd k0)) = sizeW (wd k0) x1 := by rw [Int.tmod_eq_emod_of_nonneg hx1.1, tx2]
  have hyb := toW_bd (wide_wd v0) (wd k0) x1
  have HBF := Lib.hid (back_facts (wide_wd v0) (wide_wd k0) x1 hx1)
  have HO := Lib.hid (show pOk (wd k0) x1 = decide (sizeW (wd k0) x1 < infW (wd k0)) from rfl)
  have HNn := Lib.hid (show isNaN (wd k0) x1 = decide (infW (wd k0) < sizeW (wd k0) x1) from rfl)
  have HRP := Lib.hid (round_parts (wide_wd k0) x1 hx1)
  have HNg := Lib.hid (pNeg_of (W := wd k0) x1)
  have HIB := Lib.hid (int_back (wide_wd k0) x1 hx1)
  have HNI := Lib.hid (not_int (W := wd k0) x1)
  have HPN := Lib.hid (parts_num (wide_wd k0) (sizeW (wd k0) x1) Bx.1)
  have HPS := Lib.hid (parts_size (wide_wd k0) x1 hx1)
  have hm := pM_bd (wide_wd k0) x1
  have he := pE_bd (wide_wd k0) x1
  have HZ : LtBig ((intN (wd k0) x1).natAbs : Int) := ⟨intN_bd (wide_wd k0) x1⟩
  have hS0 : ¬ sgnW (wd k0) = 0 := by omega
  have hS1 : (sgnW (wd k0) == 0) = false := by simpa using hS0
  have h := Lib.hid (HSgn.out w1)
  go_wp2_with fail
  refine (h.out).mono ?_
  rintro e w' ⟨rfl, rfl⟩
  clear h
  have h := Lib.hid (lparts_calls k0 hk0 w1 hS hT x1 hx1)
  go_wp2_with fail
  refine (h.out).mono ?_
  rintro e w4 ⟨rfl, b⟩
  clear h
  replace hS := hS.below b (Nat.le_refl _)
  replace hT := hT.below b (Nat.le_refl _)
  replace b0 := below_trans b0 b
  clear b
  go_upto_region 6 with (fail)
  go_cut [7, 8, 9, 10, 11, 72] from 20 (fun s7 s8 s9 s10 s11 s72 wx => s7 = .int .u64 (sizeW (wd k0) x1) ∧ s72 = .bool false ∧ Below w4.heap.size w4 wx)
  case first =>
    by_cases hok : sizeW (wd k0) x1 < infW (wd k0)
    · have hk1 : pOk (wd k0) x1 = true := by rw [HO.out]; exact decide_eq_true hok
      have hd1 : decide (sizeW (wd k0) x1 < infW (wd k0)) = true := decide_eq_true hok
      have hng := HNg.out hk1
      obtain ⟨-, -, -, o4, o5⟩ := HPN.out hok
      rw [HPS.out.1] at o4 o5
      have R := HRP.out hk1
      have HRd := fun (w : World) (hS : Shapes w) (ad : Option Addr) (n c : Nat) (h : Num w ad n c (pM (wd k0) x1)) (hn : n ≤ 2) => lround_calls k0 hk0 w hS (pNeg (wd k0) x1) ad n c (pM (wd k0) x1) (pE (wd k0) x1) false h (by omega) (by omega)
      rw [R] at HRd
      have HR2 := Lib.hid HRd
      rw [hk1]
      clear HRd R HRP HO HBF HIB HNI HPN HPS HZ HNn HNg
      have hneg : (pNeg (wd k0) x1 = true ∧ sgnW (wd k0) ≤ x1) ∨ (pNeg (wd k0) x1 = false ∧ ¬ sgnW (wd k0) ≤ x1) := by
        rw [hng]
        unfold negW
        by_cases h : sgnW (wd k0) ≤ x1
        · left; exact ⟨decide_eq_true h, h⟩
        · right; exact ⟨decide_eq_false h, h⟩
      have hodd : (sizeW (wd k0) x1 = 0 ∧ pM (wd k0) x1 = 0) ∨ (sizeW (wd k0) x1 ≠ 0 ∧ pM (wd k0) x1 % 2 = 1) := by
        by_cases h : sizeW (wd k0) x1 = 0
        · left; exact ⟨h, o4 h⟩
        · right; exact ⟨h, (o5 (by omega)).2⟩
      clear o4 o5 hng hk1
      generalize pNeg (wd k0) x1 = ng at *
      generalize pM (wd k0) x1 = m at *
      generalize pE (wd k0) x1 = pe at *
      generalize sizeW (wd k0) x1 = sx at *
      generalize infW (wd k0) = I at *
      generalize sgnW (wd k0) = S at *
      have F1 := fun w => Lib.hid ((from_calls m w hm.1 (by omega)).mono fun e w' q => q.can)
      have F2 := Lib.hid F1
      clear F1
      rcases hneg with ⟨rfl, hsx⟩ | ⟨rfl, hsx⟩ <;> rcases hodd with ⟨rfl, rfl⟩ | ⟨hs0, hmo⟩
      · skip
        have hd2 : decide (S ≤ x1) = true := decide_eq_true hsx
        go_wp2_with fail
        refine (HTop.out w4).mono ?_
        rintro e w' ⟨rfl, rfl⟩
        go_wp2_with fail
        refine (HSgn.out w4).mono ?_
        rintro e w' ⟨rfl, rfl⟩
        have F3 := F2.out w4
        go_wp2_with fail
        refine (F3.out).mono ?_
        rintro e u1 ⟨adf, nf, cf, rfl, ff, bf⟩
        have lf := ff.len_le 2 (Int.lt_of_lt_of_le hm.2 (by decide))
        have F4 := Lib.hid (HR2.out u1 (hS.below bf (Nat.le_refl _)) adf nf cf (ff.num hm.1) lf)
        go_wp2_with fail
        refine (F4.out).mono ?_
        rintro e u2 ⟨rfl, bg⟩
        go_wp2_with fail
        go_meet
        case rel => exact ⟨rfl, rfl, below_trans bf bg⟩
      · skip
        have hd2 : decide (S ≤ x1) = true := decide_eq_true hsx
        have hmt : m.tmod 2 = 1 := by rw [Int.tmod_eq_emod_of_nonneg hm.1]; exact hmo
        have hsz : (sx == 0) = false := by simpa using hs0
        clear hs0
        go_wp2_with fail
        refine (HTop.out w4).mono ?_
        rintro e w' ⟨rfl, rfl⟩
        go_wp2_with fail
        refine (HSgn.out w4).mono ?_
        rintro e w' ⟨rfl, rfl⟩
        have F3 := F2.out w4
        go_wp2_with fail
        refine (F3.out).mono ?_
        rintro e u1 ⟨adf, nf, cf, rfl, ff, bf⟩
        have lf := ff.len_le 2 (Int.lt_of_lt_of_le hm.2 (by decide))
        have F4 := Lib.hid (HR2.out u1 (hS.below bf (Nat.le_refl _)) adf nf cf (ff.num hm.1) lf)
        go_wp2_with fail
        refine (F4.out).mono ?_
        rintro e u2 ⟨rfl, bg⟩
        go_wp2_with fail
        go_meet
        case rel => exact ⟨rfl, rfl, below_trans bf bg⟩
      · skip
        have hd2 : decide (S ≤ x1) = false := decide_eq_false hsx
        go_wp2_with fail
        refine (HTop.out w4).mono ?_
        rintro e w' ⟨rfl, rfl⟩
        go_wp2_with fail
        refine (HSgn.out w4).mono ?_
        rintro e w' ⟨rfl, rfl⟩
        have F3 := F2.out w4
        go_wp2_with fail
        refine (F3.out).mono ?_
        rintro e u1 ⟨adf, nf, cf, rfl, ff, bf⟩
        have lf := ff.len_le 2 (Int.lt_of_lt_of_le hm.2 (by decide))
        have F4 := Lib.hid (HR2.out u1 (hS.below bf (Nat.le_refl _)) adf nf cf (ff.num hm.1) lf)
        go_wp2_with fail
        refine (F4.out).mono ?_
        rintro e u2 ⟨rfl, bg⟩
        go_wp2_with fail
        go_meet
        case rel => exact ⟨rfl, rfl, below_trans bf bg⟩
      · skip
        have hd2 : decide (S ≤ x1) = false := decide_eq_false hsx
        have hmt : m.tmod 2 = 1 := by rw [Int.tmod_eq_emod_of_nonneg hm.1]; exact hmo
        have hsz : (sx == 0) = false := by simpa using hs0
        clear hs0
        go_wp2_with fail
        refine (HTop.out w4).mono ?_
        rintro e w' ⟨rfl, rfl⟩
        go_wp2_with fail
        refine (HSgn.out w4).mono ?_
        rintro e w' ⟨rfl, rfl⟩
        have F3 := F2.out w4
        go_wp2_with fail
        refine (F3.out).mono ?_
        rintro e u1 ⟨adf, nf, cf, rfl, ff, bf⟩
        have lf := ff.len_le 2 (Int.lt_of_lt_of_le hm.2 (by decide))
        have F4 := Lib.hid (HR2.out u1 (hS.below bf (Nat.le_refl _)) adf nf cf (ff.num hm.1) lf)
        go_wp2_with fail
        refine (F4.out).mono ?_
        rintro e u2 ⟨rfl, bg⟩
        go_wp2_with fail
        go_meet
        case rel => exact ⟨rfl, rfl, below_trans bf bg⟩
    · have hk1 : pOk (wd k0) x1 = false := by rw [HO.out]; exact decide_eq_false hok
      have hd1 : decide (sizeW (wd k0) x1 < infW (wd k0)) = false := decide_eq_false hok
      rw [hk1]
      go_wp2_with fail
      refine (HTop.out w4).mono ?_
      rintro e w' ⟨rfl, rfl⟩
      go_wp2_with fail
      go_meet
      case rel => exact ⟨rfl, rfl, Below.refl _ _⟩
  case rest =>
    obtain ⟨rfl, rfl, b⟩ := hcut
    obtain ⟨w5, hww5⟩ : ∃ x, x = wc := ⟨_, rfl⟩
    subst hww5
    replace hS := hS.below b (Nat.le_refl _)
    replace hT := hT.below b (Nat.le_refl _)
    replace b0 := below_trans b0 b
    clear b
    clear HRP HNg HPN HPS
    have HY := Lib.hid (fun (w : World) (hS : Shapes w) (hT : Tab w) => lto_calls k0 hk0 v0 hv0 w hS hT _ hyb)
    have h := Lib.hid (lto_calls v0 hv0 k0 hk0 w5 hS hT x1 hx1)
    go_wp2_with fail
    refine (h.out).mono ?_
    rintro e w6 ⟨rfl, b⟩
    clear h
    replace hS := hS.below b (Nat.le_refl _)
    replace hT := hT.below b (Nat.le_refl _)
    replace b0 := below_trans b0 b
    clear b
    have h := Lib.hid (HY.out w6 hS hT)
    go_wp2_with fail
    refine (h.out).mono ?_
    rintro e w7 ⟨rfl, b⟩
    clear h
    replace hS := hS.below b (Nat.le_refl _)
    replace hT := hT.below b (Nat.le_refl _)
    replace b0 := below_trans b0 b
    clear b
    clear HY hyb
    generalize (toW (wd k0) (wd v0) (toW (wd v0) (wd k0) x1).1).1 = bk at *
    generalize (toW (wd k0) (wd v0) (toW (wd v0) (wd k0) x1).1).2 = bk2 at *
    generalize (toW (wd v0) (wd k0) x1).1 = y at *
    generalize (toW (wd v0) (wd k0) x1).2 = s at *
    have h := Lib.hid (HTop.out w7)
    go_wp2_with fail
    refine (h.out).mono ?_
    rintro e w' ⟨rfl, rfl⟩
    clear h
    by_cases hnan : infW (wd k0) < sizeW (wd k0) x1
    · obtain ⟨q1, q2, q3⟩ := HBF.out.1 (by rw [HNn.out]; exact decide_eq_true hnan)
      subst q1 q2 q3
      clear HBF HIB HNI HNn HO HZ
      have h := Lib.hid (HNaV.out w7)
      go_wp2_with fail
      refine (h.out).mono ?_
      rintro e w' ⟨rfl, rfl⟩
      clear h
      have h := Lib.hid (HNan.out w7)
      go_wp2_with fail
      refine (h.out).mono ?_
      rintro e w' ⟨rfl, rfl⟩
      clear h
      go_wp2_with fail
      go_ret
      exact ⟨rfl, b0⟩
    · obtain ⟨q1, q2⟩ := HBF.out.2 (by rw [HNn.out]; exact decide_eq_false hnan)
      have Q1 := Lib.hid q1
      have Q2 := Lib.hid q2
      clear q1 q2 HBF HNn HO
      go_upto_region 12 with (fail)
      go_cut [119] (fun s119 wx => s119 = .bool false ∧ w7 = wx)
      case first =>
        cases s
        · have hb1 : (bk == x1) = false := by
            have h := of_decide_eq_false Q1.out.symm
            simpa using h
          have hw1 : decide (wd k0 ≤ wd v0) = false := by
            refine decide_eq_false fun h => ?_
            have := Q2.out h
            cases this
          go_wp2_with fail
          refine (HWv.out w7).mono ?_
          rintro e w' ⟨rfl, rfl⟩
          go_wp2_with fail
          refine (HWk.out w7).mono ?_
          rintro e w' ⟨rfl, rfl⟩
          go_wp2_with fail
          go_meet
          case rel => exact ⟨rfl, rfl⟩
        · have hb1 : (bk == x1) = true := by
            have h := of_decide_eq_true Q1.out.symm
            simpa using h
          by_cases hww : wd k0 ≤ wd v0
          · have hw1 : decide (wd k0 ≤ wd v0) = true := decide_eq_true hww
            go_wp2_with fail
            refine (HWv.out w7).mono ?_
            rintro e w' ⟨rfl, rfl⟩
            go_wp2_with fail
            refine (HWk.out w7).mono ?_
            rintro e w' ⟨rfl, rfl⟩
            go_wp2_with fail
            go_meet
            case rel => exact ⟨rfl, rfl⟩
          · have hw1 : decide (wd k0 ≤ wd v0) = false := decide_eq_false hww
            go_wp2_with fail
            refine (HWv.out w7).mono ?_
            rintro e w' ⟨rfl, rfl⟩
            go_wp2_with fail
            refine (HWk.out w7).mono ?_
            rintro e w' ⟨rfl, rfl⟩
            go_wp2_with fail
            go_meet
            case rel => exact ⟨rfl, rfl⟩
      case rest =>
        obtain ⟨rfl, rfl⟩ := hcut
        clear Q1 Q2
        have h := Lib.hid (lwhole_calls k0 hk0 w7 hS hT x1 hx1)
        go_wp2_with fail
        refine (h.out).mono ?_
        rintro e w9 ⟨adn, nn, cn, rfl, fn, b⟩
        clear h
        replace hS := hS.below b (Nat.le_refl _)
        replace hT := hT.below b (Nat.le_refl _)
        replace b0 := below_trans b0 b
        clear b
        have ln := fn.len_le _ HZ.lt
        have b : Below w9.heap.size w9 (w9.alloc (.cells #[.bool (decide (intN (wd k0) x1 < 0)), .slice adn nn cn] 48)) := (Below.refl _ _).alloc (Nat.le_refl _) _
        have Kn : Cel (w9.alloc (.cells #[.bool (decide (intN (wd k0) x1 < 0)), .slice adn nn cn] 48)) w9.heap.size 48 [.bool (decide (intN (wd k0) x1 < 0)), .slice adn nn cn] := Cel.made _ _ _ _ rfl
        replace hS := hS.below b (Nat.le_refl _)
        replace hT := hT.below b (Nat.le_refl _)
        replace fn := fn.below b (Nat.le_refl _)
        replace b0 := below_trans b0 b
        clear b
        cases hio : intOk (wd k0) x1
        · have hN0 := HNI.out hio
          obtain ⟨N, hNN⟩ : ∃ N, N = intN (wd k0) x1 := ⟨_, rfl⟩
          rw [← hNN] at fn Kn b0 hN0 ⊢
          subst hN0
          have hn0 := fn.zero
          subst hn0
          have Knx := Kn.cell 0 _ rfl
          have Kny := Kn.cell 1 _ rfl
          go_wp2_with fail
          go_ret
          exact ⟨rfl, b0⟩
        · obtain ⟨i1, i2⟩ := HIB.out hio
          have Knx := Kn.cell 0 _ rfl
          have Kny := Kn.cell 1 _ rfl
          have F := lfrom_calls k0 hk0 (w9.alloc (.cells #[.bool (decide (intN (wd k0) x1 < 0)), .slice adn nn cn] 48)) hS hT (decide (intN (wd k0) x1 < 0)) adn nn cn _ (fn.num (by omega)) (by omega)
          rw [sI_self, i1] at F
          have F1 := Lib.hid F
          clear F i1 HIB HNI HZ
          generalize (fromW (wd k0) (intN (wd k0) x1)).1 = z at *
          generalize intN (wd k0) x1 = N at *
          generalize sizeW (wd k0) x1 = sx at *
          have h := Lib.hid (F1.out)
          go_wp2_with fail
          refine (h.out).mono ?_
          rintro e w10 ⟨rfl, b⟩
          clear h
          replace hS := hS.below b (Nat.le_refl _)
          replace hT := hT.below b (Nat.le_refl _)
          replace fn := fn.below b (Nat.le_refl _)
          replace Kn := Kn.next b
          replace b0 := below_trans b0 b
          clear b
          by_cases hzx : z = x1
          · have hzx2 : (z == x1) = true := by simpa using hzx
            clear i2 hzx
            go_wp2_with fail
            go_ret
            exact ⟨rfl, b0⟩
          · obtain ⟨j1, j2⟩ := i2.resolve_left hzx
            have hzx2 : (z == x1) = false := by simpa using hzx
            have j3 : (x1 == sgnW (wd k0)) = true := by simpa using j1
            have j4 : (z == 0) = true := by simpa using j2
            clear hzx j1 j2
            have h := Lib.hid (HSgn.out w10)
            go_wp2_with fail
            refine (h.out).mono ?_
            rintro e w' ⟨rfl, rfl⟩
            clear h
            go_wp2_with fail
            go_ret
            exact ⟨rfl, b0⟩
end Go.Proofs.YtmnabilgpndjmaaDoor
