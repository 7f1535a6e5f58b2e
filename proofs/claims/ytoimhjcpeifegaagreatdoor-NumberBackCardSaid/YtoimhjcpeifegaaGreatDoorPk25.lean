/- Contracts of functions, and plain facts, part 25. -/
import Derived.Laws.Bits64b
import Derived.Test.YtoimhjcpeifegaaGreatDoorPk6
import Derived.Test.YtoimhjcpeifegaaGreatDoorPk13
import Derived.Test.YtoimhjcpeifegaaGreatDoorPk15
import Derived.Test.YtoimhjcpeifegaaGreatDoorPk16
import Derived.Test.YtoimhjcpeifegaaGreatDoorPk17
import Derived.Test.YtoimhjcpeifegaaGreatDoorPk19
import Derived.Test.YtoimhjcpeifegaaGreatDoorPk20
import Derived.Test.YtoimhjcpeifegaaGreatDoorPk21
import Derived.Test.YtoimhjcpeifegaaGreatDoorPk22
set_option linter.unusedVariables false
set_option linter.unusedSimpArgs false
/- Printed by ieee3.py. -/
namespace Go.Proofs.YtoimhjcpeifegaaGreatDoor
open Go.RowKit

set_option maxRecDepth 20000 in
set_option maxHeartbeats 2000000 in
theorem to_16_64 (w : World) (hS : Shapes w) (hT : Tab w) (x : Int) (hx : 0 ≤ x ∧ x < 18446744073709551616) : Calls Tryz.prog 36 #[.int .u64 x] w (fun e w' => e = .returned (.tuple #[.int .u16 (toW 16 64 x).1, .bool (toW 16 64 x).2]) ∧ Below w.heap.size w w') := by
  have nn := nan_cls 64 x
  have hfit := inf_fits (W := 16) (by unfold Wide; omega)
  have HT := Lib.hid (show toW 16 64 x = if isNaN 64 x then (nanW 16, true) else if sizeW 64 x = infW 64 then ((if negW 64 x then sgnW 16 else 0) + infW 16, true)
    else (roundW 16 (pNeg 64 x) (pM 64 x) (pE 64 x) false, sameW 16 64 x (roundW 16 (pNeg 64 x) (pM 64 x) (pE 64 x) false)) from rfl)
  have HO := Lib.hid (show pOk 64 x = decide (sizeW 64 x < infW 64) from rfl)
  have HN := Lib.hid (show isNaN 64 x = decide (infW 64 < sizeW 64 x) from rfl)
  have P1 := Lib.hid (parts_64 w hS hT x hx)
  have P2 := Lib.hid (fun (w : World) (hS : Shapes w) => class_64 w hS x hx)
  have P3 := Lib.hid (fun (w : World) (hS : Shapes w) => split_64 w hS x hx)
  have hm := pM_bd (W := 64) (by unfold Wide; omega) x
  have he := pE_bd (W := 64) (by unfold Wide; omega) x
  generalize clsW 64 x = cl at *
  generalize toW 16 64 x = R at *
  cases hf : pOk 64 x
  · rw [hf] at P1 HO
    have hge := of_decide_eq_false HO.out.symm
    cases hn : isNaN 64 x
    · rw [hn] at nn HN HT
      have hle := of_decide_eq_false HN.out.symm
      have HR := Lib.hid (show R = ((if negW 64 x then sgnW 16 else 0) + 31744, true) by rw [HT.out, if_neg (by decide), if_pos (by omega), inf16])
      have HSg := Lib.hid (fun (w : World) (hS : Shapes w) => signed_16 w hS (negW 64 x) 31744 (by omega))
      generalize (if negW 64 x then sgnW 16 else 0) = sg at *
      clear HT HO HN hf hn hge hle hfit hm he
      generalize negW 64 x = ng at *
      generalize sizeW 64 x = z at *
      go_enter Tryz.func36, Tryz.ntmps36
      have C1 := Lib.hid (P1.out)
      go_wp2_with fail
      refine (C1.out).mono ?_
      rintro e w1 ⟨rfl, b1⟩
      have C2 := Lib.hid (P2.out w1 (hS.below b1 (Nat.le_refl _)))
      go_wp2_with fail
      refine (C2.out).mono ?_
      rintro e w2 ⟨rfl, b2⟩
      have a2 := below_trans b1 b2
      have C3 := Lib.hid (P3.out w2 (hS.below a2 (Nat.le_refl _)))
      go_wp2_with fail
      refine (C3.out).mono ?_
      rintro e w3 ⟨rfl, b3⟩
      have a3 := below_trans a2 b3
      have C4 := Lib.hid (of_16 w3 (hS.below a3 (Nat.le_refl _)))
      go_wp2_with fail
      refine (C4.out).mono ?_
      rintro e w4 ⟨rfl, b4⟩
      have a4 := below_trans a3 b4
      have C5 := Lib.hid (shinf_16 w4)
      go_wp2_with fail
      refine (C5.out).mono ?_
      rintro e w5 ⟨rfl, b5⟩
      have a5 := below_trans a4 b5
      have C6 := Lib.hid (HSg.out w5 (hS.below a5 (Nat.le_refl _)))
      go_wp2_with fail
      refine (C6.out).mono ?_
      rintro e w6 ⟨rfl, b6⟩
      have a6 := below_trans a5 b6
      go_wp2
      go_ret2
      rw [HR.out]
      exact ⟨rfl, a6⟩
    · rw [hn] at nn HT
      have HR := Lib.hid (show R = (32256, true) by rw [HT.out, if_pos rfl, nan16])
      clear HT HO HN hf hn hge hfit hm he
      go_enter Tryz.func36, Tryz.ntmps36
      have C1 := Lib.hid (P1.out)
      go_wp2_with fail
      refine (C1.out).mono ?_
      rintro e w1 ⟨rfl, b1⟩
      have C2 := Lib.hid (P2.out w1 (hS.below b1 (Nat.le_refl _)))
      go_wp2_with fail
      refine (C2.out).mono ?_
      rintro e w2 ⟨rfl, b2⟩
      have a2 := below_trans b1 b2
      have C3 := Lib.hid (of_16 w2 (hS.below a2 (Nat.le_refl _)))
      go_wp2_with fail
      refine (C3.out).mono ?_
      rintro e w3 ⟨rfl, b3⟩
      have a3 := below_trans a2 b3
      have C4 := Lib.hid (shnan_16 w3)
      go_wp2_with fail
      refine (C4.out).mono ?_
      rintro e w4 ⟨rfl, b4⟩
      have a4 := below_trans a3 b4
      go_wp2
      go_ret2
      rw [HR.out]
      exact ⟨rfl, a4⟩
  · rw [hf] at P1 HO
    have hlt := of_decide_eq_true HO.out.symm
    have hn : isNaN 64 x = false := by rw [HN.out]; exact decide_eq_false (by omega)
    have HR := Lib.hid (show R = (roundW 16 (pNeg 64 x) (pM 64 x) (pE 64 x) false, sameW 16 64 x (roundW 16 (pNeg 64 x) (pM 64 x) (pE 64 x) false)) by rw [HT.out, hn, if_neg (by decide), if_neg (by omega)])
    have hy := roundW_bd (W := 16) (by unfold Wide; omega) (pNeg 64 x) (pM 64 x) (pE 64 x) false
    rw [show (2 : Int) ^ 16 = 65536 from by decide] at hy
    have HQ := Lib.hid (fun (w : World) (hS : Shapes w) (hT : Tab w) => parts_16 w hS hT (roundW 16 (pNeg 64 x) (pM 64 x) (pE 64 x) false) hy)
    have HRd := Lib.hid (fun (w : World) (hS : Shapes w) (ad : Option Addr) (n c : Nat) (h : Num w ad n c (pM 64 x)) (hn : n ≤ 2) => round_16 w hS (pNeg 64 x) ad n c (pM 64 x) (pE 64 x) false h (by omega) (by omega))
    have HSm := Lib.hid (show sameW 16 64 x (roundW 16 (pNeg 64 x) (pM 64 x) (pE 64 x) false) = (pOk 16 (roundW 16 (pNeg 64 x) (pM 64 x) (pE 64 x) false) && decide (pM 16 (roundW 16 (pNeg 64 x) (pM 64 x) (pE 64 x) false) = pM 64 x) && decide (pE 16 (roundW 16 (pNeg 64 x) (pM 64 x) (pE 64 x) false) = pE 64 x)) from rfl)
    clear HT HO HN hf hn hlt nn P2 P3 hfit
    generalize sameW 16 64 x (roundW 16 (pNeg 64 x) (pM 64 x) (pE 64 x) false) = sm at *
    generalize roundW 16 (pNeg 64 x) (pM 64 x) (pE 64 x) false = y at *
    generalize pM 64 x = m at *
    generalize pE 64 x = p at *
    generalize pNeg 64 x = ng at *
    generalize pM 16 y = m2 at *
    generalize pE 16 y = p2 at *
    generalize pOk 16 y = fin at *
    generalize pNeg 16 y = ng2 at *
    go_enter Tryz.func36, Tryz.ntmps36
    have C1 := Lib.hid (P1.out)
    go_wp2_with fail
    refine (C1.out).mono ?_
    rintro e w1 ⟨rfl, b1⟩
    have C2 := Lib.hid ((from_calls m w1 hm.1 (by omega)).mono fun e w' q => q.can)
    go_wp2_with fail
    refine (C2.out).mono ?_
    rintro e w2 ⟨ad2, n2, d2, rfl, f2, b2⟩
    have a2 := below_trans b1 b2
    have l2 := f2.len_le 2 (Int.lt_of_lt_of_le hm.2 (by decide))
    have C3 := Lib.hid (HRd.out w2 (hS.below a2 (Nat.le_refl _)) ad2 n2 d2 (f2.num hm.1) l2)
    go_wp2_with fail
    refine (C3.out).mono ?_
    rintro e w3 ⟨rfl, b3⟩
    have a3 := below_trans a2 b3
    have C4 := Lib.hid (HQ.out w3 (hS.below a3 (Nat.le_refl _)) (hT.below a3 (Nat.le_refl _)))
    go_wp2_with fail
    refine (C4.out).mono ?_
    rintro e w4 ⟨rfl, b4⟩
    have a4 := below_trans a3 b4
    cases fin
    · have HB := Lib.hid (show sm = false by rw [HSm.out]; rfl)
      go_wp2
      go_ret2
      rw [HR.out, HB.out]
      exact ⟨rfl, a4⟩
    · by_cases hm2 : m2 = m
      · by_cases hp2 : p2 = p
        · have HB := Lib.hid (show sm = true by rw [HSm.out, decide_eq_true hm2, decide_eq_true hp2]; rfl)
          have hm3 : (m2 == m) = true := by simpa using hm2
          have hp3 : (p2 == p) = true := by simpa using hp2
          clear HSm hm2 hp2
          go_wp2
          go_ret2
          rw [HR.out, HB.out]
          exact ⟨rfl, a4⟩
        · have HB := Lib.hid (show sm = false by rw [HSm.out, decide_eq_false hp2]; simp)
          have hm3 : (m2 == m) = true := by simpa using hm2
          have hp3 : (p2 == p) = false := by simpa using hp2
          clear HSm hm2 hp2
          go_wp2
          go_ret2
          rw [HR.out, HB.out]
          exact ⟨rfl, a4⟩
      · have HB := Lib.hid (show sm = false by rw [HSm.out, decide_eq_false hm2]; simp)
        have hm3 : (m2 == m) = false := by simpa using hm2
        clear HSm hm2
        go_wp2
        go_ret2
        rw [HR.out, HB.out]
        exact ⟨rfl, a4⟩
end Go.Proofs.YtoimhjcpeifegaaGreatDoor


/- Printed by ieee3.py. -/
namespace Go.Proofs.YtoimhjcpeifegaaGreatDoor
open Go.RowKit

set_option maxRecDepth 20000 in
set_option maxHeartbeats 2000000 in
theorem to_32_64 (w : World) (hS : Shapes w) (hT : Tab w) (x : Int) (hx : 0 ≤ x ∧ x < 18446744073709551616) : Calls Tryz.prog 37 #[.int .u64 x] w (fun e w' => e = .returned (.tuple #[.int .u32 (toW 32 64 x).1, .bool (toW 32 64 x).2]) ∧ Below w.heap.size w w') := by
  have nn := nan_cls 64 x
  have hfit := inf_fits (W := 32) (by unfold Wide; omega)
  have HT := Lib.hid (show toW 32 64 x = if isNaN 64 x then (nanW 32, true) else if sizeW 64 x = infW 64 then ((if negW 64 x then sgnW 32 else 0) + infW 32, true)
    else (roundW 32 (pNeg 64 x) (pM 64 x) (pE 64 x) false, sameW 32 64 x (roundW 32 (pNeg 64 x) (pM 64 x) (pE 64 x) false)) from rfl)
  have HO := Lib.hid (show pOk 64 x = decide (sizeW 64 x < infW 64) from rfl)
  have HN := Lib.hid (show isNaN 64 x = decide (infW 64 < sizeW 64 x) from rfl)
  have P1 := Lib.hid (parts_64 w hS hT x hx)
  have P2 := Lib.hid (fun (w : World) (hS : Shapes w) => class_64 w hS x hx)
  have P3 := Lib.hid (fun (w : World) (hS : Shapes w) => split_64 w hS x hx)
  have hm := pM_bd (W := 64) (by unfold Wide; omega) x
  have he := pE_bd (W := 64) (by unfold Wide; omega) x
  generalize clsW 64 x = cl at *
  generalize toW 32 64 x = R at *
  cases hf : pOk 64 x
  · rw [hf] at P1 HO
    have hge := of_decide_eq_false HO.out.symm
    cases hn : isNaN 64 x
    · rw [hn] at nn HN HT
      have hle := of_decide_eq_false HN.out.symm
      have HR := Lib.hid (show R = ((if negW 64 x then sgnW 32 else 0) + 2139095040, true) by rw [HT.out, if_neg (by decide), if_pos (by omega), inf32])
      have HSg := Lib.hid (fun (w : World) (hS : Shapes w) => signed_32 w hS (negW 64 x) 2139095040 (by omega))
      generalize (if negW 64 x then sgnW 32 else 0) = sg at *
      clear HT HO HN hf hn hge hle hfit hm he
      generalize negW 64 x = ng at *
      generalize sizeW 64 x = z at *
      go_enter Tryz.func37, Tryz.ntmps37
      have C1 := Lib.hid (P1.out)
      go_wp2_with fail
      refine (C1.out).mono ?_
      rintro e w1 ⟨rfl, b1⟩
      have C2 := Lib.hid (P2.out w1 (hS.below b1 (Nat.le_refl _)))
      go_wp2_with fail
      refine (C2.out).mono ?_
      rintro e w2 ⟨rfl, b2⟩
      have a2 := below_trans b1 b2
      have C3 := Lib.hid (P3.out w2 (hS.below a2 (Nat.le_refl _)))
      go_wp2_with fail
      refine (C3.out).mono ?_
      rintro e w3 ⟨rfl, b3⟩
      have a3 := below_trans a2 b3
      have C4 := Lib.hid (of_32 w3 (hS.below a3 (Nat.le_refl _)))
      go_wp2_with fail
      refine (C4.out).mono ?_
      rintro e w4 ⟨rfl, b4⟩
      have a4 := below_trans a3 b4
      have C5 := Lib.hid (shinf_32 w4)
      go_wp2_with fail
      refine (C5.out).mono ?_
      rintro e w5 ⟨rfl, b5⟩
      have a5 := below_trans a4 b5
      have C6 := Lib.hid (HSg.out w5 (hS.below a5 (Nat.le_refl _)))
      go_wp2_with fail
      refine (C6.out).mono ?_
      rintro e w6 ⟨rfl, b6⟩
      have a6 := below_trans a5 b6
      go_wp2
      go_ret2
      rw [HR.out]
      exact ⟨rfl, a6⟩
    · rw [hn] at nn HT
      have HR := Lib.hid (show R = (2143289344, true) by rw [HT.out, if_pos rfl, nan32])
      clear HT HO HN hf hn hge hfit hm he
      go_enter Tryz.func37, Tryz.ntmps37
      have C1 := Lib.hid (P1.out)
      go_wp2_with fail
      refine (C1.out).mono ?_
      rintro e w1 ⟨rfl, b1⟩
      have C2 := Lib.hid (P2.out w1 (hS.below b1 (Nat.le_refl _)))
      go_wp2_with fail
      refine (C2.out).mono ?_
      rintro e w2 ⟨rfl, b2⟩
      have a2 := below_trans b1 b2
      have C3 := Lib.hid (of_32 w2 (hS.below a2 (Nat.le_refl _)))
      go_wp2_with fail
      refine (C3.out).mono ?_
      rintro e w3 ⟨rfl, b3⟩
      have a3 := below_trans a2 b3
      have C4 := Lib.hid (shnan_32 w3)
      go_wp2_with fail
      refine (C4.out).mono ?_
      rintro e w4 ⟨rfl, b4⟩
      have a4 := below_trans a3 b4
      go_wp2
      go_ret2
      rw [HR.out]
      exact ⟨rfl, a4⟩
  · rw [hf] at P1 HO
    have hlt := of_decide_eq_true HO.out.symm
    have hn : isNaN 64 x = false := by rw [HN.out]; exact decide_eq_false (by omega)
    have HR := Lib.hid (show R = (roundW 32 (pNeg 64 x) (pM 64 x) (pE 64 x) false, sameW 32 64 x (roundW 32 (pNeg 64 x) (pM 64 x) (pE 64 x) false)) by rw [HT.out, hn, if_neg (by decide), if_neg (by omega)])
    have hy := roundW_bd (W := 32) (by unfold Wide; omega) (pNeg 64 x) (pM 64 x) (pE 64 x) false
    rw [show (2 : Int) ^ 32 = 4294967296 from by decide] at hy
    have HQ := Lib.hid (fun (w : World) (hS : Shapes w) (hT : Tab w) => parts_32 w hS hT (roundW 32 (pNeg 64 x) (pM 64 x) (pE 64 x) false) hy)
    have HRd := Lib.hid (fun (w : World) (hS : Shapes w) (ad : Option Addr) (n c : Nat) (h : Num w ad n c (pM 64 x)) (hn : n ≤ 2) => round_32 w hS (pNeg 64 x) ad n c (pM 64 x) (pE 64 x) false h (by omega) (by omega))
    have HSm := Lib.hid (show sameW 32 64 x (roundW 32 (pNeg 64 x) (pM 64 x) (pE 64 x) false) = (pOk 32 (roundW 32 (pNeg 64 x) (pM 64 x) (pE 64 x) false) && decide (pM 32 (roundW 32 (pNeg 64 x) (pM 64 x) (pE 64 x) false) = pM 64 x) && decide (pE 32 (roundW 32 (pNeg 64 x) (pM 64 x) (pE 64 x) false) = pE 64 x)) from rfl)
    clear HT HO HN hf hn hlt nn P2 P3 hfit
    generalize sameW 32 64 x (roundW 32 (pNeg 64 x) (pM 64 x) (pE 64 x) false) = sm at *
    generalize roundW 32 (pNeg 64 x) (pM 64 x) (pE 64 x) false = y at *
    generalize pM 64 x = m at *
    generalize pE 64 x = p at *
    generalize pNeg 64 x = ng at *
    generalize pM 32 y = m2 at *
    generalize pE 32 y = p2 at *
    generalize pOk 32 y = fin at *
    generalize pNeg 32 y = ng2 at *
    go_enter Tryz.func37, Tryz.ntmps37
    have C1 := Lib.hid (P1.out)
    go_wp2_with fail
    refine (C1.out).mono ?_
    rintro e w1 ⟨rfl, b1⟩
    have C2 := Lib.hid ((from_calls m w1 hm.1 (by omega)).mono fun e w' q => q.can)
    go_wp2_with fail
    refine (C2.out).mono ?_
    rintro e w2 ⟨ad2, n2, d2, rfl, f2, b2⟩
    have a2 := below_trans b1 b2
    have l2 := f2.len_le 2 (Int.lt_of_lt_of_le hm.2 (by decide))
    have C3 := Lib.hid (HRd.out w2 (hS.below a2 (Nat.le_refl _)) ad2 n2 d2 (f2.num hm.1) l2)
    go_wp2_with fail
    refine (C3.out).mono ?_
    rintro e w3 ⟨rfl, b3⟩
    have a3 := below_trans a2 b3
    have C4 := Lib.hid (HQ.out w3 (hS.below a3 (Nat.le_refl _)) (hT.below a3 (Nat.le_refl _)))
    go_wp2_with fail
    refine (C4.out).mono ?_
    rintro e w4 ⟨rfl, b4⟩
    have a4 := below_trans a3 b4
    cases fin
    · have HB := Lib.hid (show sm = false by rw [HSm.out]; rfl)
      go_wp2
      go_ret2
      rw [HR.out, HB.out]
      exact ⟨rfl, a4⟩
    · by_cases hm2 : m2 = m
      · by_cases hp2 : p2 = p
        · have HB := Lib.hid (show sm = true by rw [HSm.out, decide_eq_true hm2, decide_eq_true hp2]; rfl)
          have hm3 : (m2 == m) = true := by simpa using hm2
          have hp3 : (p2 == p) = true := by simpa using hp2
          clear HSm hm2 hp2
          go_wp2
          go_ret2
          rw [HR.out, HB.out]
          exact ⟨rfl, a4⟩
        · have HB := Lib.hid (show sm = false by rw [HSm.out, decide_eq_false hp2]; simp)
          have hm3 : (m2 == m) = true := by simpa using hm2
          have hp3 : (p2 == p) = false := by simpa using hp2
          clear HSm hm2 hp2
          go_wp2
          go_ret2
          rw [HR.out, HB.out]
          exact ⟨rfl, a4⟩
      · have HB := Lib.hid (show sm = false by rw [HSm.out, decide_eq_false hm2]; simp)
        have hm3 : (m2 == m) = false := by simpa using hm2
        clear HSm hm2
        go_wp2
        go_ret2
        rw [HR.out, HB.out]
        exact ⟨rfl, a4⟩
end Go.Proofs.YtoimhjcpeifegaaGreatDoor


/- How great the whole number of a pattern may be. -/
namespace Go.Proofs.YtoimhjcpeifegaaGreatDoor

theorem intV_bd {W : Nat} (hW : Wide W) (x : Int) : 0 ≤ intV W x ∧ intV W x < 4294967296 ^ (2 + 4097) := by
  have hM := pM_bd hW x
  have hE := pE_bd hW x
  unfold intV
  split
  · obtain ⟨-, -, s3, s4⟩ := shl_fits (pM W x) 2 (if 0 ≤ pE W x then pE W x else 0) hM.1 (Int.lt_of_lt_of_le hM.2 (by decide)) (by omega) (by split <;> omega)
    have e : (if 0 ≤ pE W x then pE W x else 0).toNat = (pE W x).toNat := by split <;> omega
    rw [e] at s3 s4
    exact ⟨s3, s4⟩
  · exact ⟨Int.le_refl _, Int.pow_pos (by omega)⟩
theorem intN_bd {W : Nat} (hW : Wide W) (x : Int) : ((intN W x).natAbs : Int) < 4294967296 ^ (2 + 4097) := by
  have h := intV_bd hW x
  have e : ((intN W x).natAbs : Int) = intV W x := by
    have h0 := h.1
    clear h
    unfold intN
    split <;> omega
  rw [e]
  exact h.2
end Go.Proofs.YtoimhjcpeifegaaGreatDoor


/- Printed by ieee2.py. -/
namespace Go.Proofs.YtoimhjcpeifegaaGreatDoor
open Go.RowKit

theorem or_zero_64 (a b : Int) (ha : 0 ≤ a ∧ a < 18446744073709551616) (hb : 0 ≤ b ∧ b < 18446744073709551616) : (bits .or .u64 a b == 0) = decide (a = 0 ∧ b = 0) := by
  obtain ⟨a, rfl⟩ := Int.eq_ofNat_of_zero_le ha.1
  obtain ⟨b, rfl⟩ := Int.eq_ofNat_of_zero_le hb.1
  rw [bits_or_u64_nat a b (by omega) (by omega), Bool.eq_iff_iff]
  simp only [beq_iff_eq, decide_eq_true_eq]
  have h1 : a ≤ a ||| b := Nat.left_le_or
  have h2 : b ≤ a ||| b := Nat.right_le_or
  constructor
  · intro h
    omega
  · rintro ⟨h3, h4⟩
    have h5 : a = 0 := by omega
    have h6 : b = 0 := by omega
    subst h5 h6
    rfl

theorem cmp_64 (w : World) (hS : Shapes w) (x y : Int) (hx : 0 ≤ x ∧ x < 18446744073709551616) (hy : 0 ≤ y ∧ y < 18446744073709551616) : Calls Tryz.prog 48 #[.int .u64 x, .int .u64 y] w (fun e w' => e = .returned (.tuple #[.int .i64 (cmpW 64 x y).1, .bool (cmpW 64 x y).2]) ∧ Below w.heap.size w w') := by
  have hz1 := size_bounds (W := 64) (by unfold Wide; omega) x ⟨hx.1, hx.2⟩
  have hz2 := size_bounds (W := 64) (by unfold Wide; omega) y ⟨hy.1, hy.2⟩
  rw [sgn64] at hz1 hz2
  have HC := Lib.hid (show cmpW 64 x y = if isNaN 64 x || isNaN 64 y then (0, false) else if sizeW 64 x = 0 ∧ sizeW 64 y = 0 then (0, true) else (totalW 64 x y, true) from rfl)
  have G1 := Lib.hid (class_64 w hS x hx)
  have G2 := Lib.hid (fun (w : World) (hS : Shapes w) => class_64 w hS y hy)
  have H1 := Lib.hid (fun (w : World) (hS : Shapes w) => split_64 w hS x hx)
  have H2 := Lib.hid (fun (w : World) (hS : Shapes w) => split_64 w hS y hy)
  have H3 := Lib.hid (fun (w : World) (hS : Shapes w) => total_64 w hS x y hx hy)
  have nx := nan_cls 64 x
  have ny := nan_cls 64 y
  have HO := or_zero_64 (sizeW 64 x) (sizeW 64 y) (by omega) (by omega)
  clear hz1 hz2
  generalize cmpW 64 x y = C at *
  generalize totalW 64 x y = TT at *
  generalize clsW 64 x = cx at *
  generalize clsW 64 y = cy at *
  generalize isNaN 64 x = i1 at *
  generalize isNaN 64 y = i2 at *
  generalize negW 64 x = n1 at *
  generalize negW 64 y = n2 at *
  generalize sizeW 64 x = s1 at *
  generalize sizeW 64 y = s2 at *
  cases i1
  · cases i2
    · by_cases hz : s1 = 0 ∧ s2 = 0
      · have HR := Lib.hid (show C = (0, true) by rw [HC.out, if_neg (by decide), if_pos hz])
        rw [decide_eq_true hz] at HO
        clear HC hz
        go_enter Tryz.func48, Tryz.ntmps48
        go_wp2_with fail
        refine (G1.out).mono ?_
        rintro e w1 ⟨rfl, b1⟩
        have hS1 := hS.below b1 (Nat.le_refl _)
        have HS1 := Lib.hid (G2.out w1 hS1)
        go_wp2_with fail
        refine (HS1.out).mono ?_
        rintro e w2 ⟨rfl, b2⟩
        have hS2 := hS1.below b2 (Nat.le_refl _)
        have HS2 := Lib.hid (H1.out w2 hS2)
        go_wp2_with fail
        refine (HS2.out).mono ?_
        rintro e w3 ⟨rfl, b3⟩
        have hS3 := hS2.below b3 (Nat.le_refl _)
        have HS3 := Lib.hid (H2.out w3 hS3)
        go_wp2_with fail
        refine (HS3.out).mono ?_
        rintro e w4 ⟨rfl, b4⟩
        have hS4 := hS3.below b4 (Nat.le_refl _)
        have HS4 := Lib.hid (H3.out w4 hS4)
        go_wp2
        go_ret2
        rw [HR.out]
        exact ⟨rfl, below_trans b1 (below_trans b2 (below_trans b3 (b4)))⟩
      · have HR := Lib.hid (show C = (TT, true) by rw [HC.out, if_neg (by decide), if_neg hz])
        rw [decide_eq_false hz] at HO
        clear HC hz
        go_enter Tryz.func48, Tryz.ntmps48
        go_wp2_with fail
        refine (G1.out).mono ?_
        rintro e w1 ⟨rfl, b1⟩
        have hS1 := hS.below b1 (Nat.le_refl _)
        have HS1 := Lib.hid (G2.out w1 hS1)
        go_wp2_with fail
        refine (HS1.out).mono ?_
        rintro e w2 ⟨rfl, b2⟩
        have hS2 := hS1.below b2 (Nat.le_refl _)
        have HS2 := Lib.hid (H1.out w2 hS2)
        go_wp2_with fail
        refine (HS2.out).mono ?_
        rintro e w3 ⟨rfl, b3⟩
        have hS3 := hS2.below b3 (Nat.le_refl _)
        have HS3 := Lib.hid (H2.out w3 hS3)
        go_wp2_with fail
        refine (HS3.out).mono ?_
        rintro e w4 ⟨rfl, b4⟩
        have hS4 := hS3.below b4 (Nat.le_refl _)
        have HS4 := Lib.hid (H3.out w4 hS4)
        go_wp2_with fail
        refine (HS4.out).mono ?_
        rintro e w5 ⟨rfl, b5⟩
        go_wp2
        go_ret2
        rw [HR.out]
        exact ⟨rfl, below_trans b1 (below_trans b2 (below_trans b3 (below_trans b4 (b5))))⟩
    · have HR := Lib.hid (show C = (0, false) by rw [HC.out]; rfl)
      clear HC
      go_enter Tryz.func48, Tryz.ntmps48
      go_wp2_with fail
      refine (G1.out).mono ?_
      rintro e w1 ⟨rfl, b1⟩
      have hS1 := hS.below b1 (Nat.le_refl _)
      have HS1 := Lib.hid (G2.out w1 hS1)
      go_wp2_with fail
      refine (HS1.out).mono ?_
      rintro e w2 ⟨rfl, b2⟩
      have hS2 := hS1.below b2 (Nat.le_refl _)
      have HS2 := Lib.hid (H1.out w2 hS2)
      go_wp2
      go_ret2
      rw [HR.out]
      exact ⟨rfl, below_trans b1 (b2)⟩
  · have HR := Lib.hid (show C = (0, false) by rw [HC.out]; rfl)
    clear HC
    go_enter Tryz.func48, Tryz.ntmps48
    go_wp2_with fail
    refine (G1.out).mono ?_
    rintro e w1 ⟨rfl, b1⟩
    have hS1 := hS.below b1 (Nat.le_refl _)
    have HS1 := Lib.hid (G2.out w1 hS1)
    go_wp2
    go_ret2
    rw [HR.out]
    exact ⟨rfl, b1⟩
end Go.Proofs.YtoimhjcpeifegaaGreatDoor


/- A pattern's number by its parts, and the middle between two beside each other: plain. -/
namespace Go.Proofs.YtoimhjcpeifegaaGreatDoor

theorem size_low {W : Nat} (z : Int) (h : z < sgnW W) : sizeW W z = z := by unfold sizeW; rw [if_neg (by omega)]

/-- The parts of a size below the infinite one. -/
theorem parts_num {W : Nat} (hW : Wide W) (z : Int) (h0 : 0 ≤ z) (h1 : z < infW W) :
    shL W ≤ pE W z ∧ pM W z * 2 ^ (pE W z - shL W).toNat = (numN (shF W) z.toNat : Nat) ∧ pOk W z = true ∧ (z = 0 → pM W z = 0) ∧ (0 < z → 0 < pM W z ∧ pM W z % 2 = 1) := by
  have hs := infN_lt hW
  have hI := infW_eq hW
  have e1 : sizeW W z = z := size_low z (by omega)
  have e2 : pOk W z = true := by unfold pOk; rw [e1]; exact decide_eq_true h1
  have hL : shL W ≤ 0 := by rcases hW with rfl | rfl | rfl <;> decide
  unfold pM pE
  rw [e2, e1]
  by_cases hz : z = 0
  · subst hz
    simp only [decide_true, Bool.not_true, Bool.and_false, Bool.false_eq_true, if_false]
    refine ⟨hL, ?_, trivial, fun _ => trivial, fun h => by omega⟩
    rw [Int.zero_mul, show (0 : Int).toNat = 0 from rfl, numN_zero]; rfl
  · have hpos : 0 < rawM W z := raw_pos z (by rw [e1]; omega)
    have hlt := raw_lt hW z
    obtain ⟨k1, k2, k3, k4, k5, k6⟩ := odd_spec (rawM W z) hpos (by omega)
    rw [decide_eq_false hz]
    simp only [Bool.not_false, Bool.and_true, if_true]
    have hE : rawE W z = shL W + (numP (shF W) z.toNat : Nat) := by unfold rawE; rw [e1]
    have hM : rawM W z = (numM (shF W) z.toNat : Nat) := by unfold rawM; rw [e1]
    refine ⟨by omega, ?_, trivial, fun h => absurd h hz, fun _ => ⟨k3, k2⟩⟩
    rw [hE, show (shL W + ((numP (shF W) z.toNat : Nat) : Int) + tzI (rawM W z) - shL W).toNat = (tzI (rawM W z)).toNat + numP (shF W) z.toNat by omega, Int.pow_add, ← Int.mul_assoc, ← k1, hM, numN_parts]
    simp

end Go.Proofs.YtoimhjcpeifegaaGreatDoor

