/- Contracts of functions, and plain facts, part 24. -/
import Derived.Test.YtoimhjcpeifegaaGreatDoorPk6
import Derived.Test.YtoimhjcpeifegaaGreatDoorPk13
import Derived.Test.YtoimhjcpeifegaaGreatDoorPk16
import Derived.Test.YtoimhjcpeifegaaGreatDoorPk17
import Derived.Test.YtoimhjcpeifegaaGreatDoorPk18
import Derived.Test.YtoimhjcpeifegaaGreatDoorPk19
import Derived.Test.YtoimhjcpeifegaaGreatDoorPk20
set_option linter.unusedVariables false
set_option linter.unusedSimpArgs false
/- Printed by ieee3.py. -/
namespace Go.Proofs.YtoimhjcpeifegaaGreatDoor
open Go.RowKit

set_option maxRecDepth 20000 in
set_option maxHeartbeats 2000000 in
theorem to_64_16 (w : World) (hS : Shapes w) (hT : Tab w) (x : Int) (hx : 0 ≤ x ∧ x < 65536) : Calls Tryz.prog 13 #[.int .u16 x] w (fun e w' => e = .returned (.tuple #[.int .u64 (toW 64 16 x).1, .bool (toW 64 16 x).2]) ∧ Below w.heap.size w w') := by
  have nn := nan_cls 16 x
  have hfit := inf_fits (W := 64) (by unfold Wide; omega)
  have HT := Lib.hid (show toW 64 16 x = if isNaN 16 x then (nanW 64, true) else if sizeW 16 x = infW 16 then ((if negW 16 x then sgnW 64 else 0) + infW 64, true)
    else (roundW 64 (pNeg 16 x) (pM 16 x) (pE 16 x) false, sameW 64 16 x (roundW 64 (pNeg 16 x) (pM 16 x) (pE 16 x) false)) from rfl)
  have HO := Lib.hid (show pOk 16 x = decide (sizeW 16 x < infW 16) from rfl)
  have HN := Lib.hid (show isNaN 16 x = decide (infW 16 < sizeW 16 x) from rfl)
  have P1 := Lib.hid (parts_16 w hS hT x hx)
  have P2 := Lib.hid (fun (w : World) (hS : Shapes w) => class_16 w hS x hx)
  have P3 := Lib.hid (fun (w : World) (hS : Shapes w) => split_16 w hS x hx)
  have hm := pM_bd (W := 16) (by unfold Wide; omega) x
  have he := pE_bd (W := 16) (by unfold Wide; omega) x
  generalize clsW 16 x = cl at *
  generalize toW 64 16 x = R at *
  cases hf : pOk 16 x
  · rw [hf] at P1 HO
    have hge := of_decide_eq_false HO.out.symm
    cases hn : isNaN 16 x
    · rw [hn] at nn HN HT
      have hle := of_decide_eq_false HN.out.symm
      have HR := Lib.hid (show R = ((if negW 16 x then sgnW 64 else 0) + 9218868437227405312, true) by rw [HT.out, if_neg (by decide), if_pos (by omega), inf64])
      have HSg := Lib.hid (fun (w : World) (hS : Shapes w) => signed_64 w hS (negW 16 x) 9218868437227405312 (by omega))
      generalize (if negW 16 x then sgnW 64 else 0) = sg at *
      clear HT HO HN hf hn hge hle hfit hm he
      generalize negW 16 x = ng at *
      generalize sizeW 16 x = z at *
      go_enter Tryz.func13, Tryz.ntmps13
      have C1 := Lib.hid (P1.out)
      go_wp2_with fail
      refine (C1.out).mono ?_
      rintro e w1 ⟨rfl, b1⟩
      have C2 := Lib.hid (P2.out w1 (hS.below b1 (Nat.le_refl _)))
      go_wp2_with fail
      refine (C2.out).mono ?_
      rintro e w2 ⟨rfl, b2⟩
      have a2 := below_trans b1 b2
      have C3 := Lib.hid (P3.out w2 (hS.below a2 (Nat.le_refl _)))
      go_wp2_with fail
      refine (C3.out).mono ?_
      rintro e w3 ⟨rfl, b3⟩
      have a3 := below_trans a2 b3
      have C4 := Lib.hid (of_64 w3 (hS.below a3 (Nat.le_refl _)))
      go_wp2_with fail
      refine (C4.out).mono ?_
      rintro e w4 ⟨rfl, b4⟩
      have a4 := below_trans a3 b4
      have C5 := Lib.hid (shinf_64 w4)
      go_wp2_with fail
      refine (C5.out).mono ?_
      rintro e w5 ⟨rfl, b5⟩
      have a5 := below_trans a4 b5
      have C6 := Lib.hid (HSg.out w5 (hS.below a5 (Nat.le_refl _)))
      go_wp2_with fail
      refine (C6.out).mono ?_
      rintro e w6 ⟨rfl, b6⟩
      have a6 := below_trans a5 b6
      go_wp2
      go_ret2
      rw [HR.out]
      exact ⟨rfl, a6⟩
    · rw [hn] at nn HT
      have HR := Lib.hid (show R = (9221120237041090560, true) by rw [HT.out, if_pos rfl, nan64])
      clear HT HO HN hf hn hge hfit hm he
      go_enter Tryz.func13, Tryz.ntmps13
      have C1 := Lib.hid (P1.out)
      go_wp2_with fail
      refine (C1.out).mono ?_
      rintro e w1 ⟨rfl, b1⟩
      have C2 := Lib.hid (P2.out w1 (hS.below b1 (Nat.le_refl _)))
      go_wp2_with fail
      refine (C2.out).mono ?_
      rintro e w2 ⟨rfl, b2⟩
      have a2 := below_trans b1 b2
      have C3 := Lib.hid (of_64 w2 (hS.below a2 (Nat.le_refl _)))
      go_wp2_with fail
      refine (C3.out).mono ?_
      rintro e w3 ⟨rfl, b3⟩
      have a3 := below_trans a2 b3
      have C4 := Lib.hid (shnan_64 w3)
      go_wp2_with fail
      refine (C4.out).mono ?_
      rintro e w4 ⟨rfl, b4⟩
      have a4 := below_trans a3 b4
      go_wp2
      go_ret2
      rw [HR.out]
      exact ⟨rfl, a4⟩
  · rw [hf] at P1 HO
    have hlt := of_decide_eq_true HO.out.symm
    have hn : isNaN 16 x = false := by rw [HN.out]; exact decide_eq_false (by omega)
    have HR := Lib.hid (show R = (roundW 64 (pNeg 16 x) (pM 16 x) (pE 16 x) false, sameW 64 16 x (roundW 64 (pNeg 16 x) (pM 16 x) (pE 16 x) false)) by rw [HT.out, hn, if_neg (by decide), if_neg (by omega)])
    have hy := roundW_bd (W := 64) (by unfold Wide; omega) (pNeg 16 x) (pM 16 x) (pE 16 x) false
    rw [show (2 : Int) ^ 64 = 18446744073709551616 from by decide] at hy
    have HQ := Lib.hid (fun (w : World) (hS : Shapes w) (hT : Tab w) => parts_64 w hS hT (roundW 64 (pNeg 16 x) (pM 16 x) (pE 16 x) false) hy)
    have HRd := Lib.hid (fun (w : World) (hS : Shapes w) (ad : Option Addr) (n c : Nat) (h : Num w ad n c (pM 16 x)) (hn : n ≤ 2) => round_64 w hS (pNeg 16 x) ad n c (pM 16 x) (pE 16 x) false h (by omega) (by omega))
    have HSm := Lib.hid (show sameW 64 16 x (roundW 64 (pNeg 16 x) (pM 16 x) (pE 16 x) false) = (pOk 64 (roundW 64 (pNeg 16 x) (pM 16 x) (pE 16 x) false) && decide (pM 64 (roundW 64 (pNeg 16 x) (pM 16 x) (pE 16 x) false) = pM 16 x) && decide (pE 64 (roundW 64 (pNeg 16 x) (pM 16 x) (pE 16 x) false) = pE 16 x)) from rfl)
    clear HT HO HN hf hn hlt nn P2 P3 hfit
    generalize sameW 64 16 x (roundW 64 (pNeg 16 x) (pM 16 x) (pE 16 x) false) = sm at *
    generalize roundW 64 (pNeg 16 x) (pM 16 x) (pE 16 x) false = y at *
    generalize pM 16 x = m at *
    generalize pE 16 x = p at *
    generalize pNeg 16 x = ng at *
    generalize pM 64 y = m2 at *
    generalize pE 64 y = p2 at *
    generalize pOk 64 y = fin at *
    generalize pNeg 64 y = ng2 at *
    go_enter Tryz.func13, Tryz.ntmps13
    have C1 := Lib.hid (P1.out)
    go_wp2_with fail
    refine (C1.out).mono ?_
    rintro e w1 ⟨rfl, b1⟩
    have C2 := Lib.hid ((from_calls m w1 hm.1 (by omega)).mono fun e w' q => q.can)
    go_wp2_with fail
    refine (C2.out).mono ?_
    rintro e w2 ⟨ad2, n2, d2, rfl, f2, b2⟩
    have a2 := below_trans b1 b2
    have l2 := f2.len_le 2 (Int.lt_of_lt_of_le hm.2 (by decide))
    have C3 := Lib.hid (HRd.out w2 (hS.below a2 (Nat.le_refl _)) ad2 n2 d2 (f2.num hm.1) l2)
    go_wp2_with fail
    refine (C3.out).mono ?_
    rintro e w3 ⟨rfl, b3⟩
    have a3 := below_trans a2 b3
    have C4 := Lib.hid (HQ.out w3 (hS.below a3 (Nat.le_refl _)) (hT.below a3 (Nat.le_refl _)))
    go_wp2_with fail
    refine (C4.out).mono ?_
    rintro e w4 ⟨rfl, b4⟩
    have a4 := below_trans a3 b4
    cases fin
    · have HB := Lib.hid (show sm = false by rw [HSm.out]; rfl)
      go_wp2
      go_ret2
      rw [HR.out, HB.out]
      exact ⟨rfl, a4⟩
    · by_cases hm2 : m2 = m
      · by_cases hp2 : p2 = p
        · have HB := Lib.hid (show sm = true by rw [HSm.out, decide_eq_true hm2, decide_eq_true hp2]; rfl)
          have hm3 : (m2 == m) = true := by simpa using hm2
          have hp3 : (p2 == p) = true := by simpa using hp2
          clear HSm hm2 hp2
          go_wp2
          go_ret2
          rw [HR.out, HB.out]
          exact ⟨rfl, a4⟩
        · have HB := Lib.hid (show sm = false by rw [HSm.out, decide_eq_false hp2]; simp)
          have hm3 : (m2 == m) = true := by simpa using hm2
          have hp3 : (p2 == p) = false := by simpa using hp2
          clear HSm hm2 hp2
          go_wp2
          go_ret2
          rw [HR.out, HB.out]
          exact ⟨rfl, a4⟩
      · have HB := Lib.hid (show sm = false by rw [HSm.out, decide_eq_false hm2]; simp)
        have hm3 : (m2 == m) = false := by simpa using hm2
        clear HSm hm2
        go_wp2
        go_ret2
        rw [HR.out, HB.out]
        exact ⟨rfl, a4⟩
end Go.Proofs.YtoimhjcpeifegaaGreatDoor


/- Printed by ieee3.py. -/
namespace Go.Proofs.YtoimhjcpeifegaaGreatDoor
open Go.RowKit

set_option maxRecDepth 20000 in
set_option maxHeartbeats 2000000 in
theorem to_64_32 (w : World) (hS : Shapes w) (hT : Tab w) (x : Int) (hx : 0 ≤ x ∧ x < 4294967296) : Calls Tryz.prog 14 #[.int .u32 x] w (fun e w' => e = .returned (.tuple #[.int .u64 (toW 64 32 x).1, .bool (toW 64 32 x).2]) ∧ Below w.heap.size w w') := by
  have nn := nan_cls 32 x
  have hfit := inf_fits (W := 64) (by unfold Wide; omega)
  have HT := Lib.hid (show toW 64 32 x = if isNaN 32 x then (nanW 64, true) else if sizeW 32 x = infW 32 then ((if negW 32 x then sgnW 64 else 0) + infW 64, true)
    else (roundW 64 (pNeg 32 x) (pM 32 x) (pE 32 x) false, sameW 64 32 x (roundW 64 (pNeg 32 x) (pM 32 x) (pE 32 x) false)) from rfl)
  have HO := Lib.hid (show pOk 32 x = decide (sizeW 32 x < infW 32) from rfl)
  have HN := Lib.hid (show isNaN 32 x = decide (infW 32 < sizeW 32 x) from rfl)
  have P1 := Lib.hid (parts_32 w hS hT x hx)
  have P2 := Lib.hid (fun (w : World) (hS : Shapes w) => class_32 w hS x hx)
  have P3 := Lib.hid (fun (w : World) (hS : Shapes w) => split_32 w hS x hx)
  have hm := pM_bd (W := 32) (by unfold Wide; omega) x
  have he := pE_bd (W := 32) (by unfold Wide; omega) x
  generalize clsW 32 x = cl at *
  generalize toW 64 32 x = R at *
  cases hf : pOk 32 x
  · rw [hf] at P1 HO
    have hge := of_decide_eq_false HO.out.symm
    cases hn : isNaN 32 x
    · rw [hn] at nn HN HT
      have hle := of_decide_eq_false HN.out.symm
      have HR := Lib.hid (show R = ((if negW 32 x then sgnW 64 else 0) + 9218868437227405312, true) by rw [HT.out, if_neg (by decide), if_pos (by omega), inf64])
      have HSg := Lib.hid (fun (w : World) (hS : Shapes w) => signed_64 w hS (negW 32 x) 9218868437227405312 (by omega))
      generalize (if negW 32 x then sgnW 64 else 0) = sg at *
      clear HT HO HN hf hn hge hle hfit hm he
      generalize negW 32 x = ng at *
      generalize sizeW 32 x = z at *
      go_enter Tryz.func14, Tryz.ntmps14
      have C1 := Lib.hid (P1.out)
      go_wp2_with fail
      refine (C1.out).mono ?_
      rintro e w1 ⟨rfl, b1⟩
      have C2 := Lib.hid (P2.out w1 (hS.below b1 (Nat.le_refl _)))
      go_wp2_with fail
      refine (C2.out).mono ?_
      rintro e w2 ⟨rfl, b2⟩
      have a2 := below_trans b1 b2
      have C3 := Lib.hid (P3.out w2 (hS.below a2 (Nat.le_refl _)))
      go_wp2_with fail
      refine (C3.out).mono ?_
      rintro e w3 ⟨rfl, b3⟩
      have a3 := below_trans a2 b3
      have C4 := Lib.hid (of_64 w3 (hS.below a3 (Nat.le_refl _)))
      go_wp2_with fail
      refine (C4.out).mono ?_
      rintro e w4 ⟨rfl, b4⟩
      have a4 := below_trans a3 b4
      have C5 := Lib.hid (shinf_64 w4)
      go_wp2_with fail
      refine (C5.out).mono ?_
      rintro e w5 ⟨rfl, b5⟩
      have a5 := below_trans a4 b5
      have C6 := Lib.hid (HSg.out w5 (hS.below a5 (Nat.le_refl _)))
      go_wp2_with fail
      refine (C6.out).mono ?_
      rintro e w6 ⟨rfl, b6⟩
      have a6 := below_trans a5 b6
      go_wp2
      go_ret2
      rw [HR.out]
      exact ⟨rfl, a6⟩
    · rw [hn] at nn HT
      have HR := Lib.hid (show R = (9221120237041090560, true) by rw [HT.out, if_pos rfl, nan64])
      clear HT HO HN hf hn hge hfit hm he
      go_enter Tryz.func14, Tryz.ntmps14
      have C1 := Lib.hid (P1.out)
      go_wp2_with fail
      refine (C1.out).mono ?_
      rintro e w1 ⟨rfl, b1⟩
      have C2 := Lib.hid (P2.out w1 (hS.below b1 (Nat.le_refl _)))
      go_wp2_with fail
      refine (C2.out).mono ?_
      rintro e w2 ⟨rfl, b2⟩
      have a2 := below_trans b1 b2
      have C3 := Lib.hid (of_64 w2 (hS.below a2 (Nat.le_refl _)))
      go_wp2_with fail
      refine (C3.out).mono ?_
      rintro e w3 ⟨rfl, b3⟩
      have a3 := below_trans a2 b3
      have C4 := Lib.hid (shnan_64 w3)
      go_wp2_with fail
      refine (C4.out).mono ?_
      rintro e w4 ⟨rfl, b4⟩
      have a4 := below_trans a3 b4
      go_wp2
      go_ret2
      rw [HR.out]
      exact ⟨rfl, a4⟩
  · rw [hf] at P1 HO
    have hlt := of_decide_eq_true HO.out.symm
    have hn : isNaN 32 x = false := by rw [HN.out]; exact decide_eq_false (by omega)
    have HR := Lib.hid (show R = (roundW 64 (pNeg 32 x) (pM 32 x) (pE 32 x) false, sameW 64 32 x (roundW 64 (pNeg 32 x) (pM 32 x) (pE 32 x) false)) by rw [HT.out, hn, if_neg (by decide), if_neg (by omega)])
    have hy := roundW_bd (W := 64) (by unfold Wide; omega) (pNeg 32 x) (pM 32 x) (pE 32 x) false
    rw [show (2 : Int) ^ 64 = 18446744073709551616 from by decide] at hy
    have HQ := Lib.hid (fun (w : World) (hS : Shapes w) (hT : Tab w) => parts_64 w hS hT (roundW 64 (pNeg 32 x) (pM 32 x) (pE 32 x) false) hy)
    have HRd := Lib.hid (fun (w : World) (hS : Shapes w) (ad : Option Addr) (n c : Nat) (h : Num w ad n c (pM 32 x)) (hn : n ≤ 2) => round_64 w hS (pNeg 32 x) ad n c (pM 32 x) (pE 32 x) false h (by omega) (by omega))
    have HSm := Lib.hid (show sameW 64 32 x (roundW 64 (pNeg 32 x) (pM 32 x) (pE 32 x) false) = (pOk 64 (roundW 64 (pNeg 32 x) (pM 32 x) (pE 32 x) false) && decide (pM 64 (roundW 64 (pNeg 32 x) (pM 32 x) (pE 32 x) false) = pM 32 x) && decide (pE 64 (roundW 64 (pNeg 32 x) (pM 32 x) (pE 32 x) false) = pE 32 x)) from rfl)
    clear HT HO HN hf hn hlt nn P2 P3 hfit
    generalize sameW 64 32 x (roundW 64 (pNeg 32 x) (pM 32 x) (pE 32 x) false) = sm at *
    generalize roundW 64 (pNeg 32 x) (pM 32 x) (pE 32 x) false = y at *
    generalize pM 32 x = m at *
    generalize pE 32 x = p at *
    generalize pNeg 32 x = ng at *
    generalize pM 64 y = m2 at *
    generalize pE 64 y = p2 at *
    generalize pOk 64 y = fin at *
    generalize pNeg 64 y = ng2 at *
    go_enter Tryz.func14, Tryz.ntmps14
    have C1 := Lib.hid (P1.out)
    go_wp2_with fail
    refine (C1.out).mono ?_
    rintro e w1 ⟨rfl, b1⟩
    have C2 := Lib.hid ((from_calls m w1 hm.1 (by omega)).mono fun e w' q => q.can)
    go_wp2_with fail
    refine (C2.out).mono ?_
    rintro e w2 ⟨ad2, n2, d2, rfl, f2, b2⟩
    have a2 := below_trans b1 b2
    have l2 := f2.len_le 2 (Int.lt_of_lt_of_le hm.2 (by decide))
    have C3 := Lib.hid (HRd.out w2 (hS.below a2 (Nat.le_refl _)) ad2 n2 d2 (f2.num hm.1) l2)
    go_wp2_with fail
    refine (C3.out).mono ?_
    rintro e w3 ⟨rfl, b3⟩
    have a3 := below_trans a2 b3
    have C4 := Lib.hid (HQ.out w3 (hS.below a3 (Nat.le_refl _)) (hT.below a3 (Nat.le_refl _)))
    go_wp2_with fail
    refine (C4.out).mono ?_
    rintro e w4 ⟨rfl, b4⟩
    have a4 := below_trans a3 b4
    cases fin
    · have HB := Lib.hid (show sm = false by rw [HSm.out]; rfl)
      go_wp2
      go_ret2
      rw [HR.out, HB.out]
      exact ⟨rfl, a4⟩
    · by_cases hm2 : m2 = m
      · by_cases hp2 : p2 = p
        · have HB := Lib.hid (show sm = true by rw [HSm.out, decide_eq_true hm2, decide_eq_true hp2]; rfl)
          have hm3 : (m2 == m) = true := by simpa using hm2
          have hp3 : (p2 == p) = true := by simpa using hp2
          clear HSm hm2 hp2
          go_wp2
          go_ret2
          rw [HR.out, HB.out]
          exact ⟨rfl, a4⟩
        · have HB := Lib.hid (show sm = false by rw [HSm.out, decide_eq_false hp2]; simp)
          have hm3 : (m2 == m) = true := by simpa using hm2
          have hp3 : (p2 == p) = false := by simpa using hp2
          clear HSm hm2 hp2
          go_wp2
          go_ret2
          rw [HR.out, HB.out]
          exact ⟨rfl, a4⟩
      · have HB := Lib.hid (show sm = false by rw [HSm.out, decide_eq_false hm2]; simp)
        have hm3 : (m2 == m) = false := by simpa using hm2
        clear HSm hm2
        go_wp2
        go_ret2
        rw [HR.out, HB.out]
        exact ⟨rfl, a4⟩
end Go.Proofs.YtoimhjcpeifegaaGreatDoor


/- Printed by ieee3.py. -/
namespace Go.Proofs.YtoimhjcpeifegaaGreatDoor
open Go.RowKit

set_option maxRecDepth 20000 in
set_option maxHeartbeats 2000000 in
theorem to_64_64 (w : World) (hS : Shapes w) (hT : Tab w) (x : Int) (hx : 0 ≤ x ∧ x < 18446744073709551616) : Calls Tryz.prog 68 #[.int .u64 x] w (fun e w' => e = .returned (.tuple #[.int .u64 (toW 64 64 x).1, .bool (toW 64 64 x).2]) ∧ Below w.heap.size w w') := by
  have nn := nan_cls 64 x
  have hfit := inf_fits (W := 64) (by unfold Wide; omega)
  have HT := Lib.hid (show toW 64 64 x = if isNaN 64 x then (nanW 64, true) else if sizeW 64 x = infW 64 then ((if negW 64 x then sgnW 64 else 0) + infW 64, true)
    else (roundW 64 (pNeg 64 x) (pM 64 x) (pE 64 x) false, sameW 64 64 x (roundW 64 (pNeg 64 x) (pM 64 x) (pE 64 x) false)) from rfl)
  have HO := Lib.hid (show pOk 64 x = decide (sizeW 64 x < infW 64) from rfl)
  have HN := Lib.hid (show isNaN 64 x = decide (infW 64 < sizeW 64 x) from rfl)
  have P1 := Lib.hid (parts_64 w hS hT x hx)
  have P2 := Lib.hid (fun (w : World) (hS : Shapes w) => class_64 w hS x hx)
  have P3 := Lib.hid (fun (w : World) (hS : Shapes w) => split_64 w hS x hx)
  have hm := pM_bd (W := 64) (by unfold Wide; omega) x
  have he := pE_bd (W := 64) (by unfold Wide; omega) x
  generalize clsW 64 x = cl at *
  generalize toW 64 64 x = R at *
  cases hf : pOk 64 x
  · rw [hf] at P1 HO
    have hge := of_decide_eq_false HO.out.symm
    cases hn : isNaN 64 x
    · rw [hn] at nn HN HT
      have hle := of_decide_eq_false HN.out.symm
      have HR := Lib.hid (show R = ((if negW 64 x then sgnW 64 else 0) + 9218868437227405312, true) by rw [HT.out, if_neg (by decide), if_pos (by omega), inf64])
      have HSg := Lib.hid (fun (w : World) (hS : Shapes w) => signed_64 w hS (negW 64 x) 9218868437227405312 (by omega))
      generalize (if negW 64 x then sgnW 64 else 0) = sg at *
      clear HT HO HN hf hn hge hle hfit hm he
      generalize negW 64 x = ng at *
      generalize sizeW 64 x = z at *
      go_enter Tryz.func68, Tryz.ntmps68
      have C1 := Lib.hid (P1.out)
      go_wp2_with fail
      refine (C1.out).mono ?_
      rintro e w1 ⟨rfl, b1⟩
      have C2 := Lib.hid (P2.out w1 (hS.below b1 (Nat.le_refl _)))
      go_wp2_with fail
      refine (C2.out).mono ?_
      rintro e w2 ⟨rfl, b2⟩
      have a2 := below_trans b1 b2
      have C3 := Lib.hid (P3.out w2 (hS.below a2 (Nat.le_refl _)))
      go_wp2_with fail
      refine (C3.out).mono ?_
      rintro e w3 ⟨rfl, b3⟩
      have a3 := below_trans a2 b3
      have C4 := Lib.hid (of_64 w3 (hS.below a3 (Nat.le_refl _)))
      go_wp2_with fail
      refine (C4.out).mono ?_
      rintro e w4 ⟨rfl, b4⟩
      have a4 := below_trans a3 b4
      have C5 := Lib.hid (shinf_64 w4)
      go_wp2_with fail
      refine (C5.out).mono ?_
      rintro e w5 ⟨rfl, b5⟩
      have a5 := below_trans a4 b5
      have C6 := Lib.hid (HSg.out w5 (hS.below a5 (Nat.le_refl _)))
      go_wp2_with fail
      refine (C6.out).mono ?_
      rintro e w6 ⟨rfl, b6⟩
      have a6 := below_trans a5 b6
      go_wp2
      go_ret2
      rw [HR.out]
      exact ⟨rfl, a6⟩
    · rw [hn] at nn HT
      have HR := Lib.hid (show R = (9221120237041090560, true) by rw [HT.out, if_pos rfl, nan64])
      clear HT HO HN hf hn hge hfit hm he
      go_enter Tryz.func68, Tryz.ntmps68
      have C1 := Lib.hid (P1.out)
      go_wp2_with fail
      refine (C1.out).mono ?_
      rintro e w1 ⟨rfl, b1⟩
      have C2 := Lib.hid (P2.out w1 (hS.below b1 (Nat.le_refl _)))
      go_wp2_with fail
      refine (C2.out).mono ?_
      rintro e w2 ⟨rfl, b2⟩
      have a2 := below_trans b1 b2
      have C3 := Lib.hid (of_64 w2 (hS.below a2 (Nat.le_refl _)))
      go_wp2_with fail
      refine (C3.out).mono ?_
      rintro e w3 ⟨rfl, b3⟩
      have a3 := below_trans a2 b3
      have C4 := Lib.hid (shnan_64 w3)
      go_wp2_with fail
      refine (C4.out).mono ?_
      rintro e w4 ⟨rfl, b4⟩
      have a4 := below_trans a3 b4
      go_wp2
      go_ret2
      rw [HR.out]
      exact ⟨rfl, a4⟩
  · rw [hf] at P1 HO
    have hlt := of_decide_eq_true HO.out.symm
    have hn : isNaN 64 x = false := by rw [HN.out]; exact decide_eq_false (by omega)
    have HR := Lib.hid (show R = (roundW 64 (pNeg 64 x) (pM 64 x) (pE 64 x) false, sameW 64 64 x (roundW 64 (pNeg 64 x) (pM 64 x) (pE 64 x) false)) by rw [HT.out, hn, if_neg (by decide), if_neg (by omega)])
    have hy := roundW_bd (W := 64) (by unfold Wide; omega) (pNeg 64 x) (pM 64 x) (pE 64 x) false
    rw [show (2 : Int) ^ 64 = 18446744073709551616 from by decide] at hy
    have HQ := Lib.hid (fun (w : World) (hS : Shapes w) (hT : Tab w) => parts_64 w hS hT (roundW 64 (pNeg 64 x) (pM 64 x) (pE 64 x) false) hy)
    have HRd := Lib.hid (fun (w : World) (hS : Shapes w) (ad : Option Addr) (n c : Nat) (h : Num w ad n c (pM 64 x)) (hn : n ≤ 2) => round_64 w hS (pNeg 64 x) ad n c (pM 64 x) (pE 64 x) false h (by omega) (by omega))
    have HSm := Lib.hid (show sameW 64 64 x (roundW 64 (pNeg 64 x) (pM 64 x) (pE 64 x) false) = (pOk 64 (roundW 64 (pNeg 64 x) (pM 64 x) (pE 64 x) false) && decide (pM 64 (roundW 64 (pNeg 64 x) (pM 64 x) (pE 64 x) false) = pM 64 x) && decide (pE 64 (roundW 64 (pNeg 64 x) (pM 64 x) (pE 64 x) false) = pE 64 x)) from rfl)
    clear HT HO HN hf hn hlt nn P2 P3 hfit
    generalize sameW 64 64 x (roundW 64 (pNeg 64 x) (pM 64 x) (pE 64 x) false) = sm at *
    generalize roundW 64 (pNeg 64 x) (pM 64 x) (pE 64 x) false = y at *
    generalize pM 64 x = m at *
    generalize pE 64 x = p at *
    generalize pNeg 64 x = ng at *
    generalize pM 64 y = m2 at *
    generalize pE 64 y = p2 at *
    generalize pOk 64 y = fin at *
    generalize pNeg 64 y = ng2 at *
    go_enter Tryz.func68, Tryz.ntmps68
    have C1 := Lib.hid (P1.out)
    go_wp2_with fail
    refine (C1.out).mono ?_
    rintro e w1 ⟨rfl, b1⟩
    have C2 := Lib.hid ((from_calls m w1 hm.1 (by omega)).mono fun e w' q => q.can)
    go_wp2_with fail
    refine (C2.out).mono ?_
    rintro e w2 ⟨ad2, n2, d2, rfl, f2, b2⟩
    have a2 := below_trans b1 b2
    have l2 := f2.len_le 2 (Int.lt_of_lt_of_le hm.2 (by decide))
    have C3 := Lib.hid (HRd.out w2 (hS.below a2 (Nat.le_refl _)) ad2 n2 d2 (f2.num hm.1) l2)
    go_wp2_with fail
    refine (C3.out).mono ?_
    rintro e w3 ⟨rfl, b3⟩
    have a3 := below_trans a2 b3
    have C4 := Lib.hid (HQ.out w3 (hS.below a3 (Nat.le_refl _)) (hT.below a3 (Nat.le_refl _)))
    go_wp2_with fail
    refine (C4.out).mono ?_
    rintro e w4 ⟨rfl, b4⟩
    have a4 := below_trans a3 b4
    cases fin
    · have HB := Lib.hid (show sm = false by rw [HSm.out]; rfl)
      go_wp2
      go_ret2
      rw [HR.out, HB.out]
      exact ⟨rfl, a4⟩
    · by_cases hm2 : m2 = m
      · by_cases hp2 : p2 = p
        · have HB := Lib.hid (show sm = true by rw [HSm.out, decide_eq_true hm2, decide_eq_true hp2]; rfl)
          have hm3 : (m2 == m) = true := by simpa using hm2
          have hp3 : (p2 == p) = true := by simpa using hp2
          clear HSm hm2 hp2
          go_wp2
          go_ret2
          rw [HR.out, HB.out]
          exact ⟨rfl, a4⟩
        · have HB := Lib.hid (show sm = false by rw [HSm.out, decide_eq_false hp2]; simp)
          have hm3 : (m2 == m) = true := by simpa using hm2
          have hp3 : (p2 == p) = false := by simpa using hp2
          clear HSm hm2 hp2
          go_wp2
          go_ret2
          rw [HR.out, HB.out]
          exact ⟨rfl, a4⟩
      · have HB := Lib.hid (show sm = false by rw [HSm.out, decide_eq_false hm2]; simp)
        have hm3 : (m2 == m) = false := by simpa using hm2
        clear HSm hm2
        go_wp2
        go_ret2
        rw [HR.out, HB.out]
        exact ⟨rfl, a4⟩
end Go.Proofs.YtoimhjcpeifegaaGreatDoor

