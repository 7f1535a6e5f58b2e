/- Contracts of functions, and plain facts, part 19. -/
import Derived.Test.YtmnabilgpndjmaaDoorPk3
import Derived.Test.YtmnabilgpndjmaaDoorPk5
import Derived.Test.YtmnabilgpndjmaaDoorPk6
import Derived.Test.YtmnabilgpndjmaaDoorPk7
import Derived.Test.YtmnabilgpndjmaaDoorPk8
import Derived.Test.YtmnabilgpndjmaaDoorPk9
import Derived.Test.YtmnabilgpndjmaaDoorPk10
import Derived.Test.YtmnabilgpndjmaaDoorPk11
import Derived.Test.YtmnabilgpndjmaaDoorPk15
import Derived.Test.YtmnabilgpndjmaaDoorPk17
set_option linter.unusedVariables false
set_option linter.unusedSimpArgs false
/- crucibleref04.Cmp2. -/
namespace Go.Proofs.YtmnabilgpndjmaaDoor
open Go.RowKit

theorem rcmp2_calls (ad bd : Option Addr) (n m c d : Nat) (A B p q : Int) (w : World) (ha : Num w ad n c A) (hb : Num w bd m d B) (hA : 0 ≤ A) (hB : 0 ≤ B) (lA : A < 4294967296 ^ 4096) (lB : B < 4294967296 ^ 4096)
    (hn : n ≤ 1099511627776) (hm : m ≤ 1099511627776) (hp : -65536 ≤ p ∧ p ≤ 65536) (hq : -65536 ≤ q ∧ q ≤ 65536) :
    Calls Tryd.prog 75 #[.slice ad n c, .int .i64 p, .slice bd m d, .int .i64 q] w (RetIB (cmp2 A p B q) w) := by
  rcases Int.lt_trichotomy p q with h | h | h
  · obtain ⟨s1, s2, s3, s4⟩ := shl_fits B 4096 (q - p) hB lB (by omega) (by omega)
    have H1 := num_rshl bd m d B (q - p) w hb (by omega) (by omega)
    rw [s1, s2] at H1
    have E := Lib.hid (show cmpI A (B * 2 ^ (q - p).toNat) = cmp2 A p B q by unfold cmp2; rw [show (p - q).toNat = 0 by omega, Int.pow_zero, Int.mul_one])
    have H := Lib.hid H1
    generalize B * 2 ^ (q - p).toNat = B2 at *
    have S := Lib.hid s4
    clear H1 s1 s2 s4 lA lB
    go_enter Tryd.func75, Tryd.ntmps75
    go_wp2_with fail
    refine (H.out).mono ?_
    rintro e w1 ⟨bd1, m1, d1, rfl, f1, b1⟩
    have l1 := f1.len_le _ S.out
    have H2 := Lib.hid (num_rcmp ad bd1 n m1 c d1 A B2 w1 (ha.below b1 (Nat.le_refl _)) (f1.num s3) (by omega) (by omega))
    go_wp2_with fail
    refine (H2.out).mono ?_
    rintro e w2 ⟨rfl, b2⟩
    go_wp2
    go_ret
    rw [E.out]
    exact ⟨rfl, below_trans b1 b2⟩
  · subst h
    have E := Lib.hid (show cmpI A B = cmp2 A p B p by unfold cmp2; rw [Int.sub_self, show (0 : Int).toNat = 0 from rfl, Int.pow_zero, Int.mul_one, Int.mul_one])
    have H2 := Lib.hid (num_rcmp ad bd n m c d A B w ha hb (by omega) (by omega))
    clear lA lB
    go_enter Tryd.func75, Tryd.ntmps75
    go_wp2_with fail
    refine (H2.out).mono ?_
    rintro e w2 ⟨rfl, b2⟩
    go_wp2
    go_ret
    rw [E.out]
    exact ⟨rfl, b2⟩
  · obtain ⟨s1, s2, s3, s4⟩ := shl_fits A 4096 (p - q) hA lA (by omega) (by omega)
    have H1 := num_rshl ad n c A (p - q) w ha (by omega) (by omega)
    rw [s1, s2] at H1
    have E := Lib.hid (show cmpI (A * 2 ^ (p - q).toNat) B = cmp2 A p B q by unfold cmp2; rw [show (q - p).toNat = 0 by omega, Int.pow_zero, Int.mul_one])
    have H := Lib.hid H1
    generalize A * 2 ^ (p - q).toNat = A2 at *
    have S := Lib.hid s4
    clear H1 s1 s2 s4 lA lB
    go_enter Tryd.func75, Tryd.ntmps75
    go_wp2_with fail
    refine (H.out).mono ?_
    rintro e w1 ⟨ad1, n1, c1, rfl, f1, b1⟩
    have l1 := f1.len_le _ S.out
    have H2 := Lib.hid (num_rcmp ad1 bd n1 m c1 d A2 B w1 (f1.num s3) (hb.below b1 (Nat.le_refl _)) (by omega) (by omega))
    go_wp2_with fail
    refine (H2.out).mono ?_
    rintro e w2 ⟨rfl, b2⟩
    go_wp2
    go_ret
    rw [E.out]
    exact ⟨rfl, below_trans b1 b2⟩
end Go.Proofs.YtmnabilgpndjmaaDoor

/- Printed by ieee3.py. -/
namespace Go.Proofs.YtmnabilgpndjmaaDoor
open Go.RowKit

set_option maxRecDepth 20000 in
set_option maxHeartbeats 2000000 in
theorem to_16_16 (w : World) (hS : Shapes w) (hT : Tab w) (x : Int) (hx : 0 ≤ x ∧ x < 65536) : Calls Tryd.prog 135 #[.int .u16 x] w (fun e w' => e = .returned (.tuple #[.int .u16 (toW 16 16 x).1, .bool (toW 16 16 x).2]) ∧ Below w.heap.size w w') := by
  have nn := nan_cls 16 x
  have hfit := inf_fits (W := 16) (by unfold Wide; omega)
  have HT := Lib.hid (show toW 16 16 x = if isNaN 16 x then (nanW 16, true) else if sizeW 16 x = infW 16 then ((if negW 16 x then sgnW 16 else 0) + infW 16, true)
    else (roundW 16 (pNeg 16 x) (pM 16 x) (pE 16 x) false, sameW 16 16 x (roundW 16 (pNeg 16 x) (pM 16 x) (pE 16 x) false)) from rfl)
  have HO := Lib.hid (show pOk 16 x = decide (sizeW 16 x < infW 16) from rfl)
  have HN := Lib.hid (show isNaN 16 x = decide (infW 16 < sizeW 16 x) from rfl)
  have P1 := Lib.hid (parts_16 w hS hT x hx)
  have P2 := Lib.hid (fun (w : World) (hS : Shapes w) => class_16 w hS x hx)
  have P3 := Lib.hid (fun (w : World) (hS : Shapes w) => split_16 w hS x hx)
  have hm := pM_bd (W := 16) (by unfold Wide; omega) x
  have he := pE_bd (W := 16) (by unfold Wide; omega) x
  generalize clsW 16 x = cl at *
  generalize toW 16 16 x = R at *
  cases hf : pOk 16 x
  · rw [hf] at P1 HO
    have hge := of_decide_eq_false HO.out.symm
    cases hn : isNaN 16 x
    · rw [hn] at nn HN HT
      have hle := of_decide_eq_false HN.out.symm
      have HR := Lib.hid (show R = ((if negW 16 x then sgnW 16 else 0) + 31744, true) by rw [HT.out, if_neg (by decide), if_pos (by omega), inf16])
      have HSg := Lib.hid (fun (w : World) (hS : Shapes w) => signed_16 w hS (negW 16 x) 31744 (by omega))
      generalize (if negW 16 x then sgnW 16 else 0) = sg at *
      clear HT HO HN hf hn hge hle hfit hm he
      generalize negW 16 x = ng at *
      generalize sizeW 16 x = z at *
      go_enter Tryd.func135, Tryd.ntmps135
      have C1 := Lib.hid (P1.out)
      go_wp2_with fail
      refine (C1.out).mono ?_
      rintro e w1 ⟨rfl, b1⟩
      have C2 := Lib.hid (P2.out w1 (hS.below b1 (Nat.le_refl _)))
      go_wp2_with fail
      refine (C2.out).mono ?_
      rintro e w2 ⟨rfl, b2⟩
      have a2 := below_trans b1 b2
      have C3 := Lib.hid (P3.out w2 (hS.below a2 (Nat.le_refl _)))
      go_wp2_with fail
      refine (C3.out).mono ?_
      rintro e w3 ⟨rfl, b3⟩
      have a3 := below_trans a2 b3
      have C4 := Lib.hid (of_16 w3 (hS.below a3 (Nat.le_refl _)))
      go_wp2_with fail
      refine (C4.out).mono ?_
      rintro e w4 ⟨rfl, b4⟩
      have a4 := below_trans a3 b4
      have C5 := Lib.hid (shinf_16 w4)
      go_wp2_with fail
      refine (C5.out).mono ?_
      rintro e w5 ⟨rfl, b5⟩
      have a5 := below_trans a4 b5
      have C6 := Lib.hid (HSg.out w5 (hS.below a5 (Nat.le_refl _)))
      go_wp2_with fail
      refine (C6.out).mono ?_
      rintro e w6 ⟨rfl, b6⟩
      have a6 := below_trans a5 b6
      go_wp2
      go_ret2
      rw [HR.out]
      exact ⟨rfl, a6⟩
    · rw [hn] at nn HT
      have HR := Lib.hid (show R = (32256, true) by rw [HT.out, if_pos rfl, nan16])
      clear HT HO HN hf hn hge hfit hm he
      go_enter Tryd.func135, Tryd.ntmps135
      have C1 := Lib.hid (P1.out)
      go_wp2_with fail
      refine (C1.out).mono ?_
      rintro e w1 ⟨rfl, b1⟩
      have C2 := Lib.hid (P2.out w1 (hS.below b1 (Nat.le_refl _)))
      go_wp2_with fail
      refine (C2.out).mono ?_
      rintro e w2 ⟨rfl, b2⟩
      have a2 := below_trans b1 b2
      have C3 := Lib.hid (of_16 w2 (hS.below a2 (Nat.le_refl _)))
      go_wp2_with fail
      refine (C3.out).mono ?_
      rintro e w3 ⟨rfl, b3⟩
      have a3 := below_trans a2 b3
      have C4 := Lib.hid (shnan_16 w3)
      go_wp2_with fail
      refine (C4.out).mono ?_
      rintro e w4 ⟨rfl, b4⟩
      have a4 := below_trans a3 b4
      go_wp2
      go_ret2
      rw [HR.out]
      exact ⟨rfl, a4⟩
  · rw [hf] at P1 HO
    have hlt := of_decide_eq_true HO.out.symm
    have hn : isNaN 16 x = false := by rw [HN.out]; exact decide_eq_false (by omega)
    have HR := Lib.hid (show R = (roundW 16 (pNeg 16 x) (pM 16 x) (pE 16 x) false, sameW 16 16 x (roundW 16 (pNeg 16 x) (pM 16 x) (pE 16 x) false)) by rw [HT.out, hn, if_neg (by decide), if_neg (by omega)])
    have hy := roundW_bd (W := 16) (by unfold Wide; omega) (pNeg 16 x) (pM 16 x) (pE 16 x) false
    rw [show (2 : Int) ^ 16 = 65536 from by decide] at hy
    have HQ := Lib.hid (fun (w : World) (hS : Shapes w) (hT : Tab w) => parts_16 w hS hT (roundW 16 (pNeg 16 x) (pM 16 x) (pE 16 x) false) hy)
    have HRd := Lib.hid (fun (w : World) (hS : Shapes w) (ad : Option Addr) (n c : Nat) (h : Num w ad n c (pM 16 x)) (hn : n ≤ 2) => round_16 w hS (pNeg 16 x) ad n c (pM 16 x) (pE 16 x) false h (by omega) (by omega))
    have HSm := Lib.hid (show sameW 16 16 x (roundW 16 (pNeg 16 x) (pM 16 x) (pE 16 x) false) = (pOk 16 (roundW 16 (pNeg 16 x) (pM 16 x) (pE 16 x) false) && decide (pM 16 (roundW 16 (pNeg 16 x) (pM 16 x) (pE 16 x) false) = pM 16 x) && decide (pE 16 (roundW 16 (pNeg 16 x) (pM 16 x) (pE 16 x) false) = pE 16 x)) from rfl)
    clear HT HO HN hf hn hlt nn P2 P3 hfit
    generalize sameW 16 16 x (roundW 16 (pNeg 16 x) (pM 16 x) (pE 16 x) false) = sm at *
    generalize roundW 16 (pNeg 16 x) (pM 16 x) (pE 16 x) false = y at *
    generalize pM 16 x = m at *
    generalize pE 16 x = p at *
    generalize pNeg 16 x = ng at *
    generalize pM 16 y = m2 at *
    generalize pE 16 y = p2 at *
    generalize pOk 16 y = fin at *
    generalize pNeg 16 y = ng2 at *
    go_enter Tryd.func135, Tryd.ntmps135
    have C1 := Lib.hid (P1.out)
    go_wp2_with fail
    refine (C1.out).mono ?_
    rintro e w1 ⟨rfl, b1⟩
    have C2 := Lib.hid ((from_calls m w1 hm.1 (by omega)).mono fun e w' q => q.can)
    go_wp2_with fail
    refine (C2.out).mono ?_
    rintro e w2 ⟨ad2, n2, d2, rfl, f2, b2⟩
    have a2 := below_trans b1 b2
    have l2 := f2.len_le 2 (Int.lt_of_lt_of_le hm.2 (by decide))
    have C3 := Lib.hid (HRd.out w2 (hS.below a2 (Nat.le_refl _)) ad2 n2 d2 (f2.num hm.1) l2)
    go_wp2_with fail
    refine (C3.out).mono ?_
    rintro e w3 ⟨rfl, b3⟩
    have a3 := below_trans a2 b3
    have C4 := Lib.hid (HQ.out w3 (hS.below a3 (Nat.le_refl _)) (hT.below a3 (Nat.le_refl _)))
    go_wp2_with fail
    refine (C4.out).mono ?_
    rintro e w4 ⟨rfl, b4⟩
    have a4 := below_trans a3 b4
    cases fin
    · have HB := Lib.hid (show sm = false by rw [HSm.out]; rfl)
      go_wp2
      go_ret2
      rw [HR.out, HB.out]
      exact ⟨rfl, a4⟩
    · by_cases hm2 : m2 = m
      · by_cases hp2 : p2 = p
        · have HB := Lib.hid (show sm = true by rw [HSm.out, decide_eq_true hm2, decide_eq_true hp2]; rfl)
          have hm3 : (m2 == m) = true := by simpa using hm2
          have hp3 : (p2 == p) = true := by simpa using hp2
          clear HSm hm2 hp2
          go_wp2
          go_ret2
          rw [HR.out, HB.out]
          exact ⟨rfl, a4⟩
        · have HB := Lib.hid (show sm = false by rw [HSm.out, decide_eq_false hp2]; simp)
          have hm3 : (m2 == m) = true := by simpa using hm2
          have hp3 : (p2 == p) = false := by simpa using hp2
          clear HSm hm2 hp2
          go_wp2
          go_ret2
          rw [HR.out, HB.out]
          exact ⟨rfl, a4⟩
      · have HB := Lib.hid (show sm = false by rw [HSm.out, decide_eq_false hm2]; simp)
        have hm3 : (m2 == m) = false := by simpa using hm2
        clear HSm hm2
        go_wp2
        go_ret2
        rw [HR.out, HB.out]
        exact ⟨rfl, a4⟩
end Go.Proofs.YtmnabilgpndjmaaDoor

/- Printed by ieee3.py. -/
namespace Go.Proofs.YtmnabilgpndjmaaDoor
open Go.RowKit

set_option maxRecDepth 20000 in
set_option maxHeartbeats 2000000 in
theorem to_16_32 (w : World) (hS : Shapes w) (hT : Tab w) (x : Int) (hx : 0 ≤ x ∧ x < 4294967296) : Calls Tryd.prog 138 #[.int .u32 x] w (fun e w' => e = .returned (.tuple #[.int .u16 (toW 16 32 x).1, .bool (toW 16 32 x).2]) ∧ Below w.heap.size w w') := by
  have nn := nan_cls 32 x
  have hfit := inf_fits (W := 16) (by unfold Wide; omega)
  have HT := Lib.hid (show toW 16 32 x = if isNaN 32 x then (nanW 16, true) else if sizeW 32 x = infW 32 then ((if negW 32 x then sgnW 16 else 0) + infW 16, true)
    else (roundW 16 (pNeg 32 x) (pM 32 x) (pE 32 x) false, sameW 16 32 x (roundW 16 (pNeg 32 x) (pM 32 x) (pE 32 x) false)) from rfl)
  have HO := Lib.hid (show pOk 32 x = decide (sizeW 32 x < infW 32) from rfl)
  have HN := Lib.hid (show isNaN 32 x = decide (infW 32 < sizeW 32 x) from rfl)
  have P1 := Lib.hid (parts_32 w hS hT x hx)
  have P2 := Lib.hid (fun (w : World) (hS : Shapes w) => class_32 w hS x hx)
  have P3 := Lib.hid (fun (w : World) (hS : Shapes w) => split_32 w hS x hx)
  have hm := pM_bd (W := 32) (by unfold Wide; omega) x
  have he := pE_bd (W := 32) (by unfold Wide; omega) x
  generalize clsW 32 x = cl at *
  generalize toW 16 32 x = R at *
  cases hf : pOk 32 x
  · rw [hf] at P1 HO
    have hge := of_decide_eq_false HO.out.symm
    cases hn : isNaN 32 x
    · rw [hn] at nn HN HT
      have hle := of_decide_eq_false HN.out.symm
      have HR := Lib.hid (show R = ((if negW 32 x then sgnW 16 else 0) + 31744, true) by rw [HT.out, if_neg (by decide), if_pos (by omega), inf16])
      have HSg := Lib.hid (fun (w : World) (hS : Shapes w) => signed_16 w hS (negW 32 x) 31744 (by omega))
      generalize (if negW 32 x then sgnW 16 else 0) = sg at *
      clear HT HO HN hf hn hge hle hfit hm he
      generalize negW 32 x = ng at *
      generalize sizeW 32 x = z at *
      go_enter Tryd.func138, Tryd.ntmps138
      have C1 := Lib.hid (P1.out)
      go_wp2_with fail
      refine (C1.out).mono ?_
      rintro e w1 ⟨rfl, b1⟩
      have C2 := Lib.hid (P2.out w1 (hS.below b1 (Nat.le_refl _)))
      go_wp2_with fail
      refine (C2.out).mono ?_
      rintro e w2 ⟨rfl, b2⟩
      have a2 := below_trans b1 b2
      have C3 := Lib.hid (P3.out w2 (hS.below a2 (Nat.le_refl _)))
      go_wp2_with fail
      refine (C3.out).mono ?_
      rintro e w3 ⟨rfl, b3⟩
      have a3 := below_trans a2 b3
      have C4 := Lib.hid (of_16 w3 (hS.below a3 (Nat.le_refl _)))
      go_wp2_with fail
      refine (C4.out).mono ?_
      rintro e w4 ⟨rfl, b4⟩
      have a4 := below_trans a3 b4
      have C5 := Lib.hid (shinf_16 w4)
      go_wp2_with fail
      refine (C5.out).mono ?_
      rintro e w5 ⟨rfl, b5⟩
      have a5 := below_trans a4 b5
      have C6 := Lib.hid (HSg.out w5 (hS.below a5 (Nat.le_refl _)))
      go_wp2_with fail
      refine (C6.out).mono ?_
      rintro e w6 ⟨rfl, b6⟩
      have a6 := below_trans a5 b6
      go_wp2
      go_ret2
      rw [HR.out]
      exact ⟨rfl, a6⟩
    · rw [hn] at nn HT
      have HR := Lib.hid (show R = (32256, true) by rw [HT.out, if_pos rfl, nan16])
      clear HT HO HN hf hn hge hfit hm he
      go_enter Tryd.func138, Tryd.ntmps138
      have C1 := Lib.hid (P1.out)
      go_wp2_with fail
      refine (C1.out).mono ?_
      rintro e w1 ⟨rfl, b1⟩
      have C2 := Lib.hid (P2.out w1 (hS.below b1 (Nat.le_refl _)))
      go_wp2_with fail
      refine (C2.out).mono ?_
      rintro e w2 ⟨rfl, b2⟩
      have a2 := below_trans b1 b2
      have C3 := Lib.hid (of_16 w2 (hS.below a2 (Nat.le_refl _)))
      go_wp2_with fail
      refine (C3.out).mono ?_
      rintro e w3 ⟨rfl, b3⟩
      have a3 := below_trans a2 b3
      have C4 := Lib.hid (shnan_16 w3)
      go_wp2_with fail
      refine (C4.out).mono ?_
      rintro e w4 ⟨rfl, b4⟩
      have a4 := below_trans a3 b4
      go_wp2
      go_ret2
      rw [HR.out]
      exact ⟨rfl, a4⟩
  · rw [hf] at P1 HO
    have hlt := of_decide_eq_true HO.out.symm
    have hn : isNaN 32 x = false := by rw [HN.out]; exact decide_eq_false (by omega)
    have HR := Lib.hid (show R = (roundW 16 (pNeg 32 x) (pM 32 x) (pE 32 x) false, sameW 16 32 x (roundW 16 (pNeg 32 x) (pM 32 x) (pE 32 x) false)) by rw [HT.out, hn, if_neg (by decide), if_neg (by omega)])
    have hy := roundW_bd (W := 16) (by unfold Wide; omega) (pNeg 32 x) (pM 32 x) (pE 32 x) false
    rw [show (2 : Int) ^ 16 = 65536 from by decide] at hy
    have HQ := Lib.hid (fun (w : World) (hS : Shapes w) (hT : Tab w) => parts_16 w hS hT (roundW 16 (pNeg 32 x) (pM 32 x) (pE 32 x) false) hy)
    have HRd := Lib.hid (fun (w : World) (hS : Shapes w) (ad : Option Addr) (n c : Nat) (h : Num w ad n c (pM 32 x)) (hn : n ≤ 2) => round_16 w hS (pNeg 32 x) ad n c (pM 32 x) (pE 32 x) false h (by omega) (by omega))
    have HSm := Lib.hid (show sameW 16 32 x (roundW 16 (pNeg 32 x) (pM 32 x) (pE 32 x) false) = (pOk 16 (roundW 16 (pNeg 32 x) (pM 32 x) (pE 32 x) false) && decide (pM 16 (roundW 16 (pNeg 32 x) (pM 32 x) (pE 32 x) false) = pM 32 x) && decide (pE 16 (roundW 16 (pNeg 32 x) (pM 32 x) (pE 32 x) false) = pE 32 x)) from rfl)
    clear HT HO HN hf hn hlt nn P2 P3 hfit
    generalize sameW 16 32 x (roundW 16 (pNeg 32 x) (pM 32 x) (pE 32 x) false) = sm at *
    generalize roundW 16 (pNeg 32 x) (pM 32 x) (pE 32 x) false = y at *
    generalize pM 32 x = m at *
    generalize pE 32 x = p at *
    generalize pNeg 32 x = ng at *
    generalize pM 16 y = m2 at *
    generalize pE 16 y = p2 at *
    generalize pOk 16 y = fin at *
    generalize pNeg 16 y = ng2 at *
    go_enter Tryd.func138, Tryd.ntmps138
    have C1 := Lib.hid (P1.out)
    go_wp2_with fail
    refine (C1.out).mono ?_
    rintro e w1 ⟨rfl, b1⟩
    have C2 := Lib.hid ((from_calls m w1 hm.1 (by omega)).mono fun e w' q => q.can)
    go_wp2_with fail
    refine (C2.out).mono ?_
    rintro e w2 ⟨ad2, n2, d2, rfl, f2, b2⟩
    have a2 := below_trans b1 b2
    have l2 := f2.len_le 2 (Int.lt_of_lt_of_le hm.2 (by decide))
    have C3 := Lib.hid (HRd.out w2 (hS.below a2 (Nat.le_refl _)) ad2 n2 d2 (f2.num hm.1) l2)
    go_wp2_with fail
    refine (C3.out).mono ?_
    rintro e w3 ⟨rfl, b3⟩
    have a3 := below_trans a2 b3
    have C4 := Lib.hid (HQ.out w3 (hS.below a3 (Nat.le_refl _)) (hT.below a3 (Nat.le_refl _)))
    go_wp2_with fail
    refine (C4.out).mono ?_
    rintro e w4 ⟨rfl, b4⟩
    have a4 := below_trans a3 b4
    cases fin
    · have HB := Lib.hid (show sm = false by rw [HSm.out]; rfl)
      go_wp2
      go_ret2
      rw [HR.out, HB.out]
      exact ⟨rfl, a4⟩
    · by_cases hm2 : m2 = m
      · by_cases hp2 : p2 = p
        · have HB := Lib.hid (show sm = true by rw [HSm.out, decide_eq_true hm2, decide_eq_true hp2]; rfl)
          have hm3 : (m2 == m) = true := by simpa using hm2
          have hp3 : (p2 == p) = true := by simpa using hp2
          clear HSm hm2 hp2
          go_wp2
          go_ret2
          rw [HR.out, HB.out]
          exact ⟨rfl, a4⟩
        · have HB := Lib.hid (show sm = false by rw [HSm.out, decide_eq_false hp2]; simp)
          have hm3 : (m2 == m) = true := by simpa using hm2
          have hp3 : (p2 == p) = false := by simpa using hp2
          clear HSm hm2 hp2
          go_wp2
          go_ret2
          rw [HR.out, HB.out]
          exact ⟨rfl, a4⟩
      · have HB := Lib.hid (show sm = false by rw [HSm.out, decide_eq_false hm2]; simp)
        have hm3 : (m2 == m) = false := by simpa using hm2
        clear HSm hm2
        go_wp2
        go_ret2
        rw [HR.out, HB.out]
        exact ⟨rfl, a4⟩
end Go.Proofs.YtmnabilgpndjmaaDoor

/- Printed by ieee3.py. -/
namespace Go.Proofs.YtmnabilgpndjmaaDoor
open Go.RowKit

set_option maxRecDepth 20000 in
set_option maxHeartbeats 2000000 in
theorem to_16_64 (w : World) (hS : Shapes w) (hT : Tab w) (x : Int) (hx : 0 ≤ x ∧ x < 18446744073709551616) : Calls Tryd.prog 136 #[.int .u64 x] w (fun e w' => e = .returned (.tuple #[.int .u16 (toW 16 64 x).1, .bool (toW 16 64 x).2]) ∧ Below w.heap.size w w') := by
  have nn := nan_cls 64 x
  have hfit := inf_fits (W := 16) (by unfold Wide; omega)
  have HT := Lib.hid (show toW 16 64 x = if isNaN 64 x then (nanW 16, true) else if sizeW 64 x = infW 64 then ((if negW 64 x then sgnW 16 else 0) + infW 16, true)
    else (roundW 16 (pNeg 64 x) (pM 64 x) (pE 64 x) false, sameW 16 64 x (roundW 16 (pNeg 64 x) (pM 64 x) (pE 64 x) false)) from rfl)
  have HO := Lib.hid (show pOk 64 x = decide (sizeW 64 x < infW 64) from rfl)
  have HN := Lib.hid (show isNaN 64 x = decide (infW 64 < sizeW 64 x) from rfl)
  have P1 := Lib.hid (parts_64 w hS hT x hx)
  have P2 := Lib.hid (fun (w : World) (hS : Shapes w) => class_64 w hS x hx)
  have P3 := Lib.hid (fun (w : World) (hS : Shapes w) => split_64 w hS x hx)
  have hm := pM_bd (W := 64) (by unfold Wide; omega) x
  have he := pE_bd (W := 64) (by unfold Wide; omega) x
  generalize clsW 64 x = cl at *
  generalize toW 16 64 x = R at *
  cases hf : pOk 64 x
  · rw [hf] at P1 HO
    have hge := of_decide_eq_false HO.out.symm
    cases hn : isNaN 64 x
    · rw [hn] at nn HN HT
      have hle := of_decide_eq_false HN.out.symm
      have HR := Lib.hid (show R = ((if negW 64 x then sgnW 16 else 0) + 31744, true) by rw [HT.out, if_neg (by decide), if_pos (by omega), inf16])
      have HSg := Lib.hid (fun (w : World) (hS : Shapes w) => signed_16 w hS (negW 64 x) 31744 (by omega))
      generalize (if negW 64 x then sgnW 16 else 0) = sg at *
      clear HT HO HN hf hn hge hle hfit hm he
      generalize negW 64 x = ng at *
      generalize sizeW 64 x = z at *
      go_enter Tryd.func136, Tryd.ntmps136
      have C1 := Lib.hid (P1.out)
      go_wp2_with fail
      refine (C1.out).mono ?_
      rintro e w1 ⟨rfl, b1⟩
      have C2 := Lib.hid (P2.out w1 (hS.below b1 (Nat.le_refl _)))
      go_wp2_with fail
      refine (C2.out).mono ?_
      rintro e w2 ⟨rfl, b2⟩
      have a2 := below_trans b1 b2
      have C3 := Lib.hid (P3.out w2 (hS.below a2 (Nat.le_refl _)))
      go_wp2_with fail
      refine (C3.out).mono ?_
      rintro e w3 ⟨rfl, b3⟩
      have a3 := below_trans a2 b3
      have C4 := Lib.hid (of_16 w3 (hS.below a3 (Nat.le_refl _)))
      go_wp2_with fail
      refine (C4.out).mono ?_
      rintro e w4 ⟨rfl, b4⟩
      have a4 := below_trans a3 b4
      have C5 := Lib.hid (shinf_16 w4)
      go_wp2_with fail
      refine (C5.out).mono ?_
      rintro e w5 ⟨rfl, b5⟩
      have a5 := below_trans a4 b5
      have C6 := Lib.hid (HSg.out w5 (hS.below a5 (Nat.le_refl _)))
      go_wp2_with fail
      refine (C6.out).mono ?_
      rintro e w6 ⟨rfl, b6⟩
      have a6 := below_trans a5 b6
      go_wp2
      go_ret2
      rw [HR.out]
      exact ⟨rfl, a6⟩
    · rw [hn] at nn HT
      have HR := Lib.hid (show R = (32256, true) by rw [HT.out, if_pos rfl, nan16])
      clear HT HO HN hf hn hge hfit hm he
      go_enter Tryd.func136, Tryd.ntmps136
      have C1 := Lib.hid (P1.out)
      go_wp2_with fail
      refine (C1.out).mono ?_
      rintro e w1 ⟨rfl, b1⟩
      have C2 := Lib.hid (P2.out w1 (hS.below b1 (Nat.le_refl _)))
      go_wp2_with fail
      refine (C2.out).mono ?_
      rintro e w2 ⟨rfl, b2⟩
      have a2 := below_trans b1 b2
      have C3 := Lib.hid (of_16 w2 (hS.below a2 (Nat.le_refl _)))
      go_wp2_with fail
      refine (C3.out).mono ?_
      rintro e w3 ⟨rfl, b3⟩
      have a3 := below_trans a2 b3
      have C4 := Lib.hid (shnan_16 w3)
      go_wp2_with fail
      refine (C4.out).mono ?_
      rintro e w4 ⟨rfl, b4⟩
      have a4 := below_trans a3 b4
      go_wp2
      go_ret2
      rw [HR.out]
      exact ⟨rfl, a4⟩
  · rw [hf] at P1 HO
    have hlt := of_decide_eq_true HO.out.symm
    have hn : isNaN 64 x = false := by rw [HN.out]; exact decide_eq_false (by omega)
    have HR := Lib.hid (show R = (roundW 16 (pNeg 64 x) (pM 64 x) (pE 64 x) false, sameW 16 64 x (roundW 16 (pNeg 64 x) (pM 64 x) (pE 64 x) false)) by rw [HT.out, hn, if_neg (by decide), if_neg (by omega)])
    have hy := roundW_bd (W := 16) (by unfold Wide; omega) (pNeg 64 x) (pM 64 x) (pE 64 x) false
    rw [show (2 : Int) ^ 16 = 65536 from by decide] at hy
    have HQ := Lib.hid (fun (w : World) (hS : Shapes w) (hT : Tab w) => parts_16 w hS hT (roundW 16 (pNeg 64 x) (pM 64 x) (pE 64 x) false) hy)
    have HRd := Lib.hid (fun (w : World) (hS : Shapes w) (ad : Option Addr) (n c : Nat) (h : Num w ad n c (pM 64 x)) (hn : n ≤ 2) => round_16 w hS (pNeg 64 x) ad n c (pM 64 x) (pE 64 x) false h (by omega) (by omega))
    have HSm := Lib.hid (show sameW 16 64 x (roundW 16 (pNeg 64 x) (pM 64 x) (pE 64 x) false) = (pOk 16 (roundW 16 (pNeg 64 x) (pM 64 x) (pE 64 x) false) && decide (pM 16 (roundW 16 (pNeg 64 x) (pM 64 x) (pE 64 x) false) = pM 64 x) && decide (pE 16 (roundW 16 (pNeg 64 x) (pM 64 x) (pE 64 x) false) = pE 64 x)) from rfl)
    clear HT HO HN hf hn hlt nn P2 P3 hfit
    generalize sameW 16 64 x (roundW 16 (pNeg 64 x) (pM 64 x) (pE 64 x) false) = sm at *
    generalize roundW 16 (pNeg 64 x) (pM 64 x) (pE 64 x) false = y at *
    generalize pM 64 x = m at *
    generalize pE 64 x = p at *
    generalize pNeg 64 x = ng at *
    generalize pM 16 y = m2 at *
    generalize pE 16 y = p2 at *
    generalize pOk 16 y = fin at *
    generalize pNeg 16 y = ng2 at *
    go_enter Tryd.func136, Tryd.ntmps136
    have C1 := Lib.hid (P1.out)
    go_wp2_with fail
    refine (C1.out).mono ?_
    rintro e w1 ⟨rfl, b1⟩
    have C2 := Lib.hid ((from_calls m w1 hm.1 (by omega)).mono fun e w' q => q.can)
    go_wp2_with fail
    refine (C2.out).mono ?_
    rintro e w2 ⟨ad2, n2, d2, rfl, f2, b2⟩
    have a2 := below_trans b1 b2
    have l2 := f2.len_le 2 (Int.lt_of_lt_of_le hm.2 (by decide))
    have C3 := Lib.hid (HRd.out w2 (hS.below a2 (Nat.le_refl _)) ad2 n2 d2 (f2.num hm.1) l2)
    go_wp2_with fail
    refine (C3.out).mono ?_
    rintro e w3 ⟨rfl, b3⟩
    have a3 := below_trans a2 b3
    have C4 := Lib.hid (HQ.out w3 (hS.below a3 (Nat.le_refl _)) (hT.below a3 (Nat.le_refl _)))
    go_wp2_with fail
    refine (C4.out).mono ?_
    rintro e w4 ⟨rfl, b4⟩
    have a4 := below_trans a3 b4
    cases fin
    · have HB := Lib.hid (show sm = false by rw [HSm.out]; rfl)
      go_wp2
      go_ret2
      rw [HR.out, HB.out]
      exact ⟨rfl, a4⟩
    · by_cases hm2 : m2 = m
      · by_cases hp2 : p2 = p
        · have HB := Lib.hid (show sm = true by rw [HSm.out, decide_eq_true hm2, decide_eq_true hp2]; rfl)
          have hm3 : (m2 == m) = true := by simpa using hm2
          have hp3 : (p2 == p) = true := by simpa using hp2
          clear HSm hm2 hp2
          go_wp2
          go_ret2
          rw [HR.out, HB.out]
          exact ⟨rfl, a4⟩
        · have HB := Lib.hid (show sm = false by rw [HSm.out, decide_eq_false hp2]; simp)
          have hm3 : (m2 == m) = true := by simpa using hm2
          have hp3 : (p2 == p) = false := by simpa using hp2
          clear HSm hm2 hp2
          go_wp2
          go_ret2
          rw [HR.out, HB.out]
          exact ⟨rfl, a4⟩
      · have HB := Lib.hid (show sm = false by rw [HSm.out, decide_eq_false hm2]; simp)
        have hm3 : (m2 == m) = false := by simpa using hm2
        clear HSm hm2
        go_wp2
        go_ret2
        rw [HR.out, HB.out]
        exact ⟨rfl, a4⟩
end Go.Proofs.YtmnabilgpndjmaaDoor

/- Printed by ieee3.py. -/
namespace Go.Proofs.YtmnabilgpndjmaaDoor
open Go.RowKit

set_option maxRecDepth 20000 in
set_option maxHeartbeats 2000000 in
theorem to_16_Own (w : World) (hS : Shapes w) (hT : Tab w) (x : Int) (hx : 0 ≤ x ∧ x < 4294967296) : Calls Tryd.prog 137 #[.int .u32 x] w (fun e w' => e = .returned (.tuple #[.int .u16 (toW 16 32 x).1, .bool (toW 16 32 x).2]) ∧ Below w.heap.size w w') := by
  have nn := nan_cls 32 x
  have hfit := inf_fits (W := 16) (by unfold Wide; omega)
  have HT := Lib.hid (show toW 16 32 x = if isNaN 32 x then (nanW 16, true) else if sizeW 32 x = infW 32 then ((if negW 32 x then sgnW 16 else 0) + infW 16, true)
    else (roundW 16 (pNeg 32 x) (pM 32 x) (pE 32 x) false, sameW 16 32 x (roundW 16 (pNeg 32 x) (pM 32 x) (pE 32 x) false)) from rfl)
  have HO := Lib.hid (show pOk 32 x = decide (sizeW 32 x < infW 32) from rfl)
  have HN := Lib.hid (show isNaN 32 x = decide (infW 32 < sizeW 32 x) from rfl)
  have P1 := Lib.hid (parts_Own w hS hT x hx)
  have P2 := Lib.hid (fun (w : World) (hS : Shapes w) => class_Own w hS x hx)
  have P3 := Lib.hid (fun (w : World) (hS : Shapes w) => split_Own w hS x hx)
  have hm := pM_bd (W := 32) (by unfold Wide; omega) x
  have he := pE_bd (W := 32) (by unfold Wide; omega) x
  generalize clsW 32 x = cl at *
  generalize toW 16 32 x = R at *
  cases hf : pOk 32 x
  · rw [hf] at P1 HO
    have hge := of_decide_eq_false HO.out.symm
    cases hn : isNaN 32 x
    · rw [hn] at nn HN HT
      have hle := of_decide_eq_false HN.out.symm
      have HR := Lib.hid (show R = ((if negW 32 x then sgnW 16 else 0) + 31744, true) by rw [HT.out, if_neg (by decide), if_pos (by omega), inf16])
      have HSg := Lib.hid (fun (w : World) (hS : Shapes w) => signed_16 w hS (negW 32 x) 31744 (by omega))
      generalize (if negW 32 x then sgnW 16 else 0) = sg at *
      clear HT HO HN hf hn hge hle hfit hm he
      generalize negW 32 x = ng at *
      generalize sizeW 32 x = z at *
      go_enter Tryd.func137, Tryd.ntmps137
      have C1 := Lib.hid (P1.out)
      go_wp2_with fail
      refine (C1.out).mono ?_
      rintro e w1 ⟨rfl, b1⟩
      have C2 := Lib.hid (P2.out w1 (hS.below b1 (Nat.le_refl _)))
      go_wp2_with fail
      refine (C2.out).mono ?_
      rintro e w2 ⟨rfl, b2⟩
      have a2 := below_trans b1 b2
      have C3 := Lib.hid (P3.out w2 (hS.below a2 (Nat.le_refl _)))
      go_wp2_with fail
      refine (C3.out).mono ?_
      rintro e w3 ⟨rfl, b3⟩
      have a3 := below_trans a2 b3
      have C4 := Lib.hid (of_16 w3 (hS.below a3 (Nat.le_refl _)))
      go_wp2_with fail
      refine (C4.out).mono ?_
      rintro e w4 ⟨rfl, b4⟩
      have a4 := below_trans a3 b4
      have C5 := Lib.hid (shinf_16 w4)
      go_wp2_with fail
      refine (C5.out).mono ?_
      rintro e w5 ⟨rfl, b5⟩
      have a5 := below_trans a4 b5
      have C6 := Lib.hid (HSg.out w5 (hS.below a5 (Nat.le_refl _)))
      go_wp2_with fail
      refine (C6.out).mono ?_
      rintro e w6 ⟨rfl, b6⟩
      have a6 := below_trans a5 b6
      go_wp2
      go_ret2
      rw [HR.out]
      exact ⟨rfl, a6⟩
    · rw [hn] at nn HT
      have HR := Lib.hid (show R = (32256, true) by rw [HT.out, if_pos rfl, nan16])
      clear HT HO HN hf hn hge hfit hm he
      go_enter Tryd.func137, Tryd.ntmps137
      have C1 := Lib.hid (P1.out)
      go_wp2_with fail
      refine (C1.out).mono ?_
      rintro e w1 ⟨rfl, b1⟩
      have C2 := Lib.hid (P2.out w1 (hS.below b1 (Nat.le_refl _)))
      go_wp2_with fail
      refine (C2.out).mono ?_
      rintro e w2 ⟨rfl, b2⟩
      have a2 := below_trans b1 b2
      have C3 := Lib.hid (of_16 w2 (hS.below a2 (Nat.le_refl _)))
      go_wp2_with fail
      refine (C3.out).mono ?_
      rintro e w3 ⟨rfl, b3⟩
      have a3 := below_trans a2 b3
      have C4 := Lib.hid (shnan_16 w3)
      go_wp2_with fail
      refine (C4.out).mono ?_
      rintro e w4 ⟨rfl, b4⟩
      have a4 := below_trans a3 b4
      go_wp2
      go_ret2
      rw [HR.out]
      exact ⟨rfl, a4⟩
  · rw [hf] at P1 HO
    have hlt := of_decide_eq_true HO.out.symm
    have hn : isNaN 32 x = false := by rw [HN.out]; exact decide_eq_false (by omega)
    have HR := Lib.hid (show R = (roundW 16 (pNeg 32 x) (pM 32 x) (pE 32 x) false, sameW 16 32 x (roundW 16 (pNeg 32 x) (pM 32 x) (pE 32 x) false)) by rw [HT.out, hn, if_neg (by decide), if_neg (by omega)])
    have hy := roundW_bd (W := 16) (by unfold Wide; omega) (pNeg 32 x) (pM 32 x) (pE 32 x) false
    rw [show (2 : Int) ^ 16 = 65536 from by decide] at hy
    have HQ := Lib.hid (fun (w : World) (hS : Shapes w) (hT : Tab w) => parts_16 w hS hT (roundW 16 (pNeg 32 x) (pM 32 x) (pE 32 x) false) hy)
    have HRd := Lib.hid (fun (w : World) (hS : Shapes w) (ad : Option Addr) (n c : Nat) (h : Num w ad n c (pM 32 x)) (hn : n ≤ 2) => round_16 w hS (pNeg 32 x) ad n c (pM 32 x) (pE 32 x) false h (by omega) (by omega))
    have HSm := Lib.hid (show sameW 16 32 x (roundW 16 (pNeg 32 x) (pM 32 x) (pE 32 x) false) = (pOk 16 (roundW 16 (pNeg 32 x) (pM 32 x) (pE 32 x) false) && decide (pM 16 (roundW 16 (pNeg 32 x) (pM 32 x) (pE 32 x) false) = pM 32 x) && decide (pE 16 (roundW 16 (pNeg 32 x) (pM 32 x) (pE 32 x) false) = pE 32 x)) from rfl)
    clear HT HO HN hf hn hlt nn P2 P3 hfit
    generalize sameW 16 32 x (roundW 16 (pNeg 32 x) (pM 32 x) (pE 32 x) false) = sm at *
    generalize roundW 16 (pNeg 32 x) (pM 32 x) (pE 32 x) false = y at *
    generalize pM 32 x = m at *
    generalize pE 32 x = p at *
    generalize pNeg 32 x = ng at *
    generalize pM 16 y = m2 at *
    generalize pE 16 y = p2 at *
    generalize pOk 16 y = fin at *
    generalize pNeg 16 y = ng2 at *
    go_enter Tryd.func137, Tryd.ntmps137
    have C1 := Lib.hid (P1.out)
    go_wp2_with fail
    refine (C1.out).mono ?_
    rintro e w1 ⟨rfl, b1⟩
    have C2 := Lib.hid ((from_calls m w1 hm.1 (by omega)).mono fun e w' q => q.can)
    go_wp2_with fail
    refine (C2.out).mono ?_
    rintro e w2 ⟨ad2, n2, d2, rfl, f2, b2⟩
    have a2 := below_trans b1 b2
    have l2 := f2.len_le 2 (Int.lt_of_lt_of_le hm.2 (by decide))
    have C3 := Lib.hid (HRd.out w2 (hS.below a2 (Nat.le_refl _)) ad2 n2 d2 (f2.num hm.1) l2)
    go_wp2_with fail
    refine (C3.out).mono ?_
    rintro e w3 ⟨rfl, b3⟩
    have a3 := below_trans a2 b3
    have C4 := Lib.hid (HQ.out w3 (hS.below a3 (Nat.le_refl _)) (hT.below a3 (Nat.le_refl _)))
    go_wp2_with fail
    refine (C4.out).mono ?_
    rintro e w4 ⟨rfl, b4⟩
    have a4 := below_trans a3 b4
    cases fin
    · have HB := Lib.hid (show sm = false by rw [HSm.out]; rfl)
      go_wp2
      go_ret2
      rw [HR.out, HB.out]
      exact ⟨rfl, a4⟩
    · by_cases hm2 : m2 = m
      · by_cases hp2 : p2 = p
        · have HB := Lib.hid (show sm = true by rw [HSm.out, decide_eq_true hm2, decide_eq_true hp2]; rfl)
          have hm3 : (m2 == m) = true := by simpa using hm2
          have hp3 : (p2 == p) = true := by simpa using hp2
          clear HSm hm2 hp2
          go_wp2
          go_ret2
          rw [HR.out, HB.out]
          exact ⟨rfl, a4⟩
        · have HB := Lib.hid (show sm = false by rw [HSm.out, decide_eq_false hp2]; simp)
          have hm3 : (m2 == m) = true := by simpa using hm2
          have hp3 : (p2 == p) = false := by simpa using hp2
          clear HSm hm2 hp2
          go_wp2
          go_ret2
          rw [HR.out, HB.out]
          exact ⟨rfl, a4⟩
      · have HB := Lib.hid (show sm = false by rw [HSm.out, decide_eq_false hm2]; simp)
        have hm3 : (m2 == m) = false := by simpa using hm2
        clear HSm hm2
        go_wp2
        go_ret2
        rw [HR.out, HB.out]
        exact ⟨rfl, a4⟩
end Go.Proofs.YtmnabilgpndjmaaDoor
