/- Contracts of functions, and plain facts, part 11. -/
import Derived.Laws.Bits64b
import Derived.Test.YtoimhjcpeifegaaGreatDoorPk3
import Derived.Test.YtoimhjcpeifegaaGreatDoorPk7
import Derived.Test.YtoimhjcpeifegaaGreatDoorPk8
import Derived.Test.YtoimhjcpeifegaaGreatDoorPk9
import Derived.Test.YtoimhjcpeifegaaGreatDoorPk10
set_option linter.unusedVariables false
set_option linter.unusedSimpArgs false
/- Printed by ieee3.py. -/
namespace Go.Proofs.YtoimhjcpeifegaaGreatDoor
open Go.RowKit

theorem iint_64 (w : World) (hS : Shapes w) (hT : Tab w) (x : Int) (hx : 0 ≤ x ∧ x < 18446744073709551616) : Calls Tryz.prog 49 #[.int .u64 x] w (RetIntB (intN 64 x) (intOk 64 x) w) := by
  have b0 : Below w.heap.size w (w.alloc (.cells #[.bool false, .slice none 0 0] 34)) := (Below.refl _ _).alloc (Nat.le_refl _) _
  have k0 : Cel (w.alloc (.cells #[.bool false, .slice none 0 0] 34)) w.heap.size 34 [.bool false, .slice none 0 0] := Cel.made _ _ _ _ rfl
  have HP := Lib.hid (parts_64 _ (hS.below b0 (Nat.le_refl _)) (hT.below b0 (Nat.le_refl _)) x hx)
  have hM := pM_bd (W := 64) (by unfold Wide; omega) x
  have hE := pE_bd (W := 64) (by unfold Wide; omega) x
  have H1 := Lib.hid (show intOk 64 x = (pOk 64 x && decide (0 ≤ pE 64 x)) from rfl)
  have H2 := Lib.hid (show intV 64 x = if intOk 64 x then pM 64 x * 2 ^ (pE 64 x).toNat else 0 from rfl)
  have H3 := Lib.hid (show intN 64 x = if pNeg 64 x then -intV 64 x else intV 64 x from rfl)
  generalize intOk 64 x = ok at *
  generalize intN 64 x = N at *
  generalize intV 64 x = V at *
  generalize pNeg 64 x = ng at *
  generalize pM 64 x = m at *
  generalize pE 64 x = p at *
  generalize pOk 64 x = fin at *
  cases fin
  · have HK := Lib.hid (show ok = false from H1.out)
    have HV := Lib.hid (show N = 0 by rw [H3.out, H2.out, HK.out]; cases ng <;> rfl)
    clear H1 H2 H3
    go_enter Tryz.func49, Tryz.ntmps49
    go_wp2_with fail
    refine (HP.out).mono ?_
    rintro e w1 ⟨rfl, b1⟩
    have k1 := k0.next b1
    have b2 := below_trans b0 b1
    have c0 := k1.cell 0 _ rfl
    have c1 := k1.cell 1 _ rfl
    have g0 := k1.free 0
    have g1 := k1.free 1
    go_wp2
    refine bodyPost_ret (results_row_tmp rfl _ _ w.heap.size 34 #[.bool false, .slice none 0 0] (0, 0) _ rfl ((k1.set 0 _).set 1 _).row Tryz.underlying34 rfl size_int) rfl ?_
    rw [HV.out, HK.out]
    refine ⟨none, 0, 0, rfl, ⟨Nat.le_refl _, by rw [show ((0 : Int).natAbs : Int) = 0 from rfl, dg_zero]; exact Rds.nil _ _ _⟩, ?_⟩
    exact below_set (below_set b2 _ _ _ (Nat.le_refl _)) _ _ _ (Nat.le_refl _)
  · by_cases hp0 : p < 0
    · have HK := Lib.hid (show ok = false by rw [H1.out, decide_eq_false (by omega)]; rfl)
      have HV := Lib.hid (show N = 0 by rw [H3.out, H2.out, HK.out]; cases ng <;> rfl)
      clear H1 H2 H3
      go_enter Tryz.func49, Tryz.ntmps49
      go_wp2_with fail
      refine (HP.out).mono ?_
      rintro e w1 ⟨rfl, b1⟩
      have k1 := k0.next b1
      have b2 := below_trans b0 b1
      have c0 := k1.cell 0 _ rfl
      have c1 := k1.cell 1 _ rfl
      have g0 := k1.free 0
      have g1 := k1.free 1
      go_wp2
      refine bodyPost_ret (results_row_tmp rfl _ _ w.heap.size 34 #[.bool false, .slice none 0 0] (0, 0) _ rfl ((k1.set 0 _).set 1 _).row Tryz.underlying34 rfl size_int) rfl ?_
      rw [HV.out, HK.out]
      refine ⟨none, 0, 0, rfl, ⟨Nat.le_refl _, by rw [show ((0 : Int).natAbs : Int) = 0 from rfl, dg_zero]; exact Rds.nil _ _ _⟩, ?_⟩
      exact below_set (below_set b2 _ _ _ (Nat.le_refl _)) _ _ _ (Nat.le_refl _)
    · have HK := Lib.hid (show ok = true by rw [H1.out, decide_eq_true (by omega)]; rfl)
      have HV := Lib.hid (show V = m * 2 ^ p.toNat by rw [H2.out, HK.out]; rfl)
      have HN := Lib.hid (show N = sI ng V from H3.out)
      obtain ⟨s1, s2, s3, s4⟩ := shl_fits m 2 p hM.1 (Int.lt_of_lt_of_le hM.2 (by decide)) (by omega) (by omega)
      rw [← HV.out] at s2 s3 s4
      have S := Lib.hid s4
      have S2 := Lib.hid s2
      have S1 := Lib.hid s1
      clear H1 H2 H3 s4 s2 s1
      go_enter Tryz.func49, Tryz.ntmps49
      go_wp2_with fail
      refine (HP.out).mono ?_
      rintro e w1 ⟨rfl, b1⟩
      have k1 := k0.next b1
      have b2 := below_trans b0 b1
      have F1 := Lib.hid ((from_calls m w1 hM.1 (by omega)).mono fun e w' q => q.can)
      go_wp2_with fail
      refine (F1.out).mono ?_
      rintro e w2 ⟨ad2, n2, d2, rfl, f2, b3⟩
      have l2 := f2.len_le 2 (Int.lt_of_lt_of_le hM.2 (by decide))
      have H := num_shl ad2 n2 d2 m p w2 (f2.num hM.1) (by omega) (by omega)
      rw [S1.out, S2.out] at H
      have F2 := Lib.hid H
      clear H
      go_wp2_with fail
      refine (F2.out).mono ?_
      rintro e w3 ⟨ad3, n3, d3, rfl, f3, b4⟩
      have l3 := f3.len_le _ S.out
      have F3 := Lib.hid (wnorm_calls ng ad3 n3 d3 V w3 (f3.num s3) (by omega))
      rw [← HN.out] at F3
      go_wp2_with fail
      refine (F3.out).mono ?_
      rintro e w4 ⟨ad4, n4, d4, rfl, f4, b5⟩
      have k4 := ((k1.next b3).next b4).next b5
      have b6 := below_trans b2 (below_trans b3 (below_trans b4 b5))
      have c0 := k4.cell 0 _ rfl
      have c1 := k4.cell 1 _ rfl
      have g0 := k4.free 0
      have g1 := k4.free 1
      go_wp2
      refine bodyPost_ret (results_row_tmp rfl _ _ w.heap.size 34 #[.bool (decide (N < 0)), .slice ad4 n4 d4] (0, 0) _ rfl ((k4.set 0 _).set 1 _).row Tryz.underlying34 rfl size_int) rfl ?_
      rw [HK.out]
      exact ⟨_, _, _, rfl, f4.poke2 k4 _ _, below_set (below_set b6 _ _ _ (Nat.le_refl _)) _ _ _ (Nat.le_refl _)⟩
end Go.Proofs.YtoimhjcpeifegaaGreatDoor


/- Printed by ieee3.py. -/
namespace Go.Proofs.YtoimhjcpeifegaaGreatDoor
open Go.RowKit

theorem iint_16 (w : World) (hS : Shapes w) (hT : Tab w) (x : Int) (hx : 0 ≤ x ∧ x < 65536) : Calls Tryz.prog 71 #[.int .u16 x] w (RetIntB (intN 16 x) (intOk 16 x) w) := by
  have b0 : Below w.heap.size w (w.alloc (.cells #[.bool false, .slice none 0 0] 34)) := (Below.refl _ _).alloc (Nat.le_refl _) _
  have k0 : Cel (w.alloc (.cells #[.bool false, .slice none 0 0] 34)) w.heap.size 34 [.bool false, .slice none 0 0] := Cel.made _ _ _ _ rfl
  have HP := Lib.hid (parts_16 _ (hS.below b0 (Nat.le_refl _)) (hT.below b0 (Nat.le_refl _)) x hx)
  have hM := pM_bd (W := 16) (by unfold Wide; omega) x
  have hE := pE_bd (W := 16) (by unfold Wide; omega) x
  have H1 := Lib.hid (show intOk 16 x = (pOk 16 x && decide (0 ≤ pE 16 x)) from rfl)
  have H2 := Lib.hid (show intV 16 x = if intOk 16 x then pM 16 x * 2 ^ (pE 16 x).toNat else 0 from rfl)
  have H3 := Lib.hid (show intN 16 x = if pNeg 16 x then -intV 16 x else intV 16 x from rfl)
  generalize intOk 16 x = ok at *
  generalize intN 16 x = N at *
  generalize intV 16 x = V at *
  generalize pNeg 16 x = ng at *
  generalize pM 16 x = m at *
  generalize pE 16 x = p at *
  generalize pOk 16 x = fin at *
  cases fin
  · have HK := Lib.hid (show ok = false from H1.out)
    have HV := Lib.hid (show N = 0 by rw [H3.out, H2.out, HK.out]; cases ng <;> rfl)
    clear H1 H2 H3
    go_enter Tryz.func71, Tryz.ntmps71
    go_wp2_with fail
    refine (HP.out).mono ?_
    rintro e w1 ⟨rfl, b1⟩
    have k1 := k0.next b1
    have b2 := below_trans b0 b1
    have c0 := k1.cell 0 _ rfl
    have c1 := k1.cell 1 _ rfl
    have g0 := k1.free 0
    have g1 := k1.free 1
    go_wp2
    refine bodyPost_ret (results_row_tmp rfl _ _ w.heap.size 34 #[.bool false, .slice none 0 0] (0, 0) _ rfl ((k1.set 0 _).set 1 _).row Tryz.underlying34 rfl size_int) rfl ?_
    rw [HV.out, HK.out]
    refine ⟨none, 0, 0, rfl, ⟨Nat.le_refl _, by rw [show ((0 : Int).natAbs : Int) = 0 from rfl, dg_zero]; exact Rds.nil _ _ _⟩, ?_⟩
    exact below_set (below_set b2 _ _ _ (Nat.le_refl _)) _ _ _ (Nat.le_refl _)
  · by_cases hp0 : p < 0
    · have HK := Lib.hid (show ok = false by rw [H1.out, decide_eq_false (by omega)]; rfl)
      have HV := Lib.hid (show N = 0 by rw [H3.out, H2.out, HK.out]; cases ng <;> rfl)
      clear H1 H2 H3
      go_enter Tryz.func71, Tryz.ntmps71
      go_wp2_with fail
      refine (HP.out).mono ?_
      rintro e w1 ⟨rfl, b1⟩
      have k1 := k0.next b1
      have b2 := below_trans b0 b1
      have c0 := k1.cell 0 _ rfl
      have c1 := k1.cell 1 _ rfl
      have g0 := k1.free 0
      have g1 := k1.free 1
      go_wp2
      refine bodyPost_ret (results_row_tmp rfl _ _ w.heap.size 34 #[.bool false, .slice none 0 0] (0, 0) _ rfl ((k1.set 0 _).set 1 _).row Tryz.underlying34 rfl size_int) rfl ?_
      rw [HV.out, HK.out]
      refine ⟨none, 0, 0, rfl, ⟨Nat.le_refl _, by rw [show ((0 : Int).natAbs : Int) = 0 from rfl, dg_zero]; exact Rds.nil _ _ _⟩, ?_⟩
      exact below_set (below_set b2 _ _ _ (Nat.le_refl _)) _ _ _ (Nat.le_refl _)
    · have HK := Lib.hid (show ok = true by rw [H1.out, decide_eq_true (by omega)]; rfl)
      have HV := Lib.hid (show V = m * 2 ^ p.toNat by rw [H2.out, HK.out]; rfl)
      have HN := Lib.hid (show N = sI ng V from H3.out)
      obtain ⟨s1, s2, s3, s4⟩ := shl_fits m 2 p hM.1 (Int.lt_of_lt_of_le hM.2 (by decide)) (by omega) (by omega)
      rw [← HV.out] at s2 s3 s4
      have S := Lib.hid s4
      have S2 := Lib.hid s2
      have S1 := Lib.hid s1
      clear H1 H2 H3 s4 s2 s1
      go_enter Tryz.func71, Tryz.ntmps71
      go_wp2_with fail
      refine (HP.out).mono ?_
      rintro e w1 ⟨rfl, b1⟩
      have k1 := k0.next b1
      have b2 := below_trans b0 b1
      have F1 := Lib.hid ((from_calls m w1 hM.1 (by omega)).mono fun e w' q => q.can)
      go_wp2_with fail
      refine (F1.out).mono ?_
      rintro e w2 ⟨ad2, n2, d2, rfl, f2, b3⟩
      have l2 := f2.len_le 2 (Int.lt_of_lt_of_le hM.2 (by decide))
      have H := num_shl ad2 n2 d2 m p w2 (f2.num hM.1) (by omega) (by omega)
      rw [S1.out, S2.out] at H
      have F2 := Lib.hid H
      clear H
      go_wp2_with fail
      refine (F2.out).mono ?_
      rintro e w3 ⟨ad3, n3, d3, rfl, f3, b4⟩
      have l3 := f3.len_le _ S.out
      have F3 := Lib.hid (wnorm_calls ng ad3 n3 d3 V w3 (f3.num s3) (by omega))
      rw [← HN.out] at F3
      go_wp2_with fail
      refine (F3.out).mono ?_
      rintro e w4 ⟨ad4, n4, d4, rfl, f4, b5⟩
      have k4 := ((k1.next b3).next b4).next b5
      have b6 := below_trans b2 (below_trans b3 (below_trans b4 b5))
      have c0 := k4.cell 0 _ rfl
      have c1 := k4.cell 1 _ rfl
      have g0 := k4.free 0
      have g1 := k4.free 1
      go_wp2
      refine bodyPost_ret (results_row_tmp rfl _ _ w.heap.size 34 #[.bool (decide (N < 0)), .slice ad4 n4 d4] (0, 0) _ rfl ((k4.set 0 _).set 1 _).row Tryz.underlying34 rfl size_int) rfl ?_
      rw [HK.out]
      exact ⟨_, _, _, rfl, f4.poke2 k4 _ _, below_set (below_set b6 _ _ _ (Nat.le_refl _)) _ _ _ (Nat.le_refl _)⟩
end Go.Proofs.YtoimhjcpeifegaaGreatDoor


/- Printed by ieee3.py. -/
namespace Go.Proofs.YtoimhjcpeifegaaGreatDoor
open Go.RowKit

theorem iint_32 (w : World) (hS : Shapes w) (hT : Tab w) (x : Int) (hx : 0 ≤ x ∧ x < 4294967296) : Calls Tryz.prog 72 #[.int .u32 x] w (RetIntB (intN 32 x) (intOk 32 x) w) := by
  have b0 : Below w.heap.size w (w.alloc (.cells #[.bool false, .slice none 0 0] 34)) := (Below.refl _ _).alloc (Nat.le_refl _) _
  have k0 : Cel (w.alloc (.cells #[.bool false, .slice none 0 0] 34)) w.heap.size 34 [.bool false, .slice none 0 0] := Cel.made _ _ _ _ rfl
  have HP := Lib.hid (parts_32 _ (hS.below b0 (Nat.le_refl _)) (hT.below b0 (Nat.le_refl _)) x hx)
  have hM := pM_bd (W := 32) (by unfold Wide; omega) x
  have hE := pE_bd (W := 32) (by unfold Wide; omega) x
  have H1 := Lib.hid (show intOk 32 x = (pOk 32 x && decide (0 ≤ pE 32 x)) from rfl)
  have H2 := Lib.hid (show intV 32 x = if intOk 32 x then pM 32 x * 2 ^ (pE 32 x).toNat else 0 from rfl)
  have H3 := Lib.hid (show intN 32 x = if pNeg 32 x then -intV 32 x else intV 32 x from rfl)
  generalize intOk 32 x = ok at *
  generalize intN 32 x = N at *
  generalize intV 32 x = V at *
  generalize pNeg 32 x = ng at *
  generalize pM 32 x = m at *
  generalize pE 32 x = p at *
  generalize pOk 32 x = fin at *
  cases fin
  · have HK := Lib.hid (show ok = false from H1.out)
    have HV := Lib.hid (show N = 0 by rw [H3.out, H2.out, HK.out]; cases ng <;> rfl)
    clear H1 H2 H3
    go_enter Tryz.func72, Tryz.ntmps72
    go_wp2_with fail
    refine (HP.out).mono ?_
    rintro e w1 ⟨rfl, b1⟩
    have k1 := k0.next b1
    have b2 := below_trans b0 b1
    have c0 := k1.cell 0 _ rfl
    have c1 := k1.cell 1 _ rfl
    have g0 := k1.free 0
    have g1 := k1.free 1
    go_wp2
    refine bodyPost_ret (results_row_tmp rfl _ _ w.heap.size 34 #[.bool false, .slice none 0 0] (0, 0) _ rfl ((k1.set 0 _).set 1 _).row Tryz.underlying34 rfl size_int) rfl ?_
    rw [HV.out, HK.out]
    refine ⟨none, 0, 0, rfl, ⟨Nat.le_refl _, by rw [show ((0 : Int).natAbs : Int) = 0 from rfl, dg_zero]; exact Rds.nil _ _ _⟩, ?_⟩
    exact below_set (below_set b2 _ _ _ (Nat.le_refl _)) _ _ _ (Nat.le_refl _)
  · by_cases hp0 : p < 0
    · have HK := Lib.hid (show ok = false by rw [H1.out, decide_eq_false (by omega)]; rfl)
      have HV := Lib.hid (show N = 0 by rw [H3.out, H2.out, HK.out]; cases ng <;> rfl)
      clear H1 H2 H3
      go_enter Tryz.func72, Tryz.ntmps72
      go_wp2_with fail
      refine (HP.out).mono ?_
      rintro e w1 ⟨rfl, b1⟩
      have k1 := k0.next b1
      have b2 := below_trans b0 b1
      have c0 := k1.cell 0 _ rfl
      have c1 := k1.cell 1 _ rfl
      have g0 := k1.free 0
      have g1 := k1.free 1
      go_wp2
      refine bodyPost_ret (results_row_tmp rfl _ _ w.heap.size 34 #[.bool false, .slice none 0 0] (0, 0) _ rfl ((k1.set 0 _).set 1 _).row Tryz.underlying34 rfl size_int) rfl ?_
      rw [HV.out, HK.out]
      refine ⟨none, 0, 0, rfl, ⟨Nat.le_refl _, by rw [show ((0 : Int).natAbs : Int) = 0 from rfl, dg_zero]; exact Rds.nil _ _ _⟩, ?_⟩
      exact below_set (below_set b2 _ _ _ (Nat.le_refl _)) _ _ _ (Nat.le_refl _)
    · have HK := Lib.hid (show ok = true by rw [H1.out, decide_eq_true (by omega)]; rfl)
      have HV := Lib.hid (show V = m * 2 ^ p.toNat by rw [H2.out, HK.out]; rfl)
      have HN := Lib.hid (show N = sI ng V from H3.out)
      obtain ⟨s1, s2, s3, s4⟩ := shl_fits m 2 p hM.1 (Int.lt_of_lt_of_le hM.2 (by decide)) (by omega) (by omega)
      rw [← HV.out] at s2 s3 s4
      have S := Lib.hid s4
      have S2 := Lib.hid s2
      have S1 := Lib.hid s1
      clear H1 H2 H3 s4 s2 s1
      go_enter Tryz.func72, Tryz.ntmps72
      go_wp2_with fail
      refine (HP.out).mono ?_
      rintro e w1 ⟨rfl, b1⟩
      have k1 := k0.next b1
      have b2 := below_trans b0 b1
      have F1 := Lib.hid ((from_calls m w1 hM.1 (by omega)).mono fun e w' q => q.can)
      go_wp2_with fail
      refine (F1.out).mono ?_
      rintro e w2 ⟨ad2, n2, d2, rfl, f2, b3⟩
      have l2 := f2.len_le 2 (Int.lt_of_lt_of_le hM.2 (by decide))
      have H := num_shl ad2 n2 d2 m p w2 (f2.num hM.1) (by omega) (by omega)
      rw [S1.out, S2.out] at H
      have F2 := Lib.hid H
      clear H
      go_wp2_with fail
      refine (F2.out).mono ?_
      rintro e w3 ⟨ad3, n3, d3, rfl, f3, b4⟩
      have l3 := f3.len_le _ S.out
      have F3 := Lib.hid (wnorm_calls ng ad3 n3 d3 V w3 (f3.num s3) (by omega))
      rw [← HN.out] at F3
      go_wp2_with fail
      refine (F3.out).mono ?_
      rintro e w4 ⟨ad4, n4, d4, rfl, f4, b5⟩
      have k4 := ((k1.next b3).next b4).next b5
      have b6 := below_trans b2 (below_trans b3 (below_trans b4 b5))
      have c0 := k4.cell 0 _ rfl
      have c1 := k4.cell 1 _ rfl
      have g0 := k4.free 0
      have g1 := k4.free 1
      go_wp2
      refine bodyPost_ret (results_row_tmp rfl _ _ w.heap.size 34 #[.bool (decide (N < 0)), .slice ad4 n4 d4] (0, 0) _ rfl ((k4.set 0 _).set 1 _).row Tryz.underlying34 rfl size_int) rfl ?_
      rw [HK.out]
      exact ⟨_, _, _, rfl, f4.poke2 k4 _ _, below_set (below_set b6 _ _ _ (Nat.le_refl _)) _ _ _ (Nat.le_refl _)⟩
end Go.Proofs.YtoimhjcpeifegaaGreatDoor


/- Printed by ieee3.py. -/
namespace Go.Proofs.YtoimhjcpeifegaaGreatDoor
open Go.RowKit

set_option maxRecDepth 20000 in
set_option maxHeartbeats 2000000 in
theorem to_64_16 (w : World) (hS : Shapes w) (hT : Tab w) (x : Int) (hx : 0 ≤ x ∧ x < 65536) : Calls Tryz.prog 13 #[.int .u16 x] w (fun e w' => e = .returned (.tuple #[.int .u64 (toW 64 16 x).1, .bool (toW 64 16 x).2]) ∧ Below w.heap.size w w') := by
  have nn := nan_cls 16 x
  have hfit := inf_fits (W := 64) (by unfold Wide; omega)
  have HT := Lib.hid (show toW 64 16 x = if isNaN 16 x then (nanW 64, true) else if sizeW 16 x = infW 16 then ((if negW 16 x then sgnW 64 else 0) + infW 64, true)
    else (roundW 64 (pNeg 16 x) (pM 16 x) (pE 16 x) false, sameW 64 16 x (roundW 64 (pNeg 16 x) (pM 16 x) (pE 16 x) false)) from rfl)
  have HO := Lib.hid (show pOk 16 x = decide (sizeW 16 x < infW 16) from rfl)
  have HN := Lib.hid (show isNaN 16 x = decide (infW 16 < sizeW 16 x) from rfl)
  have P1 := Lib.hid (parts_16 w hS hT x hx)
  have P2 := Lib.hid (fun (w : World) (hS : Shapes w) => class_16 w hS x hx)
  have P3 := Lib.hid (fun (w : World) (hS : Shapes w) => split_16 w hS x hx)
  have hm := pM_bd (W := 16) (by unfold Wide; omega) x
  have he := pE_bd (W := 16) (by unfold Wide; omega) x
  generalize clsW 16 x = cl at *
  generalize toW 64 16 x = R at *
  cases hf : pOk 16 x
  · rw [hf] at P1 HO
    have hge := of_decide_eq_false HO.out.symm
    cases hn : isNaN 16 x
    · rw [hn] at nn HN HT
      have hle := of_decide_eq_false HN.out.symm
      have HR := Lib.hid (show R = ((if negW 16 x then sgnW 64 else 0) + 9218868437227405312, true) by rw [HT.out, if_neg (by decide), if_pos (by omega), inf64])
      have HSg := Lib.hid (fun (w : World) (hS : Shapes w) => signed_64 w hS (negW 16 x) 9218868437227405312 (by omega))
      generalize (if negW 16 x then sgnW 64 else 0) = sg at *
      clear HT HO HN hf hn hge hle hfit hm he
      generalize negW 16 x = ng at *
      generalize sizeW 16 x = z at *
      go_enter Tryz.func13, Tryz.ntmps13
      have C1 := Lib.hid (P1.out)
      go_wp2_with fail
      refine (C1.out).mono ?_
      rintro e w1 ⟨rfl, b1⟩
      have C2 := Lib.hid (P2.out w1 (hS.below b1 (Nat.le_refl _)))
      go_wp2_with fail
      refine (C2.out).mono ?_
      rintro e w2 ⟨rfl, b2⟩
      have a2 := below_trans b1 b2
      have C3 := Lib.hid (P3.out w2 (hS.below a2 (Nat.le_refl _)))
      go_wp2_with fail
      refine (C3.out).mono ?_
      rintro e w3 ⟨rfl, b3⟩
      have a3 := below_trans a2 b3
      have C4 := Lib.hid (of_64 w3 (hS.below a3 (Nat.le_refl _)))
      go_wp2_with fail
      refine (C4.out).mono ?_
      rintro e w4 ⟨rfl, b4⟩
      have a4 := below_trans a3 b4
      have C5 := Lib.hid (shinf_64 w4)
      go_wp2_with fail
      refine (C5.out).mono ?_
      rintro e w5 ⟨rfl, b5⟩
      have a5 := below_trans a4 b5
      have C6 := Lib.hid (HSg.out w5 (hS.below a5 (Nat.le_refl _)))
      go_wp2_with fail
      refine (C6.out).mono ?_
      rintro e w6 ⟨rfl, b6⟩
      have a6 := below_trans a5 b6
      go_wp2
      go_ret2
      rw [HR.out]
      exact ⟨rfl, a6⟩
    · rw [hn] at nn HT
      have HR := Lib.hid (show R = (9221120237041090560, true) by rw [HT.out, if_pos rfl, nan64])
      clear HT HO HN hf hn hge hfit hm he
      go_enter Tryz.func13, Tryz.ntmps13
      have C1 := Lib.hid (P1.out)
      go_wp2_with fail
      refine (C1.out).mono ?_
      rintro e w1 ⟨rfl, b1⟩
      have C2 := Lib.hid (P2.out w1 (hS.below b1 (Nat.le_refl _)))
      go_wp2_with fail
      refine (C2.out).mono ?_
      rintro e w2 ⟨rfl, b2⟩
      have a2 := below_trans b1 b2
      have C3 := Lib.hid (of_64 w2 (hS.below a2 (Nat.le_refl _)))
      go_wp2_with fail
      refine (C3.out).mono ?_
      rintro e w3 ⟨rfl, b3⟩
      have a3 := below_trans a2 b3
      have C4 := Lib.hid (shnan_64 w3)
      go_wp2_with fail
      refine (C4.out).mono ?_
      rintro e w4 ⟨rfl, b4⟩
      have a4 := below_trans a3 b4
      go_wp2
      go_ret2
      rw [HR.out]
      exact ⟨rfl, a4⟩
  · rw [hf] at P1 HO
    have hlt := of_decide_eq_true HO.out.symm
    have hn : isNaN 16 x = false := by rw [HN.out]; exact decide_eq_false (by omega)
    have HR := Lib.hid (show R = (roundW 64 (pNeg 16 x) (pM 16 x) (pE 16 x) false, sameW 64 16 x (roundW 64 (pNeg 16 x) (pM 16 x) (pE 16 x) false)) by rw [HT.out, hn, if_neg (by decide), if_neg (by omega)])
    have hy := roundW_bd (W := 64) (by unfold Wide; omega) (pNeg 16 x) (pM 16 x) (pE 16 x) false
    rw [show (2 : Int) ^ 64 = 18446744073709551616 from by decide] at hy
    have HQ := Lib.hid (fun (w : World) (hS : Shapes w) (hT : Tab w) => parts_64 w hS hT (roundW 64 (pNeg 16 x) (pM 16 x) (pE 16 x) false) hy)
    have HRd := Lib.hid (fun (w : World) (hS : Shapes w) (ad : Option Addr) (n c : Nat) (h : Num w ad n c (pM 16 x)) (hn : n ≤ 2) => round_64 w hS (pNeg 16 x) ad n c (pM 16 x) (pE 16 x) false h (by omega) (by omega))
    have HSm := Lib.hid (show sameW 64 16 x (roundW 64 (pNeg 16 x) (pM 16 x) (pE 16 x) false) = (pOk 64 (roundW 64 (pNeg 16 x) (pM 16 x) (pE 16 x) false) && decide (pM 64 (roundW 64 (pNeg 16 x) (pM 16 x) (pE 16 x) false) = pM 16 x) && decide (pE 64 (roundW 64 (pNeg 16 x) (pM 16 x) (pE 16 x) false) = pE 16 x)) from rfl)
    clear HT HO HN hf hn hlt nn P2 P3 hfit
    generalize sameW 64 16 x (roundW 64 (pNeg 16 x) (pM 16 x) (pE 16 x) false) = sm at *
    generalize roundW 64 (pNeg 16 x) (pM 16 x) (pE 16 x) false = y at *
    generalize pM 16 x = m at *
    generalize pE 16 x = p at *
    generalize pNeg 16 x = ng at *
    generalize pM 64 y = m2 at *
    generalize pE 64 y = p2 at *
    generalize pOk 64 y = fin at *
    generalize pNeg 64 y = ng2 at *
    go_enter Tryz.func13, Tryz.ntmps13
    have C1 := Lib.hid (P1.out)
    go_wp2_with fail
    refine (C1.out).mono ?_
    rintro e w1 ⟨rfl, b1⟩
    have C2 := Lib.hid ((from_calls m w1 hm.1 (by omega)).mono fun e w' q => q.can)
    go_wp2_with fail
    refine (C2.out).mono ?_
    rintro e w2 ⟨ad2, n2, d2, rfl, f2, b2⟩
    have a2 := below_trans b1 b2
    have l2 := f2.len_le 2 (Int.lt_of_lt_of_le hm.2 (by decide))
    have C3 := Lib.hid (HRd.out w2 (hS.below a2 (Nat.le_refl _)) ad2 n2 d2 (f2.num hm.1) l2)
    go_wp2_with fail
    refine (C3.out).mono ?_
    rintro e w3 ⟨rfl, b3⟩
    have a3 := below_trans a2 b3
    have C4 := Lib.hid (HQ.out w3 (hS.below a3 (Nat.le_refl _)) (hT.below a3 (Nat.le_refl _)))
    go_wp2_with fail
    refine (C4.out).mono ?_
    rintro e w4 ⟨rfl, b4⟩
    have a4 := below_trans a3 b4
    cases fin
    · have HB := Lib.hid (show sm = false by rw [HSm.out]; rfl)
      go_wp2
      go_ret2
      rw [HR.out, HB.out]
      exact ⟨rfl, a4⟩
    · by_cases hm2 : m2 = m
      · by_cases hp2 : p2 = p
        · have HB := Lib.hid (show sm = true by rw [HSm.out, decide_eq_true hm2, decide_eq_true hp2]; rfl)
          have hm3 : (m2 == m) = true := by simpa using hm2
          have hp3 : (p2 == p) = true := by simpa using hp2
          clear HSm hm2 hp2
          go_wp2
          go_ret2
          rw [HR.out, HB.out]
          exact ⟨rfl, a4⟩
        · have HB := Lib.hid (show sm = false by rw [HSm.out, decide_eq_false hp2]; simp)
          have hm3 : (m2 == m) = true := by simpa using hm2
          have hp3 : (p2 == p) = false := by simpa using hp2
          clear HSm hm2 hp2
          go_wp2
          go_ret2
          rw [HR.out, HB.out]
          exact ⟨rfl, a4⟩
      · have HB := Lib.hid (show sm = false by rw [HSm.out, decide_eq_false hm2]; simp)
        have hm3 : (m2 == m) = false := by simpa using hm2
        clear HSm hm2
        go_wp2
        go_ret2
        rw [HR.out, HB.out]
        exact ⟨rfl, a4⟩
end Go.Proofs.YtoimhjcpeifegaaGreatDoor


/- Printed by ieee3.py. -/
namespace Go.Proofs.YtoimhjcpeifegaaGreatDoor
open Go.RowKit

set_option maxRecDepth 20000 in
set_option maxHeartbeats 2000000 in
theorem to_64_32 (w : World) (hS : Shapes w) (hT : Tab w) (x : Int) (hx : 0 ≤ x ∧ x < 4294967296) : Calls Tryz.prog 14 #[.int .u32 x] w (fun e w' => e = .returned (.tuple #[.int .u64 (toW 64 32 x).1, .bool (toW 64 32 x).2]) ∧ Below w.heap.size w w') := by
  have nn := nan_cls 32 x
  have hfit := inf_fits (W := 64) (by unfold Wide; omega)
  have HT := Lib.hid (show toW 64 32 x = if isNaN 32 x then (nanW 64, true) else if sizeW 32 x = infW 32 then ((if negW 32 x then sgnW 64 else 0) + infW 64, true)
    else (roundW 64 (pNeg 32 x) (pM 32 x) (pE 32 x) false, sameW 64 32 x (roundW 64 (pNeg 32 x) (pM 32 x) (pE 32 x) false)) from rfl)
  have HO := Lib.hid (show pOk 32 x = decide (sizeW 32 x < infW 32) from rfl)
  have HN := Lib.hid (show isNaN 32 x = decide (infW 32 < sizeW 32 x) from rfl)
  have P1 := Lib.hid (parts_32 w hS hT x hx)
  have P2 := Lib.hid (fun (w : World) (hS : Shapes w) => class_32 w hS x hx)
  have P3 := Lib.hid (fun (w : World) (hS : Shapes w) => split_32 w hS x hx)
  have hm := pM_bd (W := 32) (by unfold Wide; omega) x
  have he := pE_bd (W := 32) (by unfold Wide; omega) x
  generalize clsW 32 x = cl at *
  generalize toW 64 32 x = R at *
  cases hf : pOk 32 x
  · rw [hf] at P1 HO
    have hge := of_decide_eq_false HO.out.symm
    cases hn : isNaN 32 x
    · rw [hn] at nn HN HT
      have hle := of_decide_eq_false HN.out.symm
      have HR := Lib.hid (show R = ((if negW 32 x then sgnW 64 else 0) + 9218868437227405312, true) by rw [HT.out, if_neg (by decide), if_pos (by omega), inf64])
      have HSg := Lib.hid (fun (w : World) (hS : Shapes w) => signed_64 w hS (negW 32 x) 9218868437227405312 (by omega))
      generalize (if negW 32 x then sgnW 64 else 0) = sg at *
      clear HT HO HN hf hn hge hle hfit hm he
      generalize negW 32 x = ng at *
      generalize sizeW 32 x = z at *
      go_enter Tryz.func14, Tryz.ntmps14
      have C1 := Lib.hid (P1.out)
      go_wp2_with fail
      refine (C1.out).mono ?_
      rintro e w1 ⟨rfl, b1⟩
      have C2 := Lib.hid (P2.out w1 (hS.below b1 (Nat.le_refl _)))
      go_wp2_with fail
      refine (C2.out).mono ?_
      rintro e w2 ⟨rfl, b2⟩
      have a2 := below_trans b1 b2
      have C3 := Lib.hid (P3.out w2 (hS.below a2 (Nat.le_refl _)))
      go_wp2_with fail
      refine (C3.out).mono ?_
      rintro e w3 ⟨rfl, b3⟩
      have a3 := below_trans a2 b3
      have C4 := Lib.hid (of_64 w3 (hS.below a3 (Nat.le_refl _)))
      go_wp2_with fail
      refine (C4.out).mono ?_
      rintro e w4 ⟨rfl, b4⟩
      have a4 := below_trans a3 b4
      have C5 := Lib.hid (shinf_64 w4)
      go_wp2_with fail
      refine (C5.out).mono ?_
      rintro e w5 ⟨rfl, b5⟩
      have a5 := below_trans a4 b5
      have C6 := Lib.hid (HSg.out w5 (hS.below a5 (Nat.le_refl _)))
      go_wp2_with fail
      refine (C6.out).mono ?_
      rintro e w6 ⟨rfl, b6⟩
      have a6 := below_trans a5 b6
      go_wp2
      go_ret2
      rw [HR.out]
      exact ⟨rfl, a6⟩
    · rw [hn] at nn HT
      have HR := Lib.hid (show R = (9221120237041090560, true) by rw [HT.out, if_pos rfl, nan64])
      clear HT HO HN hf hn hge hfit hm he
      go_enter Tryz.func14, Tryz.ntmps14
      have C1 := Lib.hid (P1.out)
      go_wp2_with fail
      refine (C1.out).mono ?_
      rintro e w1 ⟨rfl, b1⟩
      have C2 := Lib.hid (P2.out w1 (hS.below b1 (Nat.le_refl _)))
      go_wp2_with fail
      refine (C2.out).mono ?_
      rintro e w2 ⟨rfl, b2⟩
      have a2 := below_trans b1 b2
      have C3 := Lib.hid (of_64 w2 (hS.below a2 (Nat.le_refl _)))
      go_wp2_with fail
      refine (C3.out).mono ?_
      rintro e w3 ⟨rfl, b3⟩
      have a3 := below_trans a2 b3
      have C4 := Lib.hid (shnan_64 w3)
      go_wp2_with fail
      refine (C4.out).mono ?_
      rintro e w4 ⟨rfl, b4⟩
      have a4 := below_trans a3 b4
      go_wp2
      go_ret2
      rw [HR.out]
      exact ⟨rfl, a4⟩
  · rw [hf] at P1 HO
    have hlt := of_decide_eq_true HO.out.symm
    have hn : isNaN 32 x = false := by rw [HN.out]; exact decide_eq_false (by omega)
    have HR := Lib.hid (show R = (roundW 64 (pNeg 32 x) (pM 32 x) (pE 32 x) false, sameW 64 32 x (roundW 64 (pNeg 32 x) (pM 32 x) (pE 32 x) false)) by rw [HT.out, hn, if_neg (by decide), if_neg (by omega)])
    have hy := roundW_bd (W := 64) (by unfold Wide; omega) (pNeg 32 x) (pM 32 x) (pE 32 x) false
    rw [show (2 : Int) ^ 64 = 18446744073709551616 from by decide] at hy
    have HQ := Lib.hid (fun (w : World) (hS : Shapes w) (hT : Tab w) => parts_64 w hS hT (roundW 64 (pNeg 32 x) (pM 32 x) (pE 32 x) false) hy)
    have HRd := Lib.hid (fun (w : World) (hS : Shapes w) (ad : Option Addr) (n c : Nat) (h : Num w ad n c (pM 32 x)) (hn : n ≤ 2) => round_64 w hS (pNeg 32 x) ad n c (pM 32 x) (pE 32 x) false h (by omega) (by omega))
    have HSm := Lib.hid (show sameW 64 32 x (roundW 64 (pNeg 32 x) (pM 32 x) (pE 32 x) false) = (pOk 64 (roundW 64 (pNeg 32 x) (pM 32 x) (pE 32 x) false) && decide (pM 64 (roundW 64 (pNeg 32 x) (pM 32 x) (pE 32 x) false) = pM 32 x) && decide (pE 64 (roundW 64 (pNeg 32 x) (pM 32 x) (pE 32 x) false) = pE 32 x)) from rfl)
    clear HT HO HN hf hn hlt nn P2 P3 hfit
    generalize sameW 64 32 x (roundW 64 (pNeg 32 x) (pM 32 x) (pE 32 x) false) = sm at *
    generalize roundW 64 (pNeg 32 x) (pM 32 x) (pE 32 x) false = y at *
    generalize pM 32 x = m at *
    generalize pE 32 x = p at *
    generalize pNeg 32 x = ng at *
    generalize pM 64 y = m2 at *
    generalize pE 64 y = p2 at *
    generalize pOk 64 y = fin at *
    generalize pNeg 64 y = ng2 at *
    go_enter Tryz.func14, Tryz.ntmps14
    have C1 := Lib.hid (P1.out)
    go_wp2_with fail
    refine (C1.out).mono ?_
    rintro e w1 ⟨rfl, b1⟩
    have C2 := Lib.hid ((from_calls m w1 hm.1 (by omega)).mono fun e w' q => q.can)
    go_wp2_with fail
    refine (C2.out).mono ?_
    rintro e w2 ⟨ad2, n2, d2, rfl, f2, b2⟩
    have a2 := below_trans b1 b2
    have l2 := f2.len_le 2 (Int.lt_of_lt_of_le hm.2 (by decide))
    have C3 := Lib.hid (HRd.out w2 (hS.below a2 (Nat.le_refl _)) ad2 n2 d2 (f2.num hm.1) l2)
    go_wp2_with fail
    refine (C3.out).mono ?_
    rintro e w3 ⟨rfl, b3⟩
    have a3 := below_trans a2 b3
    have C4 := Lib.hid (HQ.out w3 (hS.below a3 (Nat.le_refl _)) (hT.below a3 (Nat.le_refl _)))
    go_wp2_with fail
    refine (C4.out).mono ?_
    rintro e w4 ⟨rfl, b4⟩
    have a4 := below_trans a3 b4
    cases fin
    · have HB := Lib.hid (show sm = false by rw [HSm.out]; rfl)
      go_wp2
      go_ret2
      rw [HR.out, HB.out]
      exact ⟨rfl, a4⟩
    · by_cases hm2 : m2 = m
      · by_cases hp2 : p2 = p
        · have HB := Lib.hid (show sm = true by rw [HSm.out, decide_eq_true hm2, decide_eq_true hp2]; rfl)
          have hm3 : (m2 == m) = true := by simpa using hm2
          have hp3 : (p2 == p) = true := by simpa using hp2
          clear HSm hm2 hp2
          go_wp2
          go_ret2
          rw [HR.out, HB.out]
          exact ⟨rfl, a4⟩
        · have HB := Lib.hid (show sm = false by rw [HSm.out, decide_eq_false hp2]; simp)
          have hm3 : (m2 == m) = true := by simpa using hm2
          have hp3 : (p2 == p) = false := by simpa using hp2
          clear HSm hm2 hp2
          go_wp2
          go_ret2
          rw [HR.out, HB.out]
          exact ⟨rfl, a4⟩
      · have HB := Lib.hid (show sm = false by rw [HSm.out, decide_eq_false hm2]; simp)
        have hm3 : (m2 == m) = false := by simpa using hm2
        clear HSm hm2
        go_wp2
        go_ret2
        rw [HR.out, HB.out]
        exact ⟨rfl, a4⟩
end Go.Proofs.YtoimhjcpeifegaaGreatDoor


/- Printed by ieee3.py. -/
namespace Go.Proofs.YtoimhjcpeifegaaGreatDoor
open Go.RowKit

set_option maxRecDepth 20000 in
set_option maxHeartbeats 2000000 in
theorem to_64_64 (w : World) (hS : Shapes w) (hT : Tab w) (x : Int) (hx : 0 ≤ x ∧ x < 18446744073709551616) : Calls Tryz.prog 68 #[.int .u64 x] w (fun e w' => e = .returned (.tuple #[.int .u64 (toW 64 64 x).1, .bool (toW 64 64 x).2]) ∧ Below w.heap.size w w') := by
  have nn := nan_cls 64 x
  have hfit := inf_fits (W := 64) (by unfold Wide; omega)
  have HT := Lib.hid (show toW 64 64 x = if isNaN 64 x then (nanW 64, true) else if sizeW 64 x = infW 64 then ((if negW 64 x then sgnW 64 else 0) + infW 64, true)
    else (roundW 64 (pNeg 64 x) (pM 64 x) (pE 64 x) false, sameW 64 64 x (roundW 64 (pNeg 64 x) (pM 64 x) (pE 64 x) false)) from rfl)
  have HO := Lib.hid (show pOk 64 x = decide (sizeW 64 x < infW 64) from rfl)
  have HN := Lib.hid (show isNaN 64 x = decide (infW 64 < sizeW 64 x) from rfl)
  have P1 := Lib.hid (parts_64 w hS hT x hx)
  have P2 := Lib.hid (fun (w : World) (hS : Shapes w) => class_64 w hS x hx)
  have P3 := Lib.hid (fun (w : World) (hS : Shapes w) => split_64 w hS x hx)
  have hm := pM_bd (W := 64) (by unfold Wide; omega) x
  have he := pE_bd (W := 64) (by unfold Wide; omega) x
  generalize clsW 64 x = cl at *
  generalize toW 64 64 x = R at *
  cases hf : pOk 64 x
  · rw [hf] at P1 HO
    have hge := of_decide_eq_false HO.out.symm
    cases hn : isNaN 64 x
    · rw [hn] at nn HN HT
      have hle := of_decide_eq_false HN.out.symm
      have HR := Lib.hid (show R = ((if negW 64 x then sgnW 64 else 0) + 9218868437227405312, true) by rw [HT.out, if_neg (by decide), if_pos (by omega), inf64])
      have HSg := Lib.hid (fun (w : World) (hS : Shapes w) => signed_64 w hS (negW 64 x) 9218868437227405312 (by omega))
      generalize (if negW 64 x then sgnW 64 else 0) = sg at *
      clear HT HO HN hf hn hge hle hfit hm he
      generalize negW 64 x = ng at *
      generalize sizeW 64 x = z at *
      go_enter Tryz.func68, Tryz.ntmps68
      have C1 := Lib.hid (P1.out)
      go_wp2_with fail
      refine (C1.out).mono ?_
      rintro e w1 ⟨rfl, b1⟩
      have C2 := Lib.hid (P2.out w1 (hS.below b1 (Nat.le_refl _)))
      go_wp2_with fail
      refine (C2.out).mono ?_
      rintro e w2 ⟨rfl, b2⟩
      have a2 := below_trans b1 b2
      have C3 := Lib.hid (P3.out w2 (hS.below a2 (Nat.le_refl _)))
      go_wp2_with fail
      refine (C3.out).mono ?_
      rintro e w3 ⟨rfl, b3⟩
      have a3 := below_trans a2 b3
      have C4 := Lib.hid (of_64 w3 (hS.below a3 (Nat.le_refl _)))
      go_wp2_with fail
      refine (C4.out).mono ?_
      rintro e w4 ⟨rfl, b4⟩
      have a4 := below_trans a3 b4
      have C5 := Lib.hid (shinf_64 w4)
      go_wp2_with fail
      refine (C5.out).mono ?_
      rintro e w5 ⟨rfl, b5⟩
      have a5 := below_trans a4 b5
      have C6 := Lib.hid (HSg.out w5 (hS.below a5 (Nat.le_refl _)))
      go_wp2_with fail
      refine (C6.out).mono ?_
      rintro e w6 ⟨rfl, b6⟩
      have a6 := below_trans a5 b6
      go_wp2
      go_ret2
      rw [HR.out]
      exact ⟨rfl, a6⟩
    · rw [hn] at nn HT
      have HR := Lib.hid (show R = (9221120237041090560, true) by rw [HT.out, if_pos rfl, nan64])
      clear HT HO HN hf hn hge hfit hm he
      go_enter Tryz.func68, Tryz.ntmps68
      have C1 := Lib.hid (P1.out)
      go_wp2_with fail
      refine (C1.out).mono ?_
      rintro e w1 ⟨rfl, b1⟩
      have C2 := Lib.hid (P2.out w1 (hS.below b1 (Nat.le_refl _)))
      go_wp2_with fail
      refine (C2.out).mono ?_
      rintro e w2 ⟨rfl, b2⟩
      have a2 := below_trans b1 b2
      have C3 := Lib.hid (of_64 w2 (hS.below a2 (Nat.le_refl _)))
      go_wp2_with fail
      refine (C3.out).mono ?_
      rintro e w3 ⟨rfl, b3⟩
      have a3 := below_trans a2 b3
      have C4 := Lib.hid (shnan_64 w3)
      go_wp2_with fail
      refine (C4.out).mono ?_
      rintro e w4 ⟨rfl, b4⟩
      have a4 := below_trans a3 b4
      go_wp2
      go_ret2
      rw [HR.out]
      exact ⟨rfl, a4⟩
  · rw [hf] at P1 HO
    have hlt := of_decide_eq_true HO.out.symm
    have hn : isNaN 64 x = false := by rw [HN.out]; exact decide_eq_false (by omega)
    have HR := Lib.hid (show R = (roundW 64 (pNeg 64 x) (pM 64 x) (pE 64 x) false, sameW 64 64 x (roundW 64 (pNeg 64 x) (pM 64 x) (pE 64 x) false)) by rw [HT.out, hn, if_neg (by decide), if_neg (by omega)])
    have hy := roundW_bd (W := 64) (by unfold Wide; omega) (pNeg 64 x) (pM 64 x) (pE 64 x) false
    rw [show (2 : Int) ^ 64 = 18446744073709551616 from by decide] at hy
    have HQ := Lib.hid (fun (w : World) (hS : Shapes w) (hT : Tab w) => parts_64 w hS hT (roundW 64 (pNeg 64 x) (pM 64 x) (pE 64 x) false) hy)
    have HRd := Lib.hid (fun (w : World) (hS : Shapes w) (ad : Option Addr) (n c : Nat) (h : Num w ad n c (pM 64 x)) (hn : n ≤ 2) => round_64 w hS (pNeg 64 x) ad n c (pM 64 x) (pE 64 x) false h (by omega) (by omega))
    have HSm := Lib.hid (show sameW 64 64 x (roundW 64 (pNeg 64 x) (pM 64 x) (pE 64 x) false) = (pOk 64 (roundW 64 (pNeg 64 x) (pM 64 x) (pE 64 x) false) && decide (pM 64 (roundW 64 (pNeg 64 x) (pM 64 x) (pE 64 x) false) = pM 64 x) && decide (pE 64 (roundW 64 (pNeg 64 x) (pM 64 x) (pE 64 x) false) = pE 64 x)) from rfl)
    clear HT HO HN hf hn hlt nn P2 P3 hfit
    generalize sameW 64 64 x (roundW 64 (pNeg 64 x) (pM 64 x) (pE 64 x) false) = sm at *
    generalize roundW 64 (pNeg 64 x) (pM 64 x) (pE 64 x) false = y at *
    generalize pM 64 x = m at *
    generalize pE 64 x = p at *
    generalize pNeg 64 x = ng at *
    generalize pM 64 y = m2 at *
    generalize pE 64 y = p2 at *
    generalize pOk 64 y = fin at *
    generalize pNeg 64 y = ng2 at *
    go_enter Tryz.func68, Tryz.ntmps68
    have C1 := Lib.hid (P1.out)
    go_wp2_with fail
    refine (C1.out).mono ?_
    rintro e w1 ⟨rfl, b1⟩
    have C2 := Lib.hid ((from_calls m w1 hm.1 (by omega)).mono fun e w' q => q.can)
    go_wp2_with fail
    refine (C2.out).mono ?_
    rintro e w2 ⟨ad2, n2, d2, rfl, f2, b2⟩
    have a2 := below_trans b1 b2
    have l2 := f2.len_le 2 (Int.lt_of_lt_of_le hm.2 (by decide))
    have C3 := Lib.hid (HRd.out w2 (hS.below a2 (Nat.le_refl _)) ad2 n2 d2 (f2.num hm.1) l2)
    go_wp2_with fail
    refine (C3.out).mono ?_
    rintro e w3 ⟨rfl, b3⟩
    have a3 := below_trans a2 b3
    have C4 := Lib.hid (HQ.out w3 (hS.below a3 (Nat.le_refl _)) (hT.below a3 (Nat.le_refl _)))
    go_wp2_with fail
    refine (C4.out).mono ?_
    rintro e w4 ⟨rfl, b4⟩
    have a4 := below_trans a3 b4
    cases fin
    · have HB := Lib.hid (show sm = false by rw [HSm.out]; rfl)
      go_wp2
      go_ret2
      rw [HR.out, HB.out]
      exact ⟨rfl, a4⟩
    · by_cases hm2 : m2 = m
      · by_cases hp2 : p2 = p
        · have HB := Lib.hid (show sm = true by rw [HSm.out, decide_eq_true hm2, decide_eq_true hp2]; rfl)
          have hm3 : (m2 == m) = true := by simpa using hm2
          have hp3 : (p2 == p) = true := by simpa using hp2
          clear HSm hm2 hp2
          go_wp2
          go_ret2
          rw [HR.out, HB.out]
          exact ⟨rfl, a4⟩
        · have HB := Lib.hid (show sm = false by rw [HSm.out, decide_eq_false hp2]; simp)
          have hm3 : (m2 == m) = true := by simpa using hm2
          have hp3 : (p2 == p) = false := by simpa using hp2
          clear HSm hm2 hp2
          go_wp2
          go_ret2
          rw [HR.out, HB.out]
          exact ⟨rfl, a4⟩
      · have HB := Lib.hid (show sm = false by rw [HSm.out, decide_eq_false hm2]; simp)
        have hm3 : (m2 == m) = false := by simpa using hm2
        clear HSm hm2
        go_wp2
        go_ret2
        rw [HR.out, HB.out]
        exact ⟨rfl, a4⟩
end Go.Proofs.YtoimhjcpeifegaaGreatDoor


/- Printed by ieee3.py. -/
namespace Go.Proofs.YtoimhjcpeifegaaGreatDoor
open Go.RowKit

set_option maxRecDepth 20000 in
set_option maxHeartbeats 2000000 in
theorem to_16_64 (w : World) (hS : Shapes w) (hT : Tab w) (x : Int) (hx : 0 ≤ x ∧ x < 18446744073709551616) : Calls Tryz.prog 36 #[.int .u64 x] w (fun e w' => e = .returned (.tuple #[.int .u16 (toW 16 64 x).1, .bool (toW 16 64 x).2]) ∧ Below w.heap.size w w') := by
  have nn := nan_cls 64 x
  have hfit := inf_fits (W := 16) (by unfold Wide; omega)
  have HT := Lib.hid (show toW 16 64 x = if isNaN 64 x then (nanW 16, true) else if sizeW 64 x = infW 64 then ((if negW 64 x then sgnW 16 else 0) + infW 16, true)
    else (roundW 16 (pNeg 64 x) (pM 64 x) (pE 64 x) false, sameW 16 64 x (roundW 16 (pNeg 64 x) (pM 64 x) (pE 64 x) false)) from rfl)
  have HO := Lib.hid (show pOk 64 x = decide (sizeW 64 x < infW 64) from rfl)
  have HN := Lib.hid (show isNaN 64 x = decide (infW 64 < sizeW 64 x) from rfl)
  have P1 := Lib.hid (parts_64 w hS hT x hx)
  have P2 := Lib.hid (fun (w : World) (hS : Shapes w) => class_64 w hS x hx)
  have P3 := Lib.hid (fun (w : World) (hS : Shapes w) => split_64 w hS x hx)
  have hm := pM_bd (W := 64) (by unfold Wide; omega) x
  have he := pE_bd (W := 64) (by unfold Wide; omega) x
  generalize clsW 64 x = cl at *
  generalize toW 16 64 x = R at *
  cases hf : pOk 64 x
  · rw [hf] at P1 HO
    have hge := of_decide_eq_false HO.out.symm
    cases hn : isNaN 64 x
    · rw [hn] at nn HN HT
      have hle := of_decide_eq_false HN.out.symm
      have HR := Lib.hid (show R = ((if negW 64 x then sgnW 16 else 0) + 31744, true) by rw [HT.out, if_neg (by decide), if_pos (by omega), inf16])
      have HSg := Lib.hid (fun (w : World) (hS : Shapes w) => signed_16 w hS (negW 64 x) 31744 (by omega))
      generalize (if negW 64 x then sgnW 16 else 0) = sg at *
      clear HT HO HN hf hn hge hle hfit hm he
      generalize negW 64 x = ng at *
      generalize sizeW 64 x = z at *
      go_enter Tryz.func36, Tryz.ntmps36
      have C1 := Lib.hid (P1.out)
      go_wp2_with fail
      refine (C1.out).mono ?_
      rintro e w1 ⟨rfl, b1⟩
      have C2 := Lib.hid (P2.out w1 (hS.below b1 (Nat.le_refl _)))
      go_wp2_with fail
      refine (C2.out).mono ?_
      rintro e w2 ⟨rfl, b2⟩
      have a2 := below_trans b1 b2
      have C3 := Lib.hid (P3.out w2 (hS.below a2 (Nat.le_refl _)))
      go_wp2_with fail
      refine (C3.out).mono ?_
      rintro e w3 ⟨rfl, b3⟩
      have a3 := below_trans a2 b3
      have C4 := Lib.hid (of_16 w3 (hS.below a3 (Nat.le_refl _)))
      go_wp2_with fail
      refine (C4.out).mono ?_
      rintro e w4 ⟨rfl, b4⟩
      have a4 := below_trans a3 b4
      have C5 := Lib.hid (shinf_16 w4)
      go_wp2_with fail
      refine (C5.out).mono ?_
      rintro e w5 ⟨rfl, b5⟩
      have a5 := below_trans a4 b5
      have C6 := Lib.hid (HSg.out w5 (hS.below a5 (Nat.le_refl _)))
      go_wp2_with fail
      refine (C6.out).mono ?_
      rintro e w6 ⟨rfl, b6⟩
      have a6 := below_trans a5 b6
      go_wp2
      go_ret2
      rw [HR.out]
      exact ⟨rfl, a6⟩
    · rw [hn] at nn HT
      have HR := Lib.hid (show R = (32256, true) by rw [HT.out, if_pos rfl, nan16])
      clear HT HO HN hf hn hge hfit hm he
      go_enter Tryz.func36, Tryz.ntmps36
      have C1 := Lib.hid (P1.out)
      go_wp2_with fail
      refine (C1.out).mono ?_
      rintro e w1 ⟨rfl, b1⟩
      have C2 := Lib.hid (P2.out w1 (hS.below b1 (Nat.le_refl _)))
      go_wp2_with fail
      refine (C2.out).mono ?_
      rintro e w2 ⟨rfl, b2⟩
      have a2 := below_trans b1 b2
      have C3 := Lib.hid (of_16 w2 (hS.below a2 (Nat.le_refl _)))
      go_wp2_with fail
      refine (C3.out).mono ?_
      rintro e w3 ⟨rfl, b3⟩
      have a3 := below_trans a2 b3
      have C4 := Lib.hid (shnan_16 w3)
      go_wp2_with fail
      refine (C4.out).mono ?_
      rintro e w4 ⟨rfl, b4⟩
      have a4 := below_trans a3 b4
      go_wp2
      go_ret2
      rw [HR.out]
      exact ⟨rfl, a4⟩
  · rw [hf] at P1 HO
    have hlt := of_decide_eq_true HO.out.symm
    have hn : isNaN 64 x = false := by rw [HN.out]; exact decide_eq_false (by omega)
    have HR := Lib.hid (show R = (roundW 16 (pNeg 64 x) (pM 64 x) (pE 64 x) false, sameW 16 64 x (roundW 16 (pNeg 64 x) (pM 64 x) (pE 64 x) false)) by rw [HT.out, hn, if_neg (by decide), if_neg (by omega)])
    have hy := roundW_bd (W := 16) (by unfold Wide; omega) (pNeg 64 x) (pM 64 x) (pE 64 x) false
    rw [show (2 : Int) ^ 16 = 65536 from by decide] at hy
    have HQ := Lib.hid (fun (w : World) (hS : Shapes w) (hT : Tab w) => parts_16 w hS hT (roundW 16 (pNeg 64 x) (pM 64 x) (pE 64 x) false) hy)
    have HRd := Lib.hid (fun (w : World) (hS : Shapes w) (ad : Option Addr) (n c : Nat) (h : Num w ad n c (pM 64 x)) (hn : n ≤ 2) => round_16 w hS (pNeg 64 x) ad n c (pM 64 x) (pE 64 x) false h (by omega) (by omega))
    have HSm := Lib.hid (show sameW 16 64 x (roundW 16 (pNeg 64 x) (pM 64 x) (pE 64 x) false) = (pOk 16 (roundW 16 (pNeg 64 x) (pM 64 x) (pE 64 x) false) && decide (pM 16 (roundW 16 (pNeg 64 x) (pM 64 x) (pE 64 x) false) = pM 64 x) && decide (pE 16 (roundW 16 (pNeg 64 x) (pM 64 x) (pE 64 x) false) = pE 64 x)) from rfl)
    clear HT HO HN hf hn hlt nn P2 P3 hfit
    generalize sameW 16 64 x (roundW 16 (pNeg 64 x) (pM 64 x) (pE 64 x) false) = sm at *
    generalize roundW 16 (pNeg 64 x) (pM 64 x) (pE 64 x) false = y at *
    generalize pM 64 x = m at *
    generalize pE 64 x = p at *
    generalize pNeg 64 x = ng at *
    generalize pM 16 y = m2 at *
    generalize pE 16 y = p2 at *
    generalize pOk 16 y = fin at *
    generalize pNeg 16 y = ng2 at *
    go_enter Tryz.func36, Tryz.ntmps36
    have C1 := Lib.hid (P1.out)
    go_wp2_with fail
    refine (C1.out).mono ?_
    rintro e w1 ⟨rfl, b1⟩
    have C2 := Lib.hid ((from_calls m w1 hm.1 (by omega)).mono fun e w' q => q.can)
    go_wp2_with fail
    refine (C2.out).mono ?_
    rintro e w2 ⟨ad2, n2, d2, rfl, f2, b2⟩
    have a2 := below_trans b1 b2
    have l2 := f2.len_le 2 (Int.lt_of_lt_of_le hm.2 (by decide))
    have C3 := Lib.hid (HRd.out w2 (hS.below a2 (Nat.le_refl _)) ad2 n2 d2 (f2.num hm.1) l2)
    go_wp2_with fail
    refine (C3.out).mono ?_
    rintro e w3 ⟨rfl, b3⟩
    have a3 := below_trans a2 b3
    have C4 := Lib.hid (HQ.out w3 (hS.below a3 (Nat.le_refl _)) (hT.below a3 (Nat.le_refl _)))
    go_wp2_with fail
    refine (C4.out).mono ?_
    rintro e w4 ⟨rfl, b4⟩
    have a4 := below_trans a3 b4
    cases fin
    · have HB := Lib.hid (show sm = false by rw [HSm.out]; rfl)
      go_wp2
      go_ret2
      rw [HR.out, HB.out]
      exact ⟨rfl, a4⟩
    · by_cases hm2 : m2 = m
      · by_cases hp2 : p2 = p
        · have HB := Lib.hid (show sm = true by rw [HSm.out, decide_eq_true hm2, decide_eq_true hp2]; rfl)
          have hm3 : (m2 == m) = true := by simpa using hm2
          have hp3 : (p2 == p) = true := by simpa using hp2
          clear HSm hm2 hp2
          go_wp2
          go_ret2
          rw [HR.out, HB.out]
          exact ⟨rfl, a4⟩
        · have HB := Lib.hid (show sm = false by rw [HSm.out, decide_eq_false hp2]; simp)
          have hm3 : (m2 == m) = true := by simpa using hm2
          have hp3 : (p2 == p) = false := by simpa using hp2
          clear HSm hm2 hp2
          go_wp2
          go_ret2
          rw [HR.out, HB.out]
          exact ⟨rfl, a4⟩
      · have HB := Lib.hid (show sm = false by rw [HSm.out, decide_eq_false hm2]; simp)
        have hm3 : (m2 == m) = false := by simpa using hm2
        clear HSm hm2
        go_wp2
        go_ret2
        rw [HR.out, HB.out]
        exact ⟨rfl, a4⟩
end Go.Proofs.YtoimhjcpeifegaaGreatDoor


/- Printed by ieee3.py. -/
namespace Go.Proofs.YtoimhjcpeifegaaGreatDoor
open Go.RowKit

set_option maxRecDepth 20000 in
set_option maxHeartbeats 2000000 in
theorem to_32_64 (w : World) (hS : Shapes w) (hT : Tab w) (x : Int) (hx : 0 ≤ x ∧ x < 18446744073709551616) : Calls Tryz.prog 37 #[.int .u64 x] w (fun e w' => e = .returned (.tuple #[.int .u32 (toW 32 64 x).1, .bool (toW 32 64 x).2]) ∧ Below w.heap.size w w') := by
  have nn := nan_cls 64 x
  have hfit := inf_fits (W := 32) (by unfold Wide; omega)
  have HT := Lib.hid (show toW 32 64 x = if isNaN 64 x then (nanW 32, true) else if sizeW 64 x = infW 64 then ((if negW 64 x then sgnW 32 else 0) + infW 32, true)
    else (roundW 32 (pNeg 64 x) (pM 64 x) (pE 64 x) false, sameW 32 64 x (roundW 32 (pNeg 64 x) (pM 64 x) (pE 64 x) false)) from rfl)
  have HO := Lib.hid (show pOk 64 x = decide (sizeW 64 x < infW 64) from rfl)
  have HN := Lib.hid (show isNaN 64 x = decide (infW 64 < sizeW 64 x) from rfl)
  have P1 := Lib.hid (parts_64 w hS hT x hx)
  have P2 := Lib.hid (fun (w : World) (hS : Shapes w) => class_64 w hS x hx)
  have P3 := Lib.hid (fun (w : World) (hS : Shapes w) => split_64 w hS x hx)
  have hm := pM_bd (W := 64) (by unfold Wide; omega) x
  have he := pE_bd (W := 64) (by unfold Wide; omega) x
  generalize clsW 64 x = cl at *
  generalize toW 32 64 x = R at *
  cases hf : pOk 64 x
  · rw [hf] at P1 HO
    have hge := of_decide_eq_false HO.out.symm
    cases hn : isNaN 64 x
    · rw [hn] at nn HN HT
      have hle := of_decide_eq_false HN.out.symm
      have HR := Lib.hid (show R = ((if negW 64 x then sgnW 32 else 0) + 2139095040, true) by rw [HT.out, if_neg (by decide), if_pos (by omega), inf32])
      have HSg := Lib.hid (fun (w : World) (hS : Shapes w) => signed_32 w hS (negW 64 x) 2139095040 (by omega))
      generalize (if negW 64 x then sgnW 32 else 0) = sg at *
      clear HT HO HN hf hn hge hle hfit hm he
      generalize negW 64 x = ng at *
      generalize sizeW 64 x = z at *
      go_enter Tryz.func37, Tryz.ntmps37
      have C1 := Lib.hid (P1.out)
      go_wp2_with fail
      refine (C1.out).mono ?_
      rintro e w1 ⟨rfl, b1⟩
      have C2 := Lib.hid (P2.out w1 (hS.below b1 (Nat.le_refl _)))
      go_wp2_with fail
      refine (C2.out).mono ?_
      rintro e w2 ⟨rfl, b2⟩
      have a2 := below_trans b1 b2
      have C3 := Lib.hid (P3.out w2 (hS.below a2 (Nat.le_refl _)))
      go_wp2_with fail
      refine (C3.out).mono ?_
      rintro e w3 ⟨rfl, b3⟩
      have a3 := below_trans a2 b3
      have C4 := Lib.hid (of_32 w3 (hS.below a3 (Nat.le_refl _)))
      go_wp2_with fail
      refine (C4.out).mono ?_
      rintro e w4 ⟨rfl, b4⟩
      have a4 := below_trans a3 b4
      have C5 := Lib.hid (shinf_32 w4)
      go_wp2_with fail
      refine (C5.out).mono ?_
      rintro e w5 ⟨rfl, b5⟩
      have a5 := below_trans a4 b5
      have C6 := Lib.hid (HSg.out w5 (hS.below a5 (Nat.le_refl _)))
      go_wp2_with fail
      refine (C6.out).mono ?_
      rintro e w6 ⟨rfl, b6⟩
      have a6 := below_trans a5 b6
      go_wp2
      go_ret2
      rw [HR.out]
      exact ⟨rfl, a6⟩
    · rw [hn] at nn HT
      have HR := Lib.hid (show R = (2143289344, true) by rw [HT.out, if_pos rfl, nan32])
      clear HT HO HN hf hn hge hfit hm he
      go_enter Tryz.func37, Tryz.ntmps37
      have C1 := Lib.hid (P1.out)
      go_wp2_with fail
      refine (C1.out).mono ?_
      rintro e w1 ⟨rfl, b1⟩
      have C2 := Lib.hid (P2.out w1 (hS.below b1 (Nat.le_refl _)))
      go_wp2_with fail
      refine (C2.out).mono ?_
      rintro e w2 ⟨rfl, b2⟩
      have a2 := below_trans b1 b2
      have C3 := Lib.hid (of_32 w2 (hS.below a2 (Nat.le_refl _)))
      go_wp2_with fail
      refine (C3.out).mono ?_
      rintro e w3 ⟨rfl, b3⟩
      have a3 := below_trans a2 b3
      have C4 := Lib.hid (shnan_32 w3)
      go_wp2_with fail
      refine (C4.out).mono ?_
      rintro e w4 ⟨rfl, b4⟩
      have a4 := below_trans a3 b4
      go_wp2
      go_ret2
      rw [HR.out]
      exact ⟨rfl, a4⟩
  · rw [hf] at P1 HO
    have hlt := of_decide_eq_true HO.out.symm
    have hn : isNaN 64 x = false := by rw [HN.out]; exact decide_eq_false (by omega)
    have HR := Lib.hid (show R = (roundW 32 (pNeg 64 x) (pM 64 x) (pE 64 x) false, sameW 32 64 x (roundW 32 (pNeg 64 x) (pM 64 x) (pE 64 x) false)) by rw [HT.out, hn, if_neg (by decide), if_neg (by omega)])
    have hy := roundW_bd (W := 32) (by unfold Wide; omega) (pNeg 64 x) (pM 64 x) (pE 64 x) false
    rw [show (2 : Int) ^ 32 = 4294967296 from by decide] at hy
    have HQ := Lib.hid (fun (w : World) (hS : Shapes w) (hT : Tab w) => parts_32 w hS hT (roundW 32 (pNeg 64 x) (pM 64 x) (pE 64 x) false) hy)
    have HRd := Lib.hid (fun (w : World) (hS : Shapes w) (ad : Option Addr) (n c : Nat) (h : Num w ad n c (pM 64 x)) (hn : n ≤ 2) => round_32 w hS (pNeg 64 x) ad n c (pM 64 x) (pE 64 x) false h (by omega) (by omega))
    have HSm := Lib.hid (show sameW 32 64 x (roundW 32 (pNeg 64 x) (pM 64 x) (pE 64 x) false) = (pOk 32 (roundW 32 (pNeg 64 x) (pM 64 x) (pE 64 x) false) && decide (pM 32 (roundW 32 (pNeg 64 x) (pM 64 x) (pE 64 x) false) = pM 64 x) && decide (pE 32 (roundW 32 (pNeg 64 x) (pM 64 x) (pE 64 x) false) = pE 64 x)) from rfl)
    clear HT HO HN hf hn hlt nn P2 P3 hfit
    generalize sameW 32 64 x (roundW 32 (pNeg 64 x) (pM 64 x) (pE 64 x) false) = sm at *
    generalize roundW 32 (pNeg 64 x) (pM 64 x) (pE 64 x) false = y at *
    generalize pM 64 x = m at *
    generalize pE 64 x = p at *
    generalize pNeg 64 x = ng at *
    generalize pM 32 y = m2 at *
    generalize pE 32 y = p2 at *
    generalize pOk 32 y = fin at *
    generalize pNeg 32 y = ng2 at *
    go_enter Tryz.func37, Tryz.ntmps37
    have C1 := Lib.hid (P1.out)
    go_wp2_with fail
    refine (C1.out).mono ?_
    rintro e w1 ⟨rfl, b1⟩
    have C2 := Lib.hid ((from_calls m w1 hm.1 (by omega)).mono fun e w' q => q.can)
    go_wp2_with fail
    refine (C2.out).mono ?_
    rintro e w2 ⟨ad2, n2, d2, rfl, f2, b2⟩
    have a2 := below_trans b1 b2
    have l2 := f2.len_le 2 (Int.lt_of_lt_of_le hm.2 (by decide))
    have C3 := Lib.hid (HRd.out w2 (hS.below a2 (Nat.le_refl _)) ad2 n2 d2 (f2.num hm.1) l2)
    go_wp2_with fail
    refine (C3.out).mono ?_
    rintro e w3 ⟨rfl, b3⟩
    have a3 := below_trans a2 b3
    have C4 := Lib.hid (HQ.out w3 (hS.below a3 (Nat.le_refl _)) (hT.below a3 (Nat.le_refl _)))
    go_wp2_with fail
    refine (C4.out).mono ?_
    rintro e w4 ⟨rfl, b4⟩
    have a4 := below_trans a3 b4
    cases fin
    · have HB := Lib.hid (show sm = false by rw [HSm.out]; rfl)
      go_wp2
      go_ret2
      rw [HR.out, HB.out]
      exact ⟨rfl, a4⟩
    · by_cases hm2 : m2 = m
      · by_cases hp2 : p2 = p
        · have HB := Lib.hid (show sm = true by rw [HSm.out, decide_eq_true hm2, decide_eq_true hp2]; rfl)
          have hm3 : (m2 == m) = true := by simpa using hm2
          have hp3 : (p2 == p) = true := by simpa using hp2
          clear HSm hm2 hp2
          go_wp2
          go_ret2
          rw [HR.out, HB.out]
          exact ⟨rfl, a4⟩
        · have HB := Lib.hid (show sm = false by rw [HSm.out, decide_eq_false hp2]; simp)
          have hm3 : (m2 == m) = true := by simpa using hm2
          have hp3 : (p2 == p) = false := by simpa using hp2
          clear HSm hm2 hp2
          go_wp2
          go_ret2
          rw [HR.out, HB.out]
          exact ⟨rfl, a4⟩
      · have HB := Lib.hid (show sm = false by rw [HSm.out, decide_eq_false hm2]; simp)
        have hm3 : (m2 == m) = false := by simpa using hm2
        clear HSm hm2
        go_wp2
        go_ret2
        rw [HR.out, HB.out]
        exact ⟨rfl, a4⟩
end Go.Proofs.YtoimhjcpeifegaaGreatDoor


/- How great the whole number of a pattern may be. -/
namespace Go.Proofs.YtoimhjcpeifegaaGreatDoor

theorem intV_bd {W : Nat} (hW : Wide W) (x : Int) : 0 ≤ intV W x ∧ intV W x < 4294967296 ^ (2 + 4097) := by
  have hM := pM_bd hW x
  have hE := pE_bd hW x
  unfold intV
  split
  · obtain ⟨-, -, s3, s4⟩ := shl_fits (pM W x) 2 (if 0 ≤ pE W x then pE W x else 0) hM.1 (Int.lt_of_lt_of_le hM.2 (by decide)) (by omega) (by split <;> omega)
    have e : (if 0 ≤ pE W x then pE W x else 0).toNat = (pE W x).toNat := by split <;> omega
    rw [e] at s3 s4
    exact ⟨s3, s4⟩
  · exact ⟨Int.le_refl _, Int.pow_pos (by omega)⟩
theorem intN_bd {W : Nat} (hW : Wide W) (x : Int) : ((intN W x).natAbs : Int) < 4294967296 ^ (2 + 4097) := by
  have h := intV_bd hW x
  have e : ((intN W x).natAbs : Int) = intV W x := by
    have h0 := h.1
    clear h
    unfold intN
    split <;> omega
  rw [e]
  exact h.2
end Go.Proofs.YtoimhjcpeifegaaGreatDoor


/- Printed by ieee2.py. -/
namespace Go.Proofs.YtoimhjcpeifegaaGreatDoor
open Go.RowKit

end Go.Proofs.YtoimhjcpeifegaaGreatDoor

