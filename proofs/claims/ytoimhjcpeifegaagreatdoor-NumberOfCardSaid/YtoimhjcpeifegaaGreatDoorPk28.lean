/- Contracts of functions, and plain facts, part 28. -/
import Derived.Test.YtoimhjcpeifegaaGreatDoorPk6
import Derived.Test.YtoimhjcpeifegaaGreatDoorPk10
import Derived.Test.YtoimhjcpeifegaaGreatDoorPk13
import Derived.Test.YtoimhjcpeifegaaGreatDoorPk14
import Derived.Test.YtoimhjcpeifegaaGreatDoorPk15
import Derived.Test.YtoimhjcpeifegaaGreatDoorPk18
import Derived.Test.YtoimhjcpeifegaaGreatDoorPk19
import Derived.Test.YtoimhjcpeifegaaGreatDoorPk20
import Derived.Test.YtoimhjcpeifegaaGreatDoorPk22
import Derived.Test.YtoimhjcpeifegaaGreatDoorPk25
set_option linter.unusedVariables false
set_option linter.unusedSimpArgs false
/- A pattern's number by its parts, and the middle between two beside each other: plain. -/
namespace Go.Proofs.YtoimhjcpeifegaaGreatDoor

def nbM (W : Nat) (z : Int) : Int := if z = infW W then pM W (z - 1) + 1 else pM W z
def nbE (W : Nat) (z : Int) : Int := if z = infW W then pE W (z - 1) else pE W z

theorem size_low {W : Nat} (z : Int) (h : z < sgnW W) : sizeW W z = z := by unfold sizeW; rw [if_neg (by omega)]

/-- The parts of a size below the infinite one. -/
theorem parts_num {W : Nat} (hW : Wide W) (z : Int) (h0 : 0 ≤ z) (h1 : z < infW W) :
    shL W ≤ pE W z ∧ pM W z * 2 ^ (pE W z - shL W).toNat = (numN (shF W) z.toNat : Nat) ∧ pOk W z = true ∧ (z = 0 → pM W z = 0) ∧ (0 < z → 0 < pM W z ∧ pM W z % 2 = 1) := by
  have hs := infN_lt hW
  have hI := infW_eq hW
  have e1 : sizeW W z = z := size_low z (by omega)
  have e2 : pOk W z = true := by unfold pOk; rw [e1]; exact decide_eq_true h1
  have hL : shL W ≤ 0 := by rcases hW with rfl | rfl | rfl <;> decide
  unfold pM pE
  rw [e2, e1]
  by_cases hz : z = 0
  · subst hz
    simp only [decide_true, Bool.not_true, Bool.and_false, Bool.false_eq_true, if_false]
    refine ⟨hL, ?_, trivial, fun _ => trivial, fun h => by omega⟩
    rw [Int.zero_mul, show (0 : Int).toNat = 0 from rfl, numN_zero]; rfl
  · have hpos : 0 < rawM W z := raw_pos z (by rw [e1]; omega)
    have hlt := raw_lt hW z
    obtain ⟨k1, k2, k3, k4, k5, k6⟩ := odd_spec (rawM W z) hpos (by omega)
    rw [decide_eq_false hz]
    simp only [Bool.not_false, Bool.and_true, if_true]
    have hE : rawE W z = shL W + (numP (shF W) z.toNat : Nat) := by unfold rawE; rw [e1]
    have hM : rawM W z = (numM (shF W) z.toNat : Nat) := by unfold rawM; rw [e1]
    refine ⟨by omega, ?_, trivial, fun h => absurd h hz, fun _ => ⟨k3, k2⟩⟩
    rw [hE, show (shL W + ((numP (shF W) z.toNat : Nat) : Int) + tzI (rawM W z) - shL W).toNat = (tzI (rawM W z)).toNat + numP (shF W) z.toNat by omega, Int.pow_add, ← Int.mul_assoc, ← k1, hM, numN_parts]
    simp

theorem inf_step {W : Nat} (hW : Wide W) : (pM W (infW W - 1) + 1) * 2 ^ (pE W (infW W - 1) - shL W).toNat = (numN (shF W) (infN W) : Nat) ∧ shL W ≤ pE W (infW W - 1) := by
  rw [numN_inf hW]
  rcases hW with rfl | rfl | rfl
  · rw [show pM 16 (infW 16 - 1) = 2047 by decide, show pE 16 (infW 16 - 1) = 5 by decide, show (2047 + 1 : Int) = 2 ^ 11 by decide, ← Int.pow_add, show 11 + ((5 : Int) - shL 16).toNat = topP 16 by decide]
    exact ⟨(pow_cast _).symm, by decide⟩
  · rw [show pM 32 (infW 32 - 1) = 16777215 by decide, show pE 32 (infW 32 - 1) = 104 by decide, show (16777215 + 1 : Int) = 2 ^ 24 by decide, ← Int.pow_add, show 24 + ((104 : Int) - shL 32).toNat = topP 32 by decide]
    exact ⟨(pow_cast _).symm, by decide⟩
  · rw [show pM 64 (infW 64 - 1) = 9007199254740991 by decide, show pE 64 (infW 64 - 1) = 971 by decide, show (9007199254740991 + 1 : Int) = 2 ^ 53 by decide, ← Int.pow_add, show 53 + ((971 : Int) - shL 64).toNat = topP 64 by decide]
    exact ⟨(pow_cast _).symm, by decide⟩

theorem nb_num {W : Nat} (hW : Wide W) (z : Int) (h0 : 0 ≤ z) (h1 : z ≤ infW W) :
    shL W ≤ nbE W z ∧ nbM W z * 2 ^ (nbE W z - shL W).toNat = (numN (shF W) z.toNat : Nat) ∧ nbE W z ≤ 2200 ∧ -1074 ≤ nbE W z ∧ 0 ≤ nbM W z ∧ nbM W z ≤ 9007199254740992 := by
  have hI := infW_eq hW
  have hp := infN_pos hW
  unfold nbM nbE
  by_cases hz : z = infW W
  · have b1 := pM_bd hW (z - 1)
    have b2 := pE_bd hW (z - 1)
    rw [if_pos hz, if_pos hz]
    have k := inf_step hW
    rw [← hz] at k
    rw [show z.toNat = infN W by omega]
    exact ⟨k.2, k.1, by omega, by omega, by omega, by omega⟩
  · have b1 := pM_bd hW z
    have b2 := pE_bd hW z
    rw [if_neg hz, if_neg hz]
    have k := parts_num hW z h0 (by omega)
    exact ⟨k.1, k.2.1, by omega, by omega, by omega, by omega⟩

def midE (W : Nat) (z : Int) : Int := min (nbE W z) (nbE W (z + 1))
def midS (W : Nat) (z : Int) : Int := nbM W z * 2 ^ (nbE W z - midE W z).toNat + nbM W (z + 1) * 2 ^ (nbE W (z + 1) - midE W z).toNat
/-- What middle answers. -/
def midC (W : Nat) (z M e : Int) : Int := cmp2 M e (midS W z) (midE W z - 1)

theorem midS_num {W : Nat} (hW : Wide W) (z : Int) (h0 : 0 ≤ z) (h1 : z < infW W) :
    shL W ≤ midE W z ∧ 0 ≤ midS W z ∧ midS W z * 2 ^ (midE W z - shL W).toNat = ((numN (shF W) z.toNat + numN (shF W) (z.toNat + 1) : Nat) : Int) := by
  obtain ⟨a1, a2, a3, a4, a5, a6⟩ := nb_num hW z h0 (by omega)
  obtain ⟨c1, c2, c3, c4, c5, c6⟩ := nb_num hW (z + 1) (by omega) (by omega)
  have hm : shL W ≤ midE W z ∧ midE W z ≤ nbE W z ∧ midE W z ≤ nbE W (z + 1) := by unfold midE; omega
  refine ⟨hm.1, ?_, ?_⟩
  · unfold midS
    exact Int.add_nonneg (Int.mul_nonneg a5 (Int.le_of_lt (Int.pow_pos (by omega)))) (Int.mul_nonneg c5 (Int.le_of_lt (Int.pow_pos (by omega))))
  · unfold midS
    rw [Int.add_mul, Int.mul_assoc, ← Int.pow_add, Int.mul_assoc, ← Int.pow_add, show (nbE W z - midE W z).toNat + (midE W z - shL W).toNat = (nbE W z - shL W).toNat by omega,
      show (nbE W (z + 1) - midE W z).toNat + (midE W z - shL W).toNat = (nbE W (z + 1) - shL W).toNat by omega, a2, c2, show (z + 1).toNat = z.toNat + 1 by omega]
    simp

theorem midC_sign {W : Nat} (hW : Wide W) (z M e : Int) (h0 : 0 ≤ z) (h1 : z < infW W) (hM : 0 ≤ M) :
    (0 < midC W z M e ↔ (numN (shF W) z.toNat + numN (shF W) (z.toNat + 1)) * rU (shL W) e < 2 * rX (shL W) e M.toNat) ∧ (midC W z M e = 0 ↔ (numN (shF W) z.toNat + numN (shF W) (z.toNat + 1)) * rU (shL W) e = 2 * rX (shL W) e M.toNat) := by
  obtain ⟨s1, s2, s3⟩ := midS_num hW z h0 h1
  obtain ⟨m, rfl⟩ := Int.eq_ofNat_of_zero_le hM
  rw [Int.toNat_natCast]
  unfold midC
  generalize midS W z = S at *
  generalize midE W z = k at *
  obtain ⟨s, rfl⟩ := Int.eq_ofNat_of_zero_le s2
  have e1 : s * 2 ^ (k - shL W).toNat = numN (shF W) z.toNat + numN (shF W) (z.toNat + 1) := by
    have : ((s * 2 ^ (k - shL W).toNat : Nat) : Int) = ((numN (shF W) z.toNat + numN (shF W) (z.toNat + 1) : Nat) : Int) := by rw [← s3]; simp
    omega
  rw [← e1, cmp2_gt, cmp2_eq]
  unfold rU rX
  rw [Nat.mul_assoc, ← Nat.pow_add, show 2 * (m * 2 ^ (e - shL W).toNat) = m * 2 ^ ((e - shL W).toNat + 1) by rw [Nat.pow_succ, Nat.mul_comm (2 ^ (e - shL W).toNat) 2, ← Nat.mul_assoc, ← Nat.mul_assoc, Nat.mul_comm 2]]
  have i1 := scale_le m s ((e - shL W).toNat + 1) ((k - shL W).toNat + (shL W - e).toNat) (e - (k - 1)).toNat (k - 1 - e).toNat (by omega)
  have i2 := scale_eq m s ((e - shL W).toNat + 1) ((k - shL W).toNat + (shL W - e).toNat) (e - (k - 1)).toNat (k - 1 - e).toNat (by omega)
  constructor
  · constructor <;> intro h <;> omega
  · constructor
    · intro h; exact (i2.2 h).symm
    · intro h; exact i2.1 h.symm

theorem times_lt (M : Int) (k b : Nat) (h : M ≤ 9007199254740992) (hk : k ≤ b) : M * 2 ^ k < 2 ^ (b + 54) := by
  have h1 : (0 : Int) < 2 ^ k := Int.pow_pos (by omega)
  have h2 : M * 2 ^ k < 2 ^ 54 * 2 ^ k := Int.mul_lt_mul_of_pos_right (by rw [show (2 : Int) ^ 54 = 18014398509481984 from by decide]; omega) h1
  rw [← Int.pow_add] at h2
  exact Int.lt_of_lt_of_le h2 (pow_le (by omega) (by omega))
theorem midS_lt {W : Nat} (hW : Wide W) (z : Int) (h0 : 0 ≤ z) (h1 : z < infW W) :
    nbM W z * 2 ^ (nbE W z - midE W z).toNat < 2 ^ 3600 ∧ nbM W (z + 1) * 2 ^ (nbE W (z + 1) - midE W z).toNat < 2 ^ 3600 ∧ midS W z < 2 ^ 3601 ∧ 0 ≤ nbM W z * 2 ^ (nbE W z - midE W z).toNat ∧ 0 ≤ nbM W (z + 1) * 2 ^ (nbE W (z + 1) - midE W z).toNat := by
  obtain ⟨a1, a2, a3, a4, a5, a6⟩ := nb_num hW z h0 (by omega)
  obtain ⟨c1, c2, c3, c4, c5, c6⟩ := nb_num hW (z + 1) (by omega) (by omega)
  have hm : -1074 ≤ midE W z ∧ midE W z ≤ nbE W z ∧ midE W z ≤ nbE W (z + 1) := by unfold midE; omega
  have k1 := times_lt (nbM W z) (nbE W z - midE W z).toNat 3546 a6 (by omega)
  have k2 := times_lt (nbM W (z + 1)) (nbE W (z + 1) - midE W z).toNat 3546 c6 (by omega)
  refine ⟨k1, k2, ?_, Int.mul_nonneg a5 (Int.le_of_lt (Int.pow_pos (by omega))), Int.mul_nonneg c5 (Int.le_of_lt (Int.pow_pos (by omega)))⟩
  unfold midS
  rw [show (3601 : Nat) = 3600 + 1 from rfl, Int.pow_succ]
  rw [show (3546 + 54 : Nat) = 3600 from rfl] at k1 k2
  generalize (2 : Int) ^ 3600 = P at *
  omega

/-- How the nearest one stands to the middles around it. -/
theorem near_mid {W : Nat} (hW : Wide W) (M e : Int) (hM : 0 ≤ M) (r : Int) (hr : r = (nearE W M.toNat e : Nat)) :
    (0 ≤ r ∧ r ≤ infW W) ∧ (r < infW W → midC W r M e < 0 ∨ (midC W r M e = 0 ∧ r % 2 = 0)) ∧ (0 < r → 0 < midC W (r - 1) M e ∨ (midC W (r - 1) M e = 0 ∧ r % 2 = 0)) := by
  have hI := infW_eq hW
  have hle := nearE_le W M.toNat e
  obtain ⟨k1, k2⟩ := near_middle M.toNat e (nearE W M.toNat e) rfl (W := W)
  generalize nearE W M.toNat e = n at *
  subst hr
  refine ⟨by omega, fun h => ?_, fun h => ?_⟩
  · obtain ⟨s1, s2⟩ := midC_sign hW (n : Int) M e (by omega) h hM
    rw [Int.toNat_natCast] at s1 s2
    have := k1 (by omega)
    omega
  · obtain ⟨s1, s2⟩ := midC_sign hW ((n : Int) - 1) M e (by omega) (by omega) hM
    rw [show ((n : Int) - 1).toNat = n - 1 by omega, show n - 1 + 1 = n by omega] at s1 s2
    have := k2 (by omega)
    omega
end Go.Proofs.YtoimhjcpeifegaaGreatDoor

/- Printed by ieee3.py. -/
namespace Go.Proofs.YtoimhjcpeifegaaGreatDoor
open Go.RowKit

theorem iint_Own (w : World) (hS : Shapes w) (hT : Tab w) (x : Int) (hx : 0 ≤ x ∧ x < 4294967296) : Calls Tryz.prog 106 #[.int .u32 x] w (RetIntB (intN 32 x) (intOk 32 x) w) := by
  have b0 : Below w.heap.size w (w.alloc (.cells #[.bool false, .slice none 0 0] 34)) := (Below.refl _ _).alloc (Nat.le_refl _) _
  have k0 : Cel (w.alloc (.cells #[.bool false, .slice none 0 0] 34)) w.heap.size 34 [.bool false, .slice none 0 0] := Cel.made _ _ _ _ rfl
  have HP := Lib.hid (parts_Own _ (hS.below b0 (Nat.le_refl _)) (hT.below b0 (Nat.le_refl _)) x hx)
  have hM := pM_bd (W := 32) (by unfold Wide; omega) x
  have hE := pE_bd (W := 32) (by unfold Wide; omega) x
  have H1 := Lib.hid (show intOk 32 x = (pOk 32 x && decide (0 ≤ pE 32 x)) from rfl)
  have H2 := Lib.hid (show intV 32 x = if intOk 32 x then pM 32 x * 2 ^ (pE 32 x).toNat else 0 from rfl)
  have H3 := Lib.hid (show intN 32 x = if pNeg 32 x then -intV 32 x else intV 32 x from rfl)
  generalize intOk 32 x = ok at *
  generalize intN 32 x = N at *
  generalize intV 32 x = V at *
  generalize pNeg 32 x = ng at *
  generalize pM 32 x = m at *
  generalize pE 32 x = p at *
  generalize pOk 32 x = fin at *
  cases fin
  · have HK := Lib.hid (show ok = false from H1.out)
    have HV := Lib.hid (show N = 0 by rw [H3.out, H2.out, HK.out]; cases ng <;> rfl)
    clear H1 H2 H3
    go_enter Tryz.func106, Tryz.ntmps106
    go_wp2_with fail
    refine (HP.out).mono ?_
    rintro e w1 ⟨rfl, b1⟩
    have k1 := k0.next b1
    have b2 := below_trans b0 b1
    have c0 := k1.cell 0 _ rfl
    have c1 := k1.cell 1 _ rfl
    have g0 := k1.free 0
    have g1 := k1.free 1
    go_wp2
    refine bodyPost_ret (results_row_tmp rfl _ _ w.heap.size 34 #[.bool false, .slice none 0 0] (0, 0) _ rfl ((k1.set 0 _).set 1 _).row Tryz.underlying34 rfl size_int) rfl ?_
    rw [HV.out, HK.out]
    refine ⟨none, 0, 0, rfl, ⟨Nat.le_refl _, by rw [show ((0 : Int).natAbs : Int) = 0 from rfl, dg_zero]; exact Rds.nil _ _ _⟩, ?_⟩
    exact below_set (below_set b2 _ _ _ (Nat.le_refl _)) _ _ _ (Nat.le_refl _)
  · by_cases hp0 : p < 0
    · have HK := Lib.hid (show ok = false by rw [H1.out, decide_eq_false (by omega)]; rfl)
      have HV := Lib.hid (show N = 0 by rw [H3.out, H2.out, HK.out]; cases ng <;> rfl)
      clear H1 H2 H3
      go_enter Tryz.func106, Tryz.ntmps106
      go_wp2_with fail
      refine (HP.out).mono ?_
      rintro e w1 ⟨rfl, b1⟩
      have k1 := k0.next b1
      have b2 := below_trans b0 b1
      have c0 := k1.cell 0 _ rfl
      have c1 := k1.cell 1 _ rfl
      have g0 := k1.free 0
      have g1 := k1.free 1
      go_wp2
      refine bodyPost_ret (results_row_tmp rfl _ _ w.heap.size 34 #[.bool false, .slice none 0 0] (0, 0) _ rfl ((k1.set 0 _).set 1 _).row Tryz.underlying34 rfl size_int) rfl ?_
      rw [HV.out, HK.out]
      refine ⟨none, 0, 0, rfl, ⟨Nat.le_refl _, by rw [show ((0 : Int).natAbs : Int) = 0 from rfl, dg_zero]; exact Rds.nil _ _ _⟩, ?_⟩
      exact below_set (below_set b2 _ _ _ (Nat.le_refl _)) _ _ _ (Nat.le_refl _)
    · have HK := Lib.hid (show ok = true by rw [H1.out, decide_eq_true (by omega)]; rfl)
      have HV := Lib.hid (show V = m * 2 ^ p.toNat by rw [H2.out, HK.out]; rfl)
      have HN := Lib.hid (show N = sI ng V from H3.out)
      obtain ⟨s1, s2, s3, s4⟩ := shl_fits m 2 p hM.1 (Int.lt_of_lt_of_le hM.2 (by decide)) (by omega) (by omega)
      rw [← HV.out] at s2 s3 s4
      have S := Lib.hid s4
      have S2 := Lib.hid s2
      have S1 := Lib.hid s1
      clear H1 H2 H3 s4 s2 s1
      go_enter Tryz.func106, Tryz.ntmps106
      go_wp2_with fail
      refine (HP.out).mono ?_
      rintro e w1 ⟨rfl, b1⟩
      have k1 := k0.next b1
      have b2 := below_trans b0 b1
      have F1 := Lib.hid ((from_calls m w1 hM.1 (by omega)).mono fun e w' q => q.can)
      go_wp2_with fail
      refine (F1.out).mono ?_
      rintro e w2 ⟨ad2, n2, d2, rfl, f2, b3⟩
      have l2 := f2.len_le 2 (Int.lt_of_lt_of_le hM.2 (by decide))
      have H := num_shl ad2 n2 d2 m p w2 (f2.num hM.1) (by omega) (by omega)
      rw [S1.out, S2.out] at H
      have F2 := Lib.hid H
      clear H
      go_wp2_with fail
      refine (F2.out).mono ?_
      rintro e w3 ⟨ad3, n3, d3, rfl, f3, b4⟩
      have l3 := f3.len_le _ S.out
      have F3 := Lib.hid (wnorm_calls ng ad3 n3 d3 V w3 (f3.num s3) (by omega))
      rw [← HN.out] at F3
      go_wp2_with fail
      refine (F3.out).mono ?_
      rintro e w4 ⟨ad4, n4, d4, rfl, f4, b5⟩
      have k4 := ((k1.next b3).next b4).next b5
      have b6 := below_trans b2 (below_trans b3 (below_trans b4 b5))
      have c0 := k4.cell 0 _ rfl
      have c1 := k4.cell 1 _ rfl
      have g0 := k4.free 0
      have g1 := k4.free 1
      go_wp2
      refine bodyPost_ret (results_row_tmp rfl _ _ w.heap.size 34 #[.bool (decide (N < 0)), .slice ad4 n4 d4] (0, 0) _ rfl ((k4.set 0 _).set 1 _).row Tryz.underlying34 rfl size_int) rfl ?_
      rw [HK.out]
      exact ⟨_, _, _, rfl, f4.poke2 k4 _ _, below_set (below_set b6 _ _ _ (Nat.le_refl _)) _ _ _ (Nat.le_refl _)⟩
end Go.Proofs.YtoimhjcpeifegaaGreatDoor

/- Printed by ieee3.py. -/
namespace Go.Proofs.YtoimhjcpeifegaaGreatDoor
open Go.RowKit

set_option maxRecDepth 20000 in
set_option maxHeartbeats 2000000 in
theorem to_64_Own (w : World) (hS : Shapes w) (hT : Tab w) (x : Int) (hx : 0 ≤ x ∧ x < 4294967296) : Calls Tryz.prog 107 #[.int .u32 x] w (fun e w' => e = .returned (.tuple #[.int .u64 (toW 64 32 x).1, .bool (toW 64 32 x).2]) ∧ Below w.heap.size w w') := by
  have nn := nan_cls 32 x
  have hfit := inf_fits (W := 64) (by unfold Wide; omega)
  have HT := Lib.hid (show toW 64 32 x = if isNaN 32 x then (nanW 64, true) else if sizeW 32 x = infW 32 then ((if negW 32 x then sgnW 64 else 0) + infW 64, true)
    else (roundW 64 (pNeg 32 x) (pM 32 x) (pE 32 x) false, sameW 64 32 x (roundW 64 (pNeg 32 x) (pM 32 x) (pE 32 x) false)) from rfl)
  have HO := Lib.hid (show pOk 32 x = decide (sizeW 32 x < infW 32) from rfl)
  have HN := Lib.hid (show isNaN 32 x = decide (infW 32 < sizeW 32 x) from rfl)
  have P1 := Lib.hid (parts_Own w hS hT x hx)
  have P2 := Lib.hid (fun (w : World) (hS : Shapes w) => class_Own w hS x hx)
  have P3 := Lib.hid (fun (w : World) (hS : Shapes w) => split_Own w hS x hx)
  have hm := pM_bd (W := 32) (by unfold Wide; omega) x
  have he := pE_bd (W := 32) (by unfold Wide; omega) x
  generalize clsW 32 x = cl at *
  generalize toW 64 32 x = R at *
  cases hf : pOk 32 x
  · rw [hf] at P1 HO
    have hge := of_decide_eq_false HO.out.symm
    cases hn : isNaN 32 x
    · rw [hn] at nn HN HT
      have hle := of_decide_eq_false HN.out.symm
      have HR := Lib.hid (show R = ((if negW 32 x then sgnW 64 else 0) + 9218868437227405312, true) by rw [HT.out, if_neg (by decide), if_pos (by omega), inf64])
      have HSg := Lib.hid (fun (w : World) (hS : Shapes w) => signed_64 w hS (negW 32 x) 9218868437227405312 (by omega))
      generalize (if negW 32 x then sgnW 64 else 0) = sg at *
      clear HT HO HN hf hn hge hle hfit hm he
      generalize negW 32 x = ng at *
      generalize sizeW 32 x = z at *
      go_enter Tryz.func107, Tryz.ntmps107
      have C1 := Lib.hid (P1.out)
      go_wp2_with fail
      refine (C1.out).mono ?_
      rintro e w1 ⟨rfl, b1⟩
      have C2 := Lib.hid (P2.out w1 (hS.below b1 (Nat.le_refl _)))
      go_wp2_with fail
      refine (C2.out).mono ?_
      rintro e w2 ⟨rfl, b2⟩
      have a2 := below_trans b1 b2
      have C3 := Lib.hid (P3.out w2 (hS.below a2 (Nat.le_refl _)))
      go_wp2_with fail
      refine (C3.out).mono ?_
      rintro e w3 ⟨rfl, b3⟩
      have a3 := below_trans a2 b3
      have C4 := Lib.hid (of_64 w3 (hS.below a3 (Nat.le_refl _)))
      go_wp2_with fail
      refine (C4.out).mono ?_
      rintro e w4 ⟨rfl, b4⟩
      have a4 := below_trans a3 b4
      have C5 := Lib.hid (shinf_64 w4)
      go_wp2_with fail
      refine (C5.out).mono ?_
      rintro e w5 ⟨rfl, b5⟩
      have a5 := below_trans a4 b5
      have C6 := Lib.hid (HSg.out w5 (hS.below a5 (Nat.le_refl _)))
      go_wp2_with fail
      refine (C6.out).mono ?_
      rintro e w6 ⟨rfl, b6⟩
      have a6 := below_trans a5 b6
      go_wp2
      go_ret2
      rw [HR.out]
      exact ⟨rfl, a6⟩
    · rw [hn] at nn HT
      have HR := Lib.hid (show R = (9221120237041090560, true) by rw [HT.out, if_pos rfl, nan64])
      clear HT HO HN hf hn hge hfit hm he
      go_enter Tryz.func107, Tryz.ntmps107
      have C1 := Lib.hid (P1.out)
      go_wp2_with fail
      refine (C1.out).mono ?_
      rintro e w1 ⟨rfl, b1⟩
      have C2 := Lib.hid (P2.out w1 (hS.below b1 (Nat.le_refl _)))
      go_wp2_with fail
      refine (C2.out).mono ?_
      rintro e w2 ⟨rfl, b2⟩
      have a2 := below_trans b1 b2
      have C3 := Lib.hid (of_64 w2 (hS.below a2 (Nat.le_refl _)))
      go_wp2_with fail
      refine (C3.out).mono ?_
      rintro e w3 ⟨rfl, b3⟩
      have a3 := below_trans a2 b3
      have C4 := Lib.hid (shnan_64 w3)
      go_wp2_with fail
      refine (C4.out).mono ?_
      rintro e w4 ⟨rfl, b4⟩
      have a4 := below_trans a3 b4
      go_wp2
      go_ret2
      rw [HR.out]
      exact ⟨rfl, a4⟩
  · rw [hf] at P1 HO
    have hlt := of_decide_eq_true HO.out.symm
    have hn : isNaN 32 x = false := by rw [HN.out]; exact decide_eq_false (by omega)
    have HR := Lib.hid (show R = (roundW 64 (pNeg 32 x) (pM 32 x) (pE 32 x) false, sameW 64 32 x (roundW 64 (pNeg 32 x) (pM 32 x) (pE 32 x) false)) by rw [HT.out, hn, if_neg (by decide), if_neg (by omega)])
    have hy := roundW_bd (W := 64) (by unfold Wide; omega) (pNeg 32 x) (pM 32 x) (pE 32 x) false
    rw [show (2 : Int) ^ 64 = 18446744073709551616 from by decide] at hy
    have HQ := Lib.hid (fun (w : World) (hS : Shapes w) (hT : Tab w) => parts_64 w hS hT (roundW 64 (pNeg 32 x) (pM 32 x) (pE 32 x) false) hy)
    have HRd := Lib.hid (fun (w : World) (hS : Shapes w) (ad : Option Addr) (n c : Nat) (h : Num w ad n c (pM 32 x)) (hn : n ≤ 2) => round_64 w hS (pNeg 32 x) ad n c (pM 32 x) (pE 32 x) false h (by omega) (by omega))
    have HSm := Lib.hid (show sameW 64 32 x (roundW 64 (pNeg 32 x) (pM 32 x) (pE 32 x) false) = (pOk 64 (roundW 64 (pNeg 32 x) (pM 32 x) (pE 32 x) false) && decide (pM 64 (roundW 64 (pNeg 32 x) (pM 32 x) (pE 32 x) false) = pM 32 x) && decide (pE 64 (roundW 64 (pNeg 32 x) (pM 32 x) (pE 32 x) false) = pE 32 x)) from rfl)
    clear HT HO HN hf hn hlt nn P2 P3 hfit
    generalize sameW 64 32 x (roundW 64 (pNeg 32 x) (pM 32 x) (pE 32 x) false) = sm at *
    generalize roundW 64 (pNeg 32 x) (pM 32 x) (pE 32 x) false = y at *
    generalize pM 32 x = m at *
    generalize pE 32 x = p at *
    generalize pNeg 32 x = ng at *
    generalize pM 64 y = m2 at *
    generalize pE 64 y = p2 at *
    generalize pOk 64 y = fin at *
    generalize pNeg 64 y = ng2 at *
    go_enter Tryz.func107, Tryz.ntmps107
    have C1 := Lib.hid (P1.out)
    go_wp2_with fail
    refine (C1.out).mono ?_
    rintro e w1 ⟨rfl, b1⟩
    have C2 := Lib.hid ((from_calls m w1 hm.1 (by omega)).mono fun e w' q => q.can)
    go_wp2_with fail
    refine (C2.out).mono ?_
    rintro e w2 ⟨ad2, n2, d2, rfl, f2, b2⟩
    have a2 := below_trans b1 b2
    have l2 := f2.len_le 2 (Int.lt_of_lt_of_le hm.2 (by decide))
    have C3 := Lib.hid (HRd.out w2 (hS.below a2 (Nat.le_refl _)) ad2 n2 d2 (f2.num hm.1) l2)
    go_wp2_with fail
    refine (C3.out).mono ?_
    rintro e w3 ⟨rfl, b3⟩
    have a3 := below_trans a2 b3
    have C4 := Lib.hid (HQ.out w3 (hS.below a3 (Nat.le_refl _)) (hT.below a3 (Nat.le_refl _)))
    go_wp2_with fail
    refine (C4.out).mono ?_
    rintro e w4 ⟨rfl, b4⟩
    have a4 := below_trans a3 b4
    cases fin
    · have HB := Lib.hid (show sm = false by rw [HSm.out]; rfl)
      go_wp2
      go_ret2
      rw [HR.out, HB.out]
      exact ⟨rfl, a4⟩
    · by_cases hm2 : m2 = m
      · by_cases hp2 : p2 = p
        · have HB := Lib.hid (show sm = true by rw [HSm.out, decide_eq_true hm2, decide_eq_true hp2]; rfl)
          have hm3 : (m2 == m) = true := by simpa using hm2
          have hp3 : (p2 == p) = true := by simpa using hp2
          clear HSm hm2 hp2
          go_wp2
          go_ret2
          rw [HR.out, HB.out]
          exact ⟨rfl, a4⟩
        · have HB := Lib.hid (show sm = false by rw [HSm.out, decide_eq_false hp2]; simp)
          have hm3 : (m2 == m) = true := by simpa using hm2
          have hp3 : (p2 == p) = false := by simpa using hp2
          clear HSm hm2 hp2
          go_wp2
          go_ret2
          rw [HR.out, HB.out]
          exact ⟨rfl, a4⟩
      · have HB := Lib.hid (show sm = false by rw [HSm.out, decide_eq_false hm2]; simp)
        have hm3 : (m2 == m) = false := by simpa using hm2
        clear HSm hm2
        go_wp2
        go_ret2
        rw [HR.out, HB.out]
        exact ⟨rfl, a4⟩
end Go.Proofs.YtoimhjcpeifegaaGreatDoor

/- Printed by ieee3.py. -/
namespace Go.Proofs.YtoimhjcpeifegaaGreatDoor
open Go.RowKit

theorem rint_calls (W : Nat) (hW : Wide W) (x : Int) (hx : 0 ≤ x ∧ x < 18446744073709551616) (w : World) : Calls Tryz.prog 108 #[.int .i64 W, .int .u64 x] w (RetIntB (intN W x) (intOk W x) w) := by
  have b0 : Below w.heap.size w (w.alloc (.cells #[.bool false, .slice none 0 0] 34)) := (Below.refl _ _).alloc (Nat.le_refl _) _
  have k0 : Cel (w.alloc (.cells #[.bool false, .slice none 0 0] 34)) w.heap.size 34 [.bool false, .slice none 0 0] := Cel.made _ _ _ _ rfl
  have HP := Lib.hid (rparts_calls W hW x hx (w.alloc (.cells #[.bool false, .slice none 0 0] 34)))
  have hM := pM_bd hW x
  have hE := pE_bd hW x
  have H1 := Lib.hid (show intOk W x = (pOk W x && decide (0 ≤ pE W x)) from rfl)
  have H2 := Lib.hid (show intV W x = if intOk W x then pM W x * 2 ^ (pE W x).toNat else 0 from rfl)
  have H3 := Lib.hid (show intN W x = if pNeg W x then -intV W x else intV W x from rfl)
  generalize intOk W x = ok at *
  generalize intN W x = N at *
  generalize intV W x = V at *
  generalize pNeg W x = ng at *
  generalize pM W x = m at *
  generalize pE W x = p at *
  generalize pOk W x = fin at *
  clear hW hx
  cases fin
  · have HK := Lib.hid (show ok = false from H1.out)
    have HV := Lib.hid (show N = 0 by rw [H3.out, H2.out, HK.out]; cases ng <;> rfl)
    clear H1 H2 H3
    go_enter Tryz.func108, Tryz.ntmps108
    go_wp2_with fail
    refine (HP.out).mono ?_
    rintro e w1 ⟨rfl, b1⟩
    have k1 := k0.next b1
    have b2 := below_trans b0 b1
    have c0 := k1.cell 0 _ rfl
    have c1 := k1.cell 1 _ rfl
    have g0 := k1.free 0
    have g1 := k1.free 1
    go_wp2
    refine bodyPost_ret (results_row_tmp rfl _ _ w.heap.size 34 #[.bool false, .slice none 0 0] (0, 0) _ rfl ((k1.set 0 _).set 1 _).row Tryz.underlying34 rfl size_int) rfl ?_
    rw [HV.out, HK.out]
    refine ⟨none, 0, 0, rfl, ⟨Nat.le_refl _, by rw [show ((0 : Int).natAbs : Int) = 0 from rfl, dg_zero]; exact Rds.nil _ _ _⟩, ?_⟩
    exact below_set (below_set b2 _ _ _ (Nat.le_refl _)) _ _ _ (Nat.le_refl _)
  · by_cases hp0 : p < 0
    · have HK := Lib.hid (show ok = false by rw [H1.out, decide_eq_false (by omega)]; rfl)
      have HV := Lib.hid (show N = 0 by rw [H3.out, H2.out, HK.out]; cases ng <;> rfl)
      clear H1 H2 H3
      go_enter Tryz.func108, Tryz.ntmps108
      go_wp2_with fail
      refine (HP.out).mono ?_
      rintro e w1 ⟨rfl, b1⟩
      have k1 := k0.next b1
      have b2 := below_trans b0 b1
      have c0 := k1.cell 0 _ rfl
      have c1 := k1.cell 1 _ rfl
      have g0 := k1.free 0
      have g1 := k1.free 1
      go_wp2
      refine bodyPost_ret (results_row_tmp rfl _ _ w.heap.size 34 #[.bool false, .slice none 0 0] (0, 0) _ rfl ((k1.set 0 _).set 1 _).row Tryz.underlying34 rfl size_int) rfl ?_
      rw [HV.out, HK.out]
      refine ⟨none, 0, 0, rfl, ⟨Nat.le_refl _, by rw [show ((0 : Int).natAbs : Int) = 0 from rfl, dg_zero]; exact Rds.nil _ _ _⟩, ?_⟩
      exact below_set (below_set b2 _ _ _ (Nat.le_refl _)) _ _ _ (Nat.le_refl _)
    · have HK := Lib.hid (show ok = true by rw [H1.out, decide_eq_true (by omega)]; rfl)
      have HV := Lib.hid (show V = m * 2 ^ p.toNat by rw [H2.out, HK.out]; rfl)
      have HN := Lib.hid (show N = sI ng V from H3.out)
      obtain ⟨s1, s2, s3, s4⟩ := shl_fits m 2 p hM.1 (Int.lt_of_lt_of_le hM.2 (by decide)) (by omega) (by omega)
      rw [← HV.out] at s2 s3
      have S2 := Lib.hid s2
      have S1 := Lib.hid s1
      have HA := Lib.hid (show ((N.natAbs : Nat) : Int) = V by rw [HN.out]; exact sI_abs ng V s3)
      have HNg := Lib.hid (show decide (N < 0) = (ng && decide (0 < m)) by
        rw [HN.out, sI_neg ng V s3]
        congr 1
        rw [Bool.eq_iff_iff]
        simp only [decide_eq_true_eq]
        have hp : (0 : Int) < 2 ^ p.toNat := Int.pow_pos (by omega)
        rw [HV.out]
        constructor
        · intro h
          rcases Int.lt_or_eq_of_le hM.1 with h1 | h1
          · exact h1
          · rw [← h1, Int.zero_mul] at h; omega
        · intro h; exact Int.mul_pos h hp)
      clear H1 H2 H3 s4 s2 s1
      go_enter Tryz.func108, Tryz.ntmps108
      go_wp2_with fail
      refine (HP.out).mono ?_
      rintro e w1 ⟨rfl, b1⟩
      have k1 := k0.next b1
      have b2 := below_trans b0 b1
      have F1 := Lib.hid ((rfrom_calls m w1 hM.1 (by omega)).mono fun e w' q => q.can)
      go_wp2_with fail
      refine (F1.out).mono ?_
      rintro e w2 ⟨ad2, n2, d2, rfl, f2, b3⟩
      have l2 := f2.len_le 2 (Int.lt_of_lt_of_le hM.2 (by decide))
      have H := num_rshl ad2 n2 d2 m p w2 (f2.num hM.1) (by omega) (by omega)
      rw [S1.out, S2.out] at H
      have F2 := Lib.hid H
      clear H
      go_wp2_with fail
      refine (F2.out).mono ?_
      rintro e w3 ⟨ad3, n3, d3, rfl, f3, b4⟩
      have k3 := (k1.next b3).next b4
      have b6 := below_trans b2 (below_trans b3 b4)
      have c0 := k3.cell 0 _ rfl
      have c1 := k3.cell 1 _ rfl
      have g0 := k3.free 0
      have g1 := k3.free 1
      obtain ⟨nb, hnb⟩ : ∃ nb, nb = decide (N < 0) := ⟨_, rfl⟩
      have HB := Lib.hid hnb
      clear hnb
      cases ng
      · skip
        have HE := Lib.hid (show nb = false by rw [HB.out, HNg.out]; simp)
        go_wp2
        refine bodyPost_ret (results_row_tmp rfl _ _ w.heap.size 34 #[.bool false, .slice ad3 n3 d3] (0, 0) _ rfl ((k3.set 0 _).set 1 _).row Tryz.underlying34 rfl size_int) rfl ?_
        rw [HK.out]
        refine ⟨ad3, n3, d3, by rw [← HB.out, HE.out]; rfl, ?_, below_set (below_set b6 _ _ _ (Nat.le_refl _)) _ _ _ (Nat.le_refl _)⟩
        rw [HA.out]
        exact f3.poke2 k3 _ _
      · skip
        have HE := Lib.hid (show nb = decide (0 < m) by rw [HB.out, HNg.out]; simp)
        go_wp2
        refine bodyPost_ret (results_row_tmp rfl _ _ w.heap.size 34 #[.bool (decide (0 < m)), .slice ad3 n3 d3] (0, 0) _ rfl ((k3.set 0 _).set 1 _).row Tryz.underlying34 rfl size_int) rfl ?_
        rw [HK.out]
        refine ⟨ad3, n3, d3, by rw [← HB.out, HE.out]; rfl, ?_, below_set (below_set b6 _ _ _ (Nat.le_refl _)) _ _ _ (Nat.le_refl _)⟩
        rw [HA.out]
        exact f3.poke2 k3 _ _
end Go.Proofs.YtoimhjcpeifegaaGreatDoor
