/- Contracts of functions, and plain facts, part 31. -/
import Derived.IntWalk
import Derived.Test.YtmnabilgpndjmaaDoorPk3
import Derived.Test.YtmnabilgpndjmaaDoorPk5
import Derived.Test.YtmnabilgpndjmaaDoorPk7
import Derived.Test.YtmnabilgpndjmaaDoorPk8
import Derived.Test.YtmnabilgpndjmaaDoorPk12
import Derived.Test.YtmnabilgpndjmaaDoorPk16
import Derived.Test.YtmnabilgpndjmaaDoorPk25
import Derived.Test.YtmnabilgpndjmaaDoorPk29
set_option linter.unusedVariables false
set_option linter.unusedSimpArgs false
/- A pattern's number by its parts, and the middle between two beside each other: plain. -/
namespace Go.Proofs.YtmnabilgpndjmaaDoor

def nbM (W : Nat) (z : Int) : Int := if z = infW W then pM W (z - 1) + 1 else pM W z
def nbE (W : Nat) (z : Int) : Int := if z = infW W then pE W (z - 1) else pE W z

theorem size_low {W : Nat} (z : Int) (h : z < sgnW W) : sizeW W z = z := by unfold sizeW; rw [if_neg (by omega)]

/-- The parts of a size below the infinite one. -/
theorem parts_num {W : Nat} (hW : Wide W) (z : Int) (h0 : 0 ≤ z) (h1 : z < infW W) :
    shL W ≤ pE W z ∧ pM W z * 2 ^ (pE W z - shL W).toNat = (numN (shF W) z.toNat : Nat) ∧ pOk W z = true ∧ (z = 0 → pM W z = 0) ∧ (0 < z → 0 < pM W z ∧ pM W z % 2 = 1) := by
  have hs := infN_lt hW
  have hI := infW_eq hW
  have e1 : sizeW W z = z := size_low z (by omega)
  have e2 : pOk W z = true := by unfold pOk; rw [e1]; exact decide_eq_true h1
  have hL : shL W ≤ 0 := by rcases hW with rfl | rfl | rfl <;> decide
  unfold pM pE
  rw [e2, e1]
  by_cases hz : z = 0
  · subst hz
    simp only [decide_true, Bool.not_true, Bool.and_false, Bool.false_eq_true, if_false]
    refine ⟨hL, ?_, trivial, fun _ => trivial, fun h => by omega⟩
    rw [Int.zero_mul, show (0 : Int).toNat = 0 from rfl, numN_zero]; rfl
  · have hpos : 0 < rawM W z := raw_pos z (by rw [e1]; omega)
    have hlt := raw_lt hW z
    obtain ⟨k1, k2, k3, k4, k5, k6⟩ := odd_spec (rawM W z) hpos (by omega)
    rw [decide_eq_false hz]
    simp only [Bool.not_false, Bool.and_true, if_true]
    have hE : rawE W z = shL W + (numP (shF W) z.toNat : Nat) := by unfold rawE; rw [e1]
    have hM : rawM W z = (numM (shF W) z.toNat : Nat) := by unfold rawM; rw [e1]
    refine ⟨by omega, ?_, trivial, fun h => absurd h hz, fun _ => ⟨k3, k2⟩⟩
    rw [hE, show (shL W + ((numP (shF W) z.toNat : Nat) : Int) + tzI (rawM W z) - shL W).toNat = (tzI (rawM W z)).toNat + numP (shF W) z.toNat by omega, Int.pow_add, ← Int.mul_assoc, ← k1, hM, numN_parts]
    simp

theorem inf_step {W : Nat} (hW : Wide W) : (pM W (infW W - 1) + 1) * 2 ^ (pE W (infW W - 1) - shL W).toNat = (numN (shF W) (infN W) : Nat) ∧ shL W ≤ pE W (infW W - 1) := by
  rw [numN_inf hW]
  rcases hW with rfl | rfl | rfl
  · rw [show pM 16 (infW 16 - 1) = 2047 by decide, show pE 16 (infW 16 - 1) = 5 by decide, show (2047 + 1 : Int) = 2 ^ 11 by decide, ← Int.pow_add, show 11 + ((5 : Int) - shL 16).toNat = topP 16 by decide]
    exact ⟨(pow_cast _).symm, by decide⟩
  · rw [show pM 32 (infW 32 - 1) = 16777215 by decide, show pE 32 (infW 32 - 1) = 104 by decide, show (16777215 + 1 : Int) = 2 ^ 24 by decide, ← Int.pow_add, show 24 + ((104 : Int) - shL 32).toNat = topP 32 by decide]
    exact ⟨(pow_cast _).symm, by decide⟩
  · rw [show pM 64 (infW 64 - 1) = 9007199254740991 by decide, show pE 64 (infW 64 - 1) = 971 by decide, show (9007199254740991 + 1 : Int) = 2 ^ 53 by decide, ← Int.pow_add, show 53 + ((971 : Int) - shL 64).toNat = topP 64 by decide]
    exact ⟨(pow_cast _).symm, by decide⟩

theorem nb_num {W : Nat} (hW : Wide W) (z : Int) (h0 : 0 ≤ z) (h1 : z ≤ infW W) :
    shL W ≤ nbE W z ∧ nbM W z * 2 ^ (nbE W z - shL W).toNat = (numN (shF W) z.toNat : Nat) ∧ nbE W z ≤ 2200 ∧ -1074 ≤ nbE W z ∧ 0 ≤ nbM W z ∧ nbM W z ≤ 9007199254740992 := by
  have hI := infW_eq hW
  have hp := infN_pos hW
  unfold nbM nbE
  by_cases hz : z = infW W
  · have b1 := pM_bd hW (z - 1)
    have b2 := pE_bd hW (z - 1)
    rw [if_pos hz, if_pos hz]
    have k := inf_step hW
    rw [← hz] at k
    rw [show z.toNat = infN W by omega]
    exact ⟨k.2, k.1, by omega, by omega, by omega, by omega⟩
  · have b1 := pM_bd hW z
    have b2 := pE_bd hW z
    rw [if_neg hz, if_neg hz]
    have k := parts_num hW z h0 (by omega)
    exact ⟨k.1, k.2.1, by omega, by omega, by omega, by omega⟩

def midE (W : Nat) (z : Int) : Int := min (nbE W z) (nbE W (z + 1))
def midS (W : Nat) (z : Int) : Int := nbM W z * 2 ^ (nbE W z - midE W z).toNat + nbM W (z + 1) * 2 ^ (nbE W (z + 1) - midE W z).toNat
/-- What middle answers. -/
def midC (W : Nat) (z M e : Int) : Int := cmp2 M e (midS W z) (midE W z - 1)

theorem midS_num {W : Nat} (hW : Wide W) (z : Int) (h0 : 0 ≤ z) (h1 : z < infW W) :
    shL W ≤ midE W z ∧ 0 ≤ midS W z ∧ midS W z * 2 ^ (midE W z - shL W).toNat = ((numN (shF W) z.toNat + numN (shF W) (z.toNat + 1) : Nat) : Int) := by
  obtain ⟨a1, a2, a3, a4, a5, a6⟩ := nb_num hW z h0 (by omega)
  obtain ⟨c1, c2, c3, c4, c5, c6⟩ := nb_num hW (z + 1) (by omega) (by omega)
  have hm : shL W ≤ midE W z ∧ midE W z ≤ nbE W z ∧ midE W z ≤ nbE W (z + 1) := by unfold midE; omega
  refine ⟨hm.1, ?_, ?_⟩
  · unfold midS
    exact Int.add_nonneg (Int.mul_nonneg a5 (Int.le_of_lt (Int.pow_pos (by omega)))) (Int.mul_nonneg c5 (Int.le_of_lt (Int.pow_pos (by omega))))
  · unfold midS
    rw [Int.add_mul, Int.mul_assoc, ← Int.pow_add, Int.mul_assoc, ← Int.pow_add, show (nbE W z - midE W z).toNat + (midE W z - shL W).toNat = (nbE W z - shL W).toNat by omega,
      show (nbE W (z + 1) - midE W z).toNat + (midE W z - shL W).toNat = (nbE W (z + 1) - shL W).toNat by omega, a2, c2, show (z + 1).toNat = z.toNat + 1 by omega]
    simp

theorem midC_sign {W : Nat} (hW : Wide W) (z M e : Int) (h0 : 0 ≤ z) (h1 : z < infW W) (hM : 0 ≤ M) :
    (0 < midC W z M e ↔ (numN (shF W) z.toNat + numN (shF W) (z.toNat + 1)) * rU (shL W) e < 2 * rX (shL W) e M.toNat) ∧ (midC W z M e = 0 ↔ (numN (shF W) z.toNat + numN (shF W) (z.toNat + 1)) * rU (shL W) e = 2 * rX (shL W) e M.toNat) := by
  obtain ⟨s1, s2, s3⟩ := midS_num hW z h0 h1
  obtain ⟨m, rfl⟩ := Int.eq_ofNat_of_zero_le hM
  rw [Int.toNat_natCast]
  unfold midC
  generalize midS W z = S at *
  generalize midE W z = k at *
  obtain ⟨s, rfl⟩ := Int.eq_ofNat_of_zero_le s2
  have e1 : s * 2 ^ (k - shL W).toNat = numN (shF W) z.toNat + numN (shF W) (z.toNat + 1) := by
    have : ((s * 2 ^ (k - shL W).toNat : Nat) : Int) = ((numN (shF W) z.toNat + numN (shF W) (z.toNat + 1) : Nat) : Int) := by rw [← s3]; simp
    omega
  rw [← e1, cmp2_gt, cmp2_eq]
  unfold rU rX
  rw [Nat.mul_assoc, ← Nat.pow_add, show 2 * (m * 2 ^ (e - shL W).toNat) = m * 2 ^ ((e - shL W).toNat + 1) by rw [Nat.pow_succ, Nat.mul_comm (2 ^ (e - shL W).toNat) 2, ← Nat.mul_assoc, ← Nat.mul_assoc, Nat.mul_comm 2]]
  have i1 := scale_le m s ((e - shL W).toNat + 1) ((k - shL W).toNat + (shL W - e).toNat) (e - (k - 1)).toNat (k - 1 - e).toNat (by omega)
  have i2 := scale_eq m s ((e - shL W).toNat + 1) ((k - shL W).toNat + (shL W - e).toNat) (e - (k - 1)).toNat (k - 1 - e).toNat (by omega)
  constructor
  · constructor <;> intro h <;> omega
  · constructor
    · intro h; exact (i2.2 h).symm
    · intro h; exact i2.1 h.symm

theorem times_lt (M : Int) (k b : Nat) (h : M ≤ 9007199254740992) (hk : k ≤ b) : M * 2 ^ k < 2 ^ (b + 54) := by
  have h1 : (0 : Int) < 2 ^ k := Int.pow_pos (by omega)
  have h2 : M * 2 ^ k < 2 ^ 54 * 2 ^ k := Int.mul_lt_mul_of_pos_right (by rw [show (2 : Int) ^ 54 = 18014398509481984 from by decide]; omega) h1
  rw [← Int.pow_add] at h2
  exact Int.lt_of_lt_of_le h2 (pow_le (by omega) (by omega))
theorem midS_lt {W : Nat} (hW : Wide W) (z : Int) (h0 : 0 ≤ z) (h1 : z < infW W) :
    nbM W z * 2 ^ (nbE W z - midE W z).toNat < 2 ^ 3600 ∧ nbM W (z + 1) * 2 ^ (nbE W (z + 1) - midE W z).toNat < 2 ^ 3600 ∧ midS W z < 2 ^ 3601 ∧ 0 ≤ nbM W z * 2 ^ (nbE W z - midE W z).toNat ∧ 0 ≤ nbM W (z + 1) * 2 ^ (nbE W (z + 1) - midE W z).toNat := by
  obtain ⟨a1, a2, a3, a4, a5, a6⟩ := nb_num hW z h0 (by omega)
  obtain ⟨c1, c2, c3, c4, c5, c6⟩ := nb_num hW (z + 1) (by omega) (by omega)
  have hm : -1074 ≤ midE W z ∧ midE W z ≤ nbE W z ∧ midE W z ≤ nbE W (z + 1) := by unfold midE; omega
  have k1 := times_lt (nbM W z) (nbE W z - midE W z).toNat 3546 a6 (by omega)
  have k2 := times_lt (nbM W (z + 1)) (nbE W (z + 1) - midE W z).toNat 3546 c6 (by omega)
  refine ⟨k1, k2, ?_, Int.mul_nonneg a5 (Int.le_of_lt (Int.pow_pos (by omega))), Int.mul_nonneg c5 (Int.le_of_lt (Int.pow_pos (by omega)))⟩
  unfold midS
  rw [show (3601 : Nat) = 3600 + 1 from rfl, Int.pow_succ]
  rw [show (3546 + 54 : Nat) = 3600 from rfl] at k1 k2
  generalize (2 : Int) ^ 3600 = P at *
  omega

/-- How the nearest one stands to the middles around it. -/
theorem near_mid {W : Nat} (hW : Wide W) (M e : Int) (hM : 0 ≤ M) (r : Int) (hr : r = (nearE W M.toNat e : Nat)) :
    (0 ≤ r ∧ r ≤ infW W) ∧ (r < infW W → midC W r M e < 0 ∨ (midC W r M e = 0 ∧ r % 2 = 0)) ∧ (0 < r → 0 < midC W (r - 1) M e ∨ (midC W (r - 1) M e = 0 ∧ r % 2 = 0)) := by
  have hI := infW_eq hW
  have hle := nearE_le W M.toNat e
  obtain ⟨k1, k2⟩ := near_middle M.toNat e (nearE W M.toNat e) rfl (W := W)
  generalize nearE W M.toNat e = n at *
  subst hr
  refine ⟨by omega, fun h => ?_, fun h => ?_⟩
  · obtain ⟨s1, s2⟩ := midC_sign hW (n : Int) M e (by omega) h hM
    rw [Int.toNat_natCast] at s1 s2
    have := k1 (by omega)
    omega
  · obtain ⟨s1, s2⟩ := midC_sign hW ((n : Int) - 1) M e (by omega) (by omega) hM
    rw [show ((n : Int) - 1).toNat = n - 1 by omega, show n - 1 + 1 = n by omega] at s1 s2
    have := k2 (by omega)
    omega
end Go.Proofs.YtmnabilgpndjmaaDoor

/- Printed by law4.py. -/
namespace Go.Proofs.YtmnabilgpndjmaaDoor
open Go.RowKit

theorem lscaled_calls (ad : Option Addr) (n c : Nat) (V r : Int) (w : World) (h : Num w ad n c V) (hV : V < 4294967296 ^ 4096) (hr : 0 ≤ r ∧ r ≤ 32 * 4096) (hn : n ≤ 1000000) :
    Calls Tryd.prog 41 #[.slice ad n c, .int .i64 r] w (RetC (V * 2 ^ r.toNat) w) := by
  obtain ⟨s1, s2, s3, s4⟩ := shl_fits V 4096 r h.nonneg hV (by omega) hr
  have H := num_shl ad n c V r w h (by omega) (by omega)
  rw [s1, s2] at H
  have H1 := Lib.hid H
  generalize V * 2 ^ r.toNat = U at *
  clear H s1 s2 s4 hV
  go_enter Tryd.func41, Tryd.ntmps41
  go_wp2_with fail
  refine (H1.out).mono ?_
  rintro e w1 ⟨ad1, n1, c1, rfl, f1, b1⟩
  go_wp2
  go_ret
  exact ⟨_, _, _, rfl, f1, b1⟩

theorem lagainst_calls (ad bd : Option Addr) (n m c d : Nat) (A B p q : Int) (w : World) (ha : Num w ad n c A) (hb : Num w bd m d B) (lA : A < 4294967296 ^ 4096) (lB : B < 4294967296 ^ 4096)
    (hn : n ≤ 1000000) (hm : m ≤ 1000000) (hp : -65536 ≤ p ∧ p ≤ 65536) (hq : -65536 ≤ q ∧ q ≤ 65536) :
    Calls Tryd.prog 103 #[.slice ad n c, .int .i64 p, .slice bd m d, .int .i64 q] w (RetIB (cmp2 A p B q) w) := by
  obtain ⟨lo, hlo⟩ : ∃ lo, min p q = lo := ⟨_, rfl⟩
  have h1 : lo ≤ p := by omega
  have h2 : lo ≤ q := by omega
  have h3 : -65536 ≤ lo := by omega
  have e1 : (p - lo).toNat = (p - q).toNat := by omega
  have e2 : (q - lo).toNat = (q - p).toNat := by omega
  obtain ⟨-, -, s3, s4⟩ := shl_fits A 4096 (p - lo) ha.nonneg lA (by omega) (by omega)
  obtain ⟨-, -, u3, u4⟩ := shl_fits B 4096 (q - lo) hb.nonneg lB (by omega) (by omega)
  have HA := Lib.hid (lscaled_calls ad n c A (p - lo) w ha lA (by omega) hn)
  have HB := Lib.hid (fun (w : World) (hb : Num w bd m d B) => lscaled_calls bd m d B (q - lo) w hb lB (by omega) hm)
  have HC := Lib.hid (show cmp2 A p B q = cmpI (A * 2 ^ (p - lo).toNat) (B * 2 ^ (q - lo).toNat) by rw [e1, e2]; rfl)
  generalize cmp2 A p B q = C at *
  generalize A * 2 ^ (p - lo).toNat = A2 at *
  generalize B * 2 ^ (q - lo).toNat = B2 at *
  have S1 := Lib.hid s4
  have S2 := Lib.hid u4
  have W1 : IntKind.i64.wrap (p - lo) = p - lo := IntWalk.i64_in _ (by omega)
  have W2 : IntKind.i64.wrap (q - lo) = q - lo := IntWalk.i64_in _ (by omega)
  clear lA lB s4 u4 e1 e2
  go_enter Tryd.func103, Tryd.ntmps103
  go_wp2_with fail
  refine (HA.out).mono ?_
  rintro e w1 ⟨ad1, n1, c1, rfl, f1, b1⟩
  have l1 := f1.len_le _ S1.out
  have HB1 := Lib.hid (HB.out w1 (hb.below b1 (Nat.le_refl _)))
  go_wp2_with fail
  refine (HB1.out).mono ?_
  rintro e w2 ⟨ad2, n2, c2, rfl, f2, b2⟩
  have l2 := f2.len_le _ S2.out
  have H3 := Lib.hid (num_cmp ad1 ad2 n1 n2 c1 c2 A2 B2 w2 ((f1.num s3).below b2 (Nat.le_refl _)) (f2.num u3) (by omega) (by omega))
  go_wp2_with fail
  refine (H3.out).mono ?_
  rintro e w' ⟨rfl, q2, rfl⟩
  go_wp2
  go_ret
  rw [HC.out]
  exact ⟨rfl, below_drewN (below_trans b1 b2) _⟩

/-- A number and a power of 2 are told. -/
def RetCE (V p : Int) (w : World) (e : Ending) (w' : World) : Prop :=
  ∃ ad n c, e = .returned (.tuple #[.slice ad n c, .int .i64 p]) ∧ Can w' ad n c V ∧ Below w.heap.size w w'

theorem lnumber_calls (k0 : Int) (hk : 0 ≤ k0 ∧ k0 < 256) (z : Int) (hz : 0 ≤ z ∧ z ≤ infW (wd k0)) (w : World) (hS : Shapes w) (hT : Tab w) :
    Calls Tryd.prog 102 #[.int .u8 k0, .int .u64 z] w (RetCE (nbM (wd k0) z) (nbE (wd k0) z) w) := by
  have HTop := Lib.hid (ltop_calls k0 hk)
  have hfit := inf_fits (wide_wd k0)
  have hpw := pow_wide (wide_wd k0)
  have HP := Lib.hid (fun (w : World) (hS : Shapes w) (hT : Tab w) (x : Int) (hx : 0 ≤ x ∧ x < 2 ^ wd k0) => lparts_calls k0 hk w hS hT x hx)
  have HD1 := Lib.hid (show nbM (wd k0) z = if z = infW (wd k0) then pM (wd k0) (z - 1) + 1 else pM (wd k0) z from rfl)
  have HD2 := Lib.hid (show nbE (wd k0) z = if z = infW (wd k0) then pE (wd k0) (z - 1) else pE (wd k0) z from rfl)
  by_cases hzI : z = infW (wd k0)
  · have hm := pM_bd (wide_wd k0) (z - 1)
    have K := Lib.hid (HP.out w hS hT (z - 1) (by omega))
    have E1 := Lib.hid (show nbM (wd k0) z = pM (wd k0) (z - 1) + 1 by rw [HD1.out, if_pos hzI])
    have E2 := Lib.hid (show nbE (wd k0) z = pE (wd k0) (z - 1) by rw [HD2.out, if_pos hzI])
    have hz2 : (z == infW (wd k0)) = true := by simpa using hzI
    have W1 : IntKind.u64.wrap (z - 1) = z - 1 := by rw [IntKind.wrap_u64]; omega
    have W2 : (z - 1) % 18446744073709551616 = z - 1 := by omega
    clear HD1 HD2 HP hzI
    generalize nbM (wd k0) z = M at *
    generalize nbE (wd k0) z = P at *
    generalize pM (wd k0) (z - 1) = m at *
    generalize pE (wd k0) (z - 1) = p at *
    generalize pNeg (wd k0) (z - 1) = ng at *
    generalize pOk (wd k0) (z - 1) = ok at *
    have W3 : IntKind.u64.wrap (m + 1) = m + 1 := by rw [IntKind.wrap_u64]; omega
    have W4 : (m + 1) % 18446744073709551616 = m + 1 := by omega
    generalize infW (wd k0) = I at *
    go_enter Tryd.func102, Tryd.ntmps102
    go_wp2_with fail
    refine (HTop.out w).mono ?_
    rintro e w' ⟨rfl, rfl⟩
    go_wp2_with fail
    refine (K.out).mono ?_
    rintro e w1 ⟨rfl, b1⟩
    have F1 := Lib.hid ((from_calls (m + 1) w1 (by omega) (by omega)).mono fun e w' q => q.can)
    go_wp2_with fail
    refine (F1.out).mono ?_
    rintro e w2 ⟨ad2, n2, c2, rfl, f2, b2⟩
    go_wp2
    go_ret2
    rw [E1.out, E2.out]
    exact ⟨_, _, _, rfl, f2, below_trans b1 b2⟩
  · have hm := pM_bd (wide_wd k0) z
    have K := Lib.hid (HP.out w hS hT z (by omega))
    have E1 := Lib.hid (show nbM (wd k0) z = pM (wd k0) z by rw [HD1.out, if_neg hzI])
    have E2 := Lib.hid (show nbE (wd k0) z = pE (wd k0) z by rw [HD2.out, if_neg hzI])
    have hz2 : (z == infW (wd k0)) = false := by simpa using hzI
    clear HD1 HD2 HP hzI
    generalize nbM (wd k0) z = M at *
    generalize nbE (wd k0) z = P at *
    generalize pM (wd k0) z = m at *
    generalize pE (wd k0) z = p at *
    generalize pNeg (wd k0) z = ng at *
    generalize pOk (wd k0) z = ok at *
    generalize infW (wd k0) = I at *
    go_enter Tryd.func102, Tryd.ntmps102
    go_wp2_with fail
    refine (HTop.out w).mono ?_
    rintro e w' ⟨rfl, rfl⟩
    go_wp2_with fail
    refine (K.out).mono ?_
    rintro e w1 ⟨rfl, b1⟩
    have F1 := Lib.hid ((from_calls m w1 (by omega) (by omega)).mono fun e w' q => q.can)
    go_wp2_with fail
    refine (F1.out).mono ?_
    rintro e w2 ⟨ad2, n2, c2, rfl, f2, b2⟩
    go_wp2
    go_ret2
    rw [E1.out, E2.out]
    exact ⟨_, _, _, rfl, f2, below_trans b1 b2⟩

set_option maxHeartbeats 2000000 in
theorem lmiddle_calls (k0 : Int) (hk : 0 ≤ k0 ∧ k0 < 256) (z : Int) (hz : 0 ≤ z ∧ z < infW (wd k0)) (ad : Option Addr) (n c : Nat) (M p : Int) (w : World) (hS : Shapes w) (hT : Tab w) (h : Num w ad n c M) (lM : M < 4294967296 ^ 4096) (hn : n ≤ 1000000) (hp : -60000 ≤ p ∧ p ≤ 60000) :
    Calls Tryd.prog 43 #[.int .u8 k0, .int .u64 z, .slice ad n c, .int .i64 p] w (RetIB (midC (wd k0) z M p) w) := by
  have hfit := inf_fits (wide_wd k0)
  have hib := hfit.2.1
  have hpw := pow_wide (wide_wd k0)
  have HN1 := Lib.hid (lnumber_calls k0 hk z ⟨hz.1, by omega⟩ w hS hT)
  have HN2 := Lib.hid (lnumber_calls k0 hk (z + 1) ⟨by omega, by omega⟩)
  obtain ⟨a1, -, a3, a4, a5, a6⟩ := nb_num (wide_wd k0) z hz.1 (by omega)
  obtain ⟨c1, -, c3, c4, c5, c6⟩ := nb_num (wide_wd k0) (z + 1) (by omega) (by omega)
  obtain ⟨m1, m2, m3, m4, m5⟩ := midS_lt (wide_wd k0) z hz.1 hz.2
  have HD := Lib.hid (show midC (wd k0) z M p = cmp2 M p (nbM (wd k0) z * 2 ^ (nbE (wd k0) z - midE (wd k0) z).toNat + nbM (wd k0) (z + 1) * 2 ^ (nbE (wd k0) (z + 1) - midE (wd k0) z).toNat) (midE (wd k0) z - 1) from rfl)
  have hmE : min (nbE (wd k0) z) (nbE (wd k0) (z + 1)) = midE (wd k0) z := rfl
  unfold midS at m3
  have W0 : IntKind.u64.wrap (z + 1) = z + 1 := by rw [IntKind.wrap_u64]; omega
  have W00 : (z + 1) % 18446744073709551616 = z + 1 := by omega
  clear hfit hpw hib a1 c1
  generalize midC (wd k0) z M p = C at *
  generalize midE (wd k0) z = lo at *
  generalize nbM (wd k0) z = A at *
  generalize nbE (wd k0) z = f at *
  generalize nbM (wd k0) (z + 1) = B at *
  generalize nbE (wd k0) (z + 1) = g at *
  have k1 : lo ≤ f := by omega
  have k2 : lo ≤ g := by omega
  have k3 : -1074 ≤ lo := by omega
  have W1 : IntKind.i64.wrap (f - lo) = f - lo := IntWalk.i64_in _ (by omega)
  have W2 : IntKind.i64.wrap (g - lo) = g - lo := IntWalk.i64_in _ (by omega)
  have W3 : IntKind.i64.wrap (lo - 1) = lo - 1 := IntWalk.i64_in _ (by omega)
  have HSA := Lib.hid (fun (w : World) (ad : Option Addr) (n c : Nat) (h : Num w ad n c A) (hn : n ≤ 1000000) => lscaled_calls ad n c A (f - lo) w h (lt_limbs A 54 4096 (Int.lt_of_le_of_lt a6 (by decide)) (by omega)) (by omega) hn)
  have HSB := Lib.hid (fun (w : World) (ad : Option Addr) (n c : Nat) (h : Num w ad n c B) (hn : n ≤ 1000000) => lscaled_calls ad n c B (g - lo) w h (lt_limbs B 54 4096 (Int.lt_of_le_of_lt c6 (by decide)) (by omega)) (by omega) hn)
  generalize A * 2 ^ (f - lo).toNat = A2 at *
  generalize B * 2 ^ (g - lo).toNat = B2 at *
  have M1 := Lib.hid (lt_limbs A2 3600 120 m1 (by omega))
  have M2 := Lib.hid (lt_limbs B2 3600 120 m2 (by omega))
  have M3 := Lib.hid m3
  have LM := Lib.hid lM
  clear m1 m2 m3 lM
  go_enter Tryd.func43, Tryd.ntmps43
  go_wp2_with fail
  refine (HN1.out).mono ?_
  rintro e w1 ⟨ad1, n1, d1, rfl, f1, b1⟩
  have l1 := f1.len_le 2 (Int.lt_of_le_of_lt a6 (by decide))
  have HN3 := Lib.hid (HN2.out w1 (hS.below b1 (Nat.le_refl _)) (hT.below b1 (Nat.le_refl _)))
  go_wp2_with fail
  refine (HN3.out).mono ?_
  rintro e w2 ⟨ad2, n2, d2, rfl, f2, b2⟩
  have l2 := f2.len_le 2 (Int.lt_of_le_of_lt c6 (by decide))
  have B12 := below_trans b1 b2
  have G1 := Lib.hid (HSA.out w2 ad1 n1 d1 ((f1.num a5).below b2 (Nat.le_refl _)) (by omega))
  go_wp2_with fail
  refine (G1.out).mono ?_
  rintro e w3 ⟨ad3, n3, d3, rfl, f3, b3⟩
  have l3 := f3.len_le _ M1.out
  have B13 := below_trans B12 b3
  have G2 := Lib.hid (HSB.out w3 ad2 n2 d2 ((f2.num c5).below b3 (Nat.le_refl _)) (by omega))
  go_wp2_with fail
  refine (G2.out).mono ?_
  rintro e w4 ⟨ad4, n4, d4, rfl, f4, b4⟩
  have l4 := f4.len_le _ M2.out
  have B14 := below_trans B13 b4
  have G3 := Lib.hid (num_add ad3 ad4 n3 n4 d3 d4 A2 B2 w4 ((f3.num m4).below b4 (Nat.le_refl _)) (f4.num m5) (by omega) (by omega))
  go_wp2_with fail
  refine (G3.out).mono ?_
  rintro e w5 ⟨ad5, n5, d5, rfl, f5, b5⟩
  have l5 := f5.len_le 120 (lt_limbs _ 3601 120 M3.out (by omega))
  have B15 := below_trans B14 b5
  have G4 := Lib.hid (lagainst_calls ad ad5 n n5 c d5 M (A2 + B2) p (lo - 1) w5 (h.below B15 (Nat.le_refl _)) (f5.num (by omega)) LM.out (lt_limbs _ 3601 4096 M3.out (by omega)) hn (by omega) (by omega) (by omega))
  rw [← HD.out] at G4
  go_wp2_with fail
  refine (G4.out).mono ?_
  rintro e w6 ⟨rfl, b6⟩
  go_wp2
  go_ret
  exact ⟨rfl, below_trans B15 b6⟩
end Go.Proofs.YtmnabilgpndjmaaDoor
