/- Contracts of functions, and plain facts, part 11. -/
import Derived.BigRegion
import Derived.Test.YtoimhjcpeifegaaGreatDoorPk4
import Derived.Test.YtoimhjcpeifegaaGreatDoorPk6
import Derived.Test.YtoimhjcpeifegaaGreatDoorPk7
set_option linter.unusedVariables false
set_option linter.unusedSimpArgs false
/- nat.Shr: divided by 2 to the power of n, and is something left over? -/
namespace Go.Proofs.YtoimhjcpeifegaaGreatDoor
open Go.RowKit

/-- A limb moved down by r, and what comes down from above. -/
theorem or_down (x y : Int) (r : Nat) (hx : 0 ≤ x ∧ x < 4294967296) (hy : 0 ≤ y ∧ y < 4294967296) (h0 : 0 < r) (hr : r < 32) :
    bits .or .u32 (x / 2 ^ r) (y * 2 ^ (32 - r) % 4294967296) = x / 2 ^ r + y % 2 ^ r * 2 ^ (32 - r) ∧ 0 ≤ x / 2 ^ r ∧ x / 2 ^ r < 4294967296 ∧ 0 ≤ y % 2 ^ r * 2 ^ (32 - r) ∧ x / 2 ^ r + y % 2 ^ r * 2 ^ (32 - r) < 4294967296 ∧
      (y * 2 ^ (32 - r) % 4294967296 = 0 ↔ y % 2 ^ r = 0) := by
  obtain ⟨x, rfl⟩ := Int.eq_ofNat_of_zero_le hx.1
  obtain ⟨y, rfl⟩ := Int.eq_ofNat_of_zero_le hy.1
  have hB : (4294967296 : Nat) = 2 ^ (32 - r) * 2 ^ r := by rw [← Nat.pow_add, show (32 - r) + r = 32 by omega]
  have e1 : (x : Int) / 2 ^ r = ((x / 2 ^ r : Nat) : Int) := by simp
  have e2 : (y : Int) * 2 ^ (32 - r) % 4294967296 = ((y * 2 ^ (32 - r) % 4294967296 : Nat) : Int) := by simp
  have e3 : (y : Int) % 2 ^ r = ((y % 2 ^ r : Nat) : Int) := by simp
  have e4 : ((y % 2 ^ r : Nat) : Int) * 2 ^ (32 - r) = ((y % 2 ^ r * 2 ^ (32 - r) : Nat) : Int) := by simp
  have q : y * 2 ^ (32 - r) % 4294967296 = y % 2 ^ r * 2 ^ (32 - r) := by
    rw [hB, Nat.mul_comm y, Nat.mul_mod_mul_left, Nat.mul_comm]
  have hq : x / 2 ^ r < 2 ^ (32 - r) := by
    rw [Nat.div_lt_iff_lt_mul (Nat.two_pow_pos _), ← hB]
    omega
  have hd : y % 2 ^ r * 2 ^ (32 - r) % 2 ^ (32 - r) = 0 := Nat.mul_mod_left _ _
  have hpos := Nat.two_pow_pos (32 - r)
  have hl : y % 2 ^ r * 2 ^ (32 - r) + 2 ^ (32 - r) ≤ 4294967296 := by
    have h1 := Nat.mul_le_mul_right (2 ^ (32 - r)) (show y % 2 ^ r + 1 ≤ 2 ^ r from Nat.mod_lt _ (Nat.two_pow_pos r))
    rw [Nat.mul_comm (2 ^ r), ← hB, Nat.add_mul] at h1
    omega
  have hj := nat_join (32 - r) (y % 2 ^ r * 2 ^ (32 - r)) (x / 2 ^ r) hd hq
  rw [e1, e2, e3, e4, q]
  clear e1 e2 e3 e4 q hB hd
  have hiff : y % 2 ^ r * 2 ^ (32 - r) = 0 ↔ y % 2 ^ r = 0 := by
    rw [Nat.mul_eq_zero]
    omega
  generalize x / 2 ^ r = a at *
  generalize y % 2 ^ r * 2 ^ (32 - r) = b at *
  generalize 2 ^ (32 - r) = P at *
  generalize y % 2 ^ r = u at *
  refine ⟨?_, by omega, by omega, by omega, by omega, by omega⟩
  rw [u32_or_nat _ _ (by omega) (by omega), Nat.or_comm, hj, Nat.add_comm]
  simp

def ShrR (w : World) (W : World) (B0 : Nat) (zs : List Int) (R c0 : Int) (i : Nat) (wr : World) : Prop :=
  ∃ ys, Blk wr B0 23 .u32 ys ∧ ys.length = zs.length ∧ Dig 4294967296 ys ∧ Below w.heap.size w wr ∧ (∀ k, i ≤ k → ys[k]?.getD 0 = zs[k]?.getD 0) ∧
    val 4294967296 (ys.take i) * R + c0 = val 4294967296 (zs.take i) + 4294967296 ^ i * (zs[i]?.getD 0 % R)

set_option maxHeartbeats 2000000 in
theorem shr_good (ad : Option Addr) (nn c : Nat) (la : List Int) (n : Int) (w : World) (hn : nn ≤ 70368744177664) (hnc : nn ≤ c) (hr : Rds w .u32 ad nn la) (da : Dig 4294967296 la)
    (hn0 : 0 ≤ n) (hn1 : n < 9223372036854775808) (hsm : n / 32 < ((norm la).length : Nat)) :
    Calls Tryz.prog 123 #[.slice ad nn c, .int .i64 n] w (RetLBB 23 .u32 (dg 4294967296 (val 4294967296 la / 2 ^ n.toNat)) (decide (val 4294967296 la % 2 ^ n.toNat ≠ 0)) true w) := by
  have hc := Lib.hid (cut_calls ad nn c la w (by omega) hnc hr)
  have rx := hr.norm
  have dx := norm_dig da
  have hma := norm_length_le la
  rw [hr.len] at hma
  rw [← val_norm 4294967296 la]
  clear hr da
  generalize norm la = xs at *
  obtain ⟨m, hm⟩ : ∃ m, xs.length = m := ⟨_, rfl⟩
  rw [hm] at hc rx hma hsm
  have HM := Lib.hid hm
  clear hm
  obtain ⟨s, hs⟩ : ∃ s : Nat, n / 32 = s := ⟨(n / 32).toNat, by omega⟩
  obtain ⟨r, hrr⟩ : ∃ r : Nat, n % 32 = r := ⟨(n % 32).toNat, by omega⟩
  have hr32 : r < 32 := by omega
  have hsm' : s < m := by omega
  have hlo0 := val_nonneg (b := 4294967296) (by omega) (dx.take s)
  have hlo1 := val_lt (b := 4294967296) (by omega) (dx.take s)
  rw [List.length_take, HM.out, Nat.min_eq_left (by omega)] at hlo1
  have EV : (2 : Int) ^ n.toNat = 4294967296 ^ s * 2 ^ r := by
    have e : n.toNat = 32 * s + r := by omega
    rw [e, Int.pow_add, Int.pow_mul, show (2 : Int) ^ 32 = 4294967296 from rfl]
  have hsp := split_div (val 4294967296 (xs.take s)) (4294967296 ^ s) (val 4294967296 (xs.drop s)) (2 ^ r) hlo0 hlo1 (Int.pow_pos (by omega))
  rw [EV, val_split 4294967296 xs s (by rw [HM.out]; omega), hsp.1, hsp.2]
  clear EV hsp
  have hpm : decide (val 4294967296 (xs.take s) + 4294967296 ^ s * (val 4294967296 (xs.drop s) % 2 ^ r) ≠ 0) = (decide (val 4294967296 (xs.take s) ≠ 0) || decide (val 4294967296 (xs.drop s) % 2 ^ r ≠ 0)) := by
    have h1 : 0 ≤ val 4294967296 (xs.drop s) % 2 ^ r := Int.emod_nonneg _ (Int.ne_of_gt (Int.pow_pos (by omega)))
    have h2 : (0 : Int) < 4294967296 ^ s := Int.pow_pos (by omega)
    generalize val 4294967296 (xs.drop s) % 2 ^ r = t at *
    generalize val 4294967296 (xs.take s) = l at *
    generalize (4294967296 : Int) ^ s = P at *
    rw [Bool.eq_iff_iff]
    simp only [decide_eq_true_eq, Bool.or_eq_true]
    constructor
    · intro h
      by_cases hl : l = 0
      · refine .inr fun ht => h ?_
        rw [hl, ht]
        simp
      · exact .inl hl
    · rintro (h | h)
      · have := Int.mul_nonneg (Int.le_of_lt h2) h1
        omega
      · have := Int.mul_pos h2 (show 0 < t by omega)
        omega
  obtain ⟨MO, hMO⟩ : ∃ MO, (decide (val 4294967296 (xs.take s) ≠ 0) || decide (val 4294967296 (xs.drop s) % 2 ^ r ≠ 0)) = MO := ⟨_, rfl⟩
  have HMO0 := Lib.hid hMO
  rw [hpm, hMO]
  clear hpm hMO
  obtain ⟨a, rfl, hxs⟩ := rx.cell s (by omega)
  clear hxs
  have hmm : ¬ (n / 32 ≥ (m : Int)) := by omega
  have hsI : (s : Int) < m := by omega
  go_enter Tryz.func123, Tryz.ntmps123
  go_wp2_with fail
  refine (hc.out).mono ?_
  rintro e w' ⟨rfl, rfl⟩
  clear hc
  go_wp2_with fail
  go_loop [28, 5] (fun i b => ∃ k : Nat, ∃ mb : Bool, k ≤ s ∧ i = .int .i64 k ∧ b = .bool mb ∧ Hid (mb = decide (val 4294967296 (xs.take k) ≠ 0))) (fun i _ => s - (intOf i).toNat)
  case atStart => exact ⟨0, false, Nat.zero_le _, rfl, rfl, by simp [val, Hid]⟩
  case round =>
    obtain ⟨k, mb, hk, rfl, rfl, hmb⟩ := hrel
    by_cases hks : k < s
    · obtain ⟨a', ha', hxl⟩ := rx.cell k (by omega)
      injection ha' with ha'
      subst ha'
      have bx := dx.get (by omega) k
      have hv := Lib.hid (val_take_succ' 4294967296 xs k)
      have hv0 := val_nonneg (b := 4294967296) (by omega) (dx.take k)
      have HMB := Lib.hid (show (mb || decide (xs[k]?.getD 0 ≠ 0)) = decide (val 4294967296 (xs.take (k + 1)) ≠ 0) by
        rw [hmb.out, hv.out, Bool.eq_iff_iff]
        simp only [decide_eq_true_eq, Bool.or_eq_true]
        have h2 : (0 : Int) < 4294967296 ^ k := Int.pow_pos (by omega)
        generalize xs[k]?.getD 0 = x at *
        generalize (4294967296 : Int) ^ k = P at *
        constructor
        · rintro (h | h)
          · have := Int.mul_nonneg (Int.le_of_lt h2) bx.1
            omega
          · have := Int.mul_pos h2 (show 0 < x by omega)
            omega
        · intro h
          by_cases hx0 : x = 0
          · left; intro h3; apply h; rw [h3, hx0]; simp
          · exact .inr hx0)
      clear hv hv0 hmb
      generalize xs[k]?.getD 0 = x at *
      cases mb
      · by_cases hx0 : x = 0
        · subst hx0
          go_wp2
          go_round
          case rel => exact ⟨k + 1, false, by omega, by go_num, rfl, Lib.hid (by simpa using HMB.out)⟩
          case measure => simp [intOf]; omega
        · have hx1 : (x != 0) = true := by simp; exact hx0
          have HB2 := Lib.hid (show true = decide (val 4294967296 (xs.take (k + 1)) ≠ 0) by rw [← HMB.out, decide_eq_true hx0]; rfl)
          clear hx0
          go_wp2
          go_round
          case rel => exact ⟨k + 1, true, by omega, by go_num, rfl, HB2.out⟩
          case measure => simp [intOf]; omega
      · go_wp2
        go_round
        case rel => exact ⟨k + 1, true, by omega, by go_num, rfl, Lib.hid (by simpa using HMB.out)⟩
        case measure => simp [intOf]; omega
    · obtain rfl : k = s := by omega
      obtain ⟨L, hL⟩ : ∃ L, m - k = L := ⟨_, rfl⟩
      have hLI : (m : Int) - k = L := by omega
      have hL0 : 0 < L := by omega
      have hmk := make_rule (P := Tryz.prog) 32 23 .u32 4 Tryz.underlying32 info_limb (by omega) L (by omega) (L : Int) rfl
      have b0 : Below w.heap.size w (w.alloc (.cells (nums .u32 (List.replicate L 0)).toArray 23)) := (Below.refl _ _).alloc (Nat.le_refl _) _
      have r0 := (rx.below b0 (Nat.le_refl _)).drop k (by omega)
      rw [hL] at r0
      simp only [Option.map_some] at r0
      have k0 := Blk.made w 23 .u32 (List.replicate L 0) w.heap.size rfl
      have dzs := dx.drop k
      have HMO := Lib.hid (show (mb || decide (val 4294967296 (xs.drop k) % 2 ^ r ≠ 0)) = MO by rw [hmb.out]; exact HMO0.out)
      have HZL := Lib.hid (show (List.drop k xs).length = L by rw [List.length_drop, HM.out, hL])
      clear hmb hlo0 hlo1 dx rx HMO0
      generalize List.drop k xs = zs at *
      have hz0 : List.take 0 (List.replicate L (0 : Int)) ++ (zs ++ List.drop (0 + L) (List.replicate L (0 : Int))) = zs := by simp
      have HZ0 := Lib.hid hz0
      clear hz0
      have hmin : min r 32 = r := by omega
      by_cases hr0 : 0 < r
      · obtain ⟨c0, hc0⟩ : ∃ c0, zs[0]?.getD 0 % 2 ^ r = c0 := ⟨_, rfl⟩
        have hc00 : 0 ≤ c0 := by rw [← hc0]; exact Int.emod_nonneg _ (Int.ne_of_gt (Int.pow_pos (by omega)))
        have hc01 : c0 < 2 ^ r := by rw [← hc0]; exact Int.emod_lt_of_pos _ (Int.pow_pos (by omega))
        have HC0 := Lib.hid hc0
        have HBR := Lib.hid (show (4294967296 : Int) = 2 ^ r * 2 ^ (32 - r) by rw [← Int.pow_add, show r + (32 - r) = 32 by omega]; rfl)
        have HVC := Lib.hid (show val 4294967296 zs % 2 ^ r = c0 by
          rw [val_split 4294967296 zs 1 (by rw [HZL.out]; omega), val_take_succ', HBR.out, Int.pow_one, Int.mul_assoc, Int.add_mul_emod_self_left]
          simp only [List.take_zero, val, Int.pow_zero, Int.one_mul, Int.zero_add]
          exact hc0)
        have hor := or_down (zs[0]?.getD 0) (zs[0]?.getD 0) r (dzs.get (by omega) 0) (dzs.get (by omega) 0) hr0 hr32
        have HT := Lib.hid hor.2.2.2.2.2
        clear hor hc0
        cases mb
        · have HQ := Lib.hid (show (zs[0]?.getD 0 * 2 ^ (32 - r) % 4294967296 != 0) = MO by
            rw [← HMO.out, HVC.out, Bool.false_or, Bool.eq_iff_iff]
            simp only [bne_iff_ne, ne_eq, decide_eq_true_eq, HT.out, HC0.out])
          have hrI : (0 : Int) < r := by omega
          have W2 : (32 - (r : Int)).toNat = 32 - r := by omega
          have W7 : min (32 - r) 32 = 32 - r := by omega
          go_wp2_with (refine copy_law w.heap.size rfl (.tmp 44) (.tmp 48) 32 32 rfl 23 Tryz.underlying32 size_limb (some ⟨w.heap.size, 0, none⟩) (some (a.add k)) L L L L rfl rfl w.heap.size 0 .u32 (List.replicate L 0) zs k0 r0 (Nat.le_refl _) (fun _ => rfl) (by rw [List.length_replicate]; omega) b0 (Nat.le_refl _) ?_; intro w2 k2 b2; rw [HZ0.out] at k2; have cc := k2.cell 0 (by rw [HZL.out]; exact hL0))
          · have hI : ShrR w w2 w.heap.size zs (2 ^ r) c0 0 w2 := ⟨zs, k2, rfl, dzs, b2, fun _ _ => rfl, by simp only [List.take_zero, val, Int.zero_mul, Int.pow_zero, Int.one_mul, Int.zero_add]; exact HC0.out.symm⟩
            clear cc k0 b0 r0 hmk W2 W7
            clear k2 b2
            go_loopw [66] (fun i wr => ∃ j : Nat, j ≤ L ∧ i = .int .i64 j ∧ ShrR w w2 w.heap.size zs (2 ^ r) c0 j wr) (fun i _ => L - (intOf i).toNat)
            case atStart => exact ⟨0, Nat.zero_le _, rfl, hI⟩
            case round =>
              clear hI
              obtain ⟨i, hi, rfl, ys, h1, h2, h3, h4, h5, h6⟩ := hrel
              have H2 := Lib.hid h2
              have H5 := Lib.hid h5
              have H6 := Lib.hid h6
              clear h2 h5 h6
              by_cases hiL : i < L
              · have hci := h1.cell i (by rw [H2.out, HZL.out]; omega)
                rw [H5.out i (Nat.le_refl _)] at hci
                have hfi := h1.free i
                have bx := dzs.get (by omega) i
                have by1 := dzs.get (by omega) (i + 1)
                have ST := Lib.hid (shr_step 4294967296 (2 ^ r) (2 ^ (32 - r)) (Int.pow_pos (by omega)) HBR.out zs ys i (by rw [H2.out, HZL.out]; omega) c0 H6.out)
                obtain ⟨om1, om2, om3, om4, om5, om6⟩ := or_down (zs[i]?.getD 0) (zs[i + 1]?.getD 0) r bx by1 hr0 hr32
                have OM := Lib.hid om1
                have hiI : (i : Int) < L := by omega
                clear H6 om1 om6
                by_cases hi1 : i + 1 < L
                · have hiI1 : (i : Int) + 1 < L := by omega
                  generalize zs[i]?.getD 0 = x at *
                  have h1' := h1.set i (x / 2 ^ r)
                  have d1' := h3.set om2 om3 i
                  have b1' := below_set h4 w.heap.size i (.int .u32 (x / 2 ^ r)) (Nat.le_refl _)
                  have c1' := h1'.cell i (by rw [List.length_set, H2.out, HZL.out]; omega)
                  rw [List.getElem?_set_self (by rw [H2.out, HZL.out]; omega)] at c1'
                  simp only [Option.getD_some] at c1'
                  have c2' := h1'.cell (i + 1) (by rw [List.length_set, H2.out, HZL.out]; omega)
                  rw [List.getElem?_set_ne (by omega), H5.out (i + 1) (by omega)] at c2'
                  have f1' := h1'.free i
                  generalize hye : zs[i + 1]?.getD 0 = y at *
                  have HYE := Lib.hid hye
                  clear hye
                  have K1 := h1'.set i (x / 2 ^ r + y % 2 ^ r * 2 ^ (32 - r))
                  rw [List.set_set] at K1
                  have HL2 := Lib.hid (show ((ys.set i (x / 2 ^ r + y % 2 ^ r * 2 ^ (32 - r))).length = zs.length) by rw [List.length_set, H2.out])
                  have d2 := h3.set (show 0 ≤ x / 2 ^ r + y % 2 ^ r * 2 ^ (32 - r) by omega) om5 i
                  have b2 := below_set b1' w.heap.size i (.int .u32 (x / 2 ^ r + y % 2 ^ r * 2 ^ (32 - r))) (Nat.le_refl _)
                  go_wp2
                  clear hfi hci
                  generalize wr.setCell ⟨w.heap.size, i, none⟩ (.int .u32 (x / 2 ^ r)) = w3 at *
                  have W1 : IntKind.i64.wrap ((i : Int) + 1) = (i : Int) + 1 := IntWalk.i64_in _ (by omega)
                  have W2 : IntKind.i64.wrap (32 - (r : Int)) = 32 - (r : Int) := IntWalk.i64_in _ (by omega)
                  have W3 : ((i : Int) + 1).toNat = i + 1 := by omega
                  have W4 : (0 : Int) ≤ (i : Int) + 1 := by omega
                  have W5 : (32 - (r : Int)).toNat = 32 - r := by omega
                  have W6 : (0 : Int) ≤ 32 - (r : Int) := by omega
                  have W7 : min (32 - r) 32 = 32 - r := by omega
                  have W9 := OM.out
                  go_region
                  clear W1 W2 W3 W4 W5 W6 W7 W9
                  go_wp2
                  go_roundw
                  case rel =>
                    refine ⟨i + 1, by omega, by go_num, _, K1.drew, HL2.out, d2, below_drew b2, fun q hq => ?_, ?_⟩
                    · rw [List.getElem?_set_ne (by omega)]
                      exact H5.out q (by omega)
                    · rw [HYE.out]
                      exact ST.out
                  case measure => simp [intOf]; omega
                · have hiI1 : ¬ (i : Int) + 1 < L := by omega
                  have hy0 : zs[i + 1]?.getD 0 = 0 := by rw [List.getElem?_eq_none (by rw [HZL.out]; omega)]; rfl
                  rw [hy0, Int.zero_emod, Int.zero_mul, Int.add_zero] at ST
                  have HY := Lib.hid hy0
                  clear hy0 by1 om4 om5 OM
                  generalize zs[i]?.getD 0 = x at *
                  have K1 := h1.set i (x / 2 ^ r)
                  have d1' := h3.set om2 om3 i
                  have b1' := below_set h4 w.heap.size i (.int .u32 (x / 2 ^ r)) (Nat.le_refl _)
                  have HL2 := Lib.hid (show ((ys.set i (x / 2 ^ r)).length = zs.length) by rw [List.length_set, H2.out])
                  go_wp2
                  go_roundw
                  case rel =>
                    refine ⟨i + 1, by omega, by go_num, _, K1, HL2.out, d1', b1', fun q hq => ?_, ?_⟩
                    · rw [List.getElem?_set_ne (by omega)]
                      exact H5.out q (by omega)
                    · rw [HY.out, Int.zero_emod]
                      exact ST.out
                  case measure => simp [intOf]; omega
              · obtain rfl : i = L := by omega
                have HV := Lib.hid (show val 4294967296 ys = val 4294967296 zs / 2 ^ r by
                  have e := H6.out
                  rw [List.take_of_length_le (by rw [H2.out, HZL.out]; exact Nat.le_refl _), List.take_of_length_le (by rw [HZL.out]; exact Nat.le_refl _), List.getElem?_eq_none (by rw [HZL.out]; exact Nat.le_refl _)] at e
                  simp only [Option.getD_none, Int.zero_emod, Int.mul_zero, Int.add_zero] at e
                  rw [← e, Int.add_comm, Int.add_mul_ediv_right _ _ (Int.ne_of_gt (Int.pow_pos (by omega))), Int.ediv_eq_zero_of_lt hc00 hc01, Int.zero_add])
                have hcut := Lib.hid (cut_calls (some ⟨w.heap.size, 0, none⟩) i i _ wr (by omega) (Nat.le_refl _) (by have := h1.rds; rwa [H2.out, HZL.out] at this))
                have R := h1.ret (Nat.le_refl _) (by rw [H2.out, HZL.out]; omega) h3 _ HV.out h4
                obtain ⟨rd, rn, rc, re, ro, rb⟩ := R
                have RE := Lib.hid re
                clear re
                go_wp2_with fail
                refine (hcut.out).mono ?_
                rintro e w' ⟨rfl, rfl⟩
                go_wp2_with fail
                go_ret3
                have re := RE.out
                injection re with re
                injection re with e1 e2 e3
                refine ⟨rd, rn, rc, ?_, ro, rb⟩
                rw [← HQ.out, ← e1, ← e2, ← e3]
                rfl
        · have HQ := Lib.hid (show true = MO by rw [← HMO.out, Bool.true_or])
          have hrI : (0 : Int) < r := by omega
          go_wp2_with (refine copy_law w.heap.size rfl (.tmp 44) (.tmp 48) 32 32 rfl 23 Tryz.underlying32 size_limb (some ⟨w.heap.size, 0, none⟩) (some (a.add k)) L L L L rfl rfl w.heap.size 0 .u32 (List.replicate L 0) zs k0 r0 (Nat.le_refl _) (fun _ => rfl) (by rw [List.length_replicate]; omega) b0 (Nat.le_refl _) ?_; intro w2 k2 b2; rw [HZ0.out] at k2; have cc := k2.cell 0 (by rw [HZL.out]; exact hL0))
          · have hI : ShrR w w2 w.heap.size zs (2 ^ r) c0 0 w2 := ⟨zs, k2, rfl, dzs, b2, fun _ _ => rfl, by simp only [List.take_zero, val, Int.zero_mul, Int.pow_zero, Int.one_mul, Int.zero_add]; exact HC0.out.symm⟩
            clear cc k0 b0 r0 hmk
            clear k2 b2
            go_loopw [66] (fun i wr => ∃ j : Nat, j ≤ L ∧ i = .int .i64 j ∧ ShrR w w2 w.heap.size zs (2 ^ r) c0 j wr) (fun i _ => L - (intOf i).toNat)
            case atStart => exact ⟨0, Nat.zero_le _, rfl, hI⟩
            case round =>
              clear hI
              obtain ⟨i, hi, rfl, ys, h1, h2, h3, h4, h5, h6⟩ := hrel
              have H2 := Lib.hid h2
              have H5 := Lib.hid h5
              have H6 := Lib.hid h6
              clear h2 h5 h6
              by_cases hiL : i < L
              · have hci := h1.cell i (by rw [H2.out, HZL.out]; omega)
                rw [H5.out i (Nat.le_refl _)] at hci
                have hfi := h1.free i
                have bx := dzs.get (by omega) i
                have by1 := dzs.get (by omega) (i + 1)
                have ST := Lib.hid (shr_step 4294967296 (2 ^ r) (2 ^ (32 - r)) (Int.pow_pos (by omega)) HBR.out zs ys i (by rw [H2.out, HZL.out]; omega) c0 H6.out)
                obtain ⟨om1, om2, om3, om4, om5, om6⟩ := or_down (zs[i]?.getD 0) (zs[i + 1]?.getD 0) r bx by1 hr0 hr32
                have OM := Lib.hid om1
                have hiI : (i : Int) < L := by omega
                clear H6 om1 om6
                by_cases hi1 : i + 1 < L
                · have hiI1 : (i : Int) + 1 < L := by omega
                  generalize zs[i]?.getD 0 = x at *
                  have h1' := h1.set i (x / 2 ^ r)
                  have d1' := h3.set om2 om3 i
                  have b1' := below_set h4 w.heap.size i (.int .u32 (x / 2 ^ r)) (Nat.le_refl _)
                  have c1' := h1'.cell i (by rw [List.length_set, H2.out, HZL.out]; omega)
                  rw [List.getElem?_set_self (by rw [H2.out, HZL.out]; omega)] at c1'
                  simp only [Option.getD_some] at c1'
                  have c2' := h1'.cell (i + 1) (by rw [List.length_set, H2.out, HZL.out]; omega)
                  rw [List.getElem?_set_ne (by omega), H5.out (i + 1) (by omega)] at c2'
                  have f1' := h1'.free i
                  generalize hye : zs[i + 1]?.getD 0 = y at *
                  have HYE := Lib.hid hye
                  clear hye
                  have K1 := h1'.set i (x / 2 ^ r + y % 2 ^ r * 2 ^ (32 - r))
                  rw [List.set_set] at K1
                  have HL2 := Lib.hid (show ((ys.set i (x / 2 ^ r + y % 2 ^ r * 2 ^ (32 - r))).length = zs.length) by rw [List.length_set, H2.out])
                  have d2 := h3.set (show 0 ≤ x / 2 ^ r + y % 2 ^ r * 2 ^ (32 - r) by omega) om5 i
                  have b2 := below_set b1' w.heap.size i (.int .u32 (x / 2 ^ r + y % 2 ^ r * 2 ^ (32 - r))) (Nat.le_refl _)
                  go_wp2
                  clear hfi hci
                  generalize wr.setCell ⟨w.heap.size, i, none⟩ (.int .u32 (x / 2 ^ r)) = w3 at *
                  have W1 : IntKind.i64.wrap ((i : Int) + 1) = (i : Int) + 1 := IntWalk.i64_in _ (by omega)
                  have W2 : IntKind.i64.wrap (32 - (r : Int)) = 32 - (r : Int) := IntWalk.i64_in _ (by omega)
                  have W3 : ((i : Int) + 1).toNat = i + 1 := by omega
                  have W4 : (0 : Int) ≤ (i : Int) + 1 := by omega
                  have W5 : (32 - (r : Int)).toNat = 32 - r := by omega
                  have W6 : (0 : Int) ≤ 32 - (r : Int) := by omega
                  have W7 : min (32 - r) 32 = 32 - r := by omega
                  have W9 := OM.out
                  go_region
                  clear W1 W2 W3 W4 W5 W6 W7 W9
                  go_wp2
                  go_roundw
                  case rel =>
                    refine ⟨i + 1, by omega, by go_num, _, K1.drew, HL2.out, d2, below_drew b2, fun q hq => ?_, ?_⟩
                    · rw [List.getElem?_set_ne (by omega)]
                      exact H5.out q (by omega)
                    · rw [HYE.out]
                      exact ST.out
                  case measure => simp [intOf]; omega
                · have hiI1 : ¬ (i : Int) + 1 < L := by omega
                  have hy0 : zs[i + 1]?.getD 0 = 0 := by rw [List.getElem?_eq_none (by rw [HZL.out]; omega)]; rfl
                  rw [hy0, Int.zero_emod, Int.zero_mul, Int.add_zero] at ST
                  have HY := Lib.hid hy0
                  clear hy0 by1 om4 om5 OM
                  generalize zs[i]?.getD 0 = x at *
                  have K1 := h1.set i (x / 2 ^ r)
                  have d1' := h3.set om2 om3 i
                  have b1' := below_set h4 w.heap.size i (.int .u32 (x / 2 ^ r)) (Nat.le_refl _)
                  have HL2 := Lib.hid (show ((ys.set i (x / 2 ^ r)).length = zs.length) by rw [List.length_set, H2.out])
                  go_wp2
                  go_roundw
                  case rel =>
                    refine ⟨i + 1, by omega, by go_num, _, K1, HL2.out, d1', b1', fun q hq => ?_, ?_⟩
                    · rw [List.getElem?_set_ne (by omega)]
                      exact H5.out q (by omega)
                    · rw [HY.out, Int.zero_emod]
                      exact ST.out
                  case measure => simp [intOf]; omega
              · obtain rfl : i = L := by omega
                have HV := Lib.hid (show val 4294967296 ys = val 4294967296 zs / 2 ^ r by
                  have e := H6.out
                  rw [List.take_of_length_le (by rw [H2.out, HZL.out]; exact Nat.le_refl _), List.take_of_length_le (by rw [HZL.out]; exact Nat.le_refl _), List.getElem?_eq_none (by rw [HZL.out]; exact Nat.le_refl _)] at e
                  simp only [Option.getD_none, Int.zero_emod, Int.mul_zero, Int.add_zero] at e
                  rw [← e, Int.add_comm, Int.add_mul_ediv_right _ _ (Int.ne_of_gt (Int.pow_pos (by omega))), Int.ediv_eq_zero_of_lt hc00 hc01, Int.zero_add])
                have hcut := Lib.hid (cut_calls (some ⟨w.heap.size, 0, none⟩) i i _ wr (by omega) (Nat.le_refl _) (by have := h1.rds; rwa [H2.out, HZL.out] at this))
                have R := h1.ret (Nat.le_refl _) (by rw [H2.out, HZL.out]; omega) h3 _ HV.out h4
                obtain ⟨rd, rn, rc, re, ro, rb⟩ := R
                have RE := Lib.hid re
                clear re
                go_wp2_with fail
                refine (hcut.out).mono ?_
                rintro e w' ⟨rfl, rfl⟩
                go_wp2_with fail
                go_ret3
                have re := RE.out
                injection re with re
                injection re with e1 e2 e3
                refine ⟨rd, rn, rc, ?_, ro, rb⟩
                rw [← HQ.out, ← e1, ← e2, ← e3]
                rfl
      · obtain rfl : r = 0 := by omega
        have HQ := Lib.hid (show mb = MO by rw [← HMO.out]; simp)
        have HV := Lib.hid (show val 4294967296 zs = val 4294967296 zs / 2 ^ 0 by simp)
        go_wp2_with (refine copy_law w.heap.size rfl (.tmp 44) (.tmp 48) 32 32 rfl 23 Tryz.underlying32 size_limb (some ⟨w.heap.size, 0, none⟩) (some (a.add k)) L L L L rfl rfl w.heap.size 0 .u32 (List.replicate L 0) zs k0 r0 (Nat.le_refl _) (fun _ => rfl) (by rw [List.length_replicate]; omega) b0 (Nat.le_refl _) ?_; intro w2 k2 b2; rw [HZ0.out] at k2; have cc := k2.cell 0 (by rw [HZL.out]; exact hL0))
        have hcut := Lib.hid (cut_calls (some ⟨w.heap.size, 0, none⟩) L L _ w2 (by omega) (Nat.le_refl _) (by have := k2.rds; rwa [HZL.out] at this))
        have R := k2.ret (Nat.le_refl _) (by rw [HZL.out]; omega) dzs _ HV.out b2
        obtain ⟨rd, rn, rc, re, ro, rb⟩ := R
        have RE := Lib.hid re
        clear re cc
        refine (hcut.out).mono ?_
        rintro e w' ⟨rfl, rfl⟩
        go_wp2_with fail
        go_ret3
        have re := RE.out
        injection re with re
        injection re with e1 e2 e3
        refine ⟨rd, rn, rc, ?_, ro, rb⟩
        rw [← HQ.out, ← e1, ← e2, ← e3]
        rfl

/-- nat.Shr at any number. -/
theorem shr_calls (ad : Option Addr) (nn c : Nat) (la : List Int) (n : Int) (w : World) (hn : nn ≤ 70368744177664) (hnc : nn ≤ c) (hr : Rds w .u32 ad nn la) (da : Dig 4294967296 la) (hnb : -9223372036854775808 ≤ n ∧ n < 9223372036854775808) :
    Calls Tryz.prog 123 #[.slice ad nn c, .int .i64 n] w (RetLBB 23 .u32 (dg 4294967296 (shrNum (val 4294967296 la) n)) (shrMore (val 4294967296 la) n) (decide (0 ≤ n)) w) := by
  obtain ⟨hn1, hn2⟩ := hnb
  by_cases h0 : 0 ≤ n
  · by_cases hs : n / 32 < ((norm la).length : Nat)
    · have h := shr_good ad nn c la n w hn hnc hr da h0 hn2 hs
      unfold shrNum shrMore
      rw [if_pos h0, decide_eq_true h0, Bool.true_and]
      exact h
    · have hV0 := val_nonneg (by omega) da
      have hV1 : val 4294967296 la < 2 ^ n.toNat := by
        have h1 := val_lt (by omega) (norm_dig da)
        rw [val_norm] at h1
        have h2 : (4294967296 : Int) ^ (norm la).length = 2 ^ (32 * (norm la).length) := by rw [Int.pow_mul]; rfl
        rw [h2] at h1
        exact Int.lt_of_lt_of_le h1 (pow_le (by omega) (by omega))
      have HN := Lib.hid (show shrNum (val 4294967296 la) n = 0 by unfold shrNum; rw [if_pos h0]; exact Int.ediv_eq_zero_of_lt hV0 hV1)
      have HO := Lib.hid (show shrMore (val 4294967296 la) n = decide ((0 : Int) < ((norm la).length : Nat)) by
        unfold shrMore
        rw [decide_eq_true h0, Bool.true_and, Int.emod_eq_of_lt hV0 hV1, Bool.eq_iff_iff]
        simp only [decide_eq_true_eq]
        have e := norm_eq 4294967296 (by omega) da
        rw [e, show ((4294967296 : Nat) : Int) = 4294967296 from rfl]
        have h3 := dg_nil 4294967296 (val 4294967296 la) (by omega) hV0
        constructor
        · intro h4
          have := List.length_pos_iff.2 (fun h5 => h4 (h3.1 h5))
          omega
        · intro h4 h5
          rw [h3.2 h5] at h4
          simp at h4)
      have HC := Lib.hid (cut_calls ad nn c la w (by omega) hnc hr)
      have hml := norm_length_le la
      rw [hr.len] at hml
      have HD := Lib.hid (decide_eq_true h0)
      clear hr da hV0 hV1
      generalize (norm la).length = m at *
      have hnw : ¬ n < 0 := by omega
      go_enter Tryz.func123, Tryz.ntmps123
      go_wp2_with fail
      refine (HC.out).mono ?_
      rintro e w' ⟨rfl, rfl⟩
      go_wp2
      go_ret3
      rw [HN.out, HO.out, HD.out, dg_zero]
      refine ⟨none, 0, 0, ?_, Own.nil _ _ _ _ _, Below.refl _ _⟩
      first | rfl | simp
  · have HN := Lib.hid (show shrNum (val 4294967296 la) n = 0 by unfold shrNum; rw [if_neg h0])
    have HO := Lib.hid (show shrMore (val 4294967296 la) n = false by unfold shrMore; rw [decide_eq_false h0, Bool.false_and])
    have HD := Lib.hid (decide_eq_false h0)
    have hnw : n < 0 := by omega
    go_enter Tryz.func123, Tryz.ntmps123
    go_wp2
    go_ret3
    rw [HN.out, HO.out, HD.out, dg_zero]
    exact ⟨none, 0, 0, rfl, Own.nil _ _ _ _ _, Below.refl _ _⟩
end Go.Proofs.YtoimhjcpeifegaaGreatDoor

