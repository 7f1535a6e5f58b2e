/- Contracts of functions, and plain facts, part 6. -/
import Derived.BigRegion
import Derived.Lib.SmallJoins
import Derived.Deep.Fields
import Derived.KernelRfl
import Derived.Laws.Rows
import Derived.BigQuiet
import Derived.Deep.QuietTactic
import Derived.Test.YtoimhjcpeifegaaGreatDoorProg
import Derived.Test.YtoimhjcpeifegaaGreatDoorPk1
import Derived.Test.YtoimhjcpeifegaaGreatDoorPk2
import Derived.Test.YtoimhjcpeifegaaGreatDoorPk3
import Derived.Test.YtoimhjcpeifegaaGreatDoorPk4
import Derived.Test.YtoimhjcpeifegaaGreatDoorPk5
set_option linter.unusedVariables false
set_option linter.unusedSimpArgs false
/- nat.Shr: divided by 2 to the power of n, and is something left over? -/
namespace Go.Proofs.YtoimhjcpeifegaaGreatDoor
open Go.RowKit

/-- A limb moved down by r, and what comes down from above. -/
theorem or_down (x y : Int) (r : Nat) (hx : 0 ≤ x ∧ x < 4294967296) (hy : 0 ≤ y ∧ y < 4294967296) (h0 : 0 < r) (hr : r < 32) :
    bits .or .u32 (x / 2 ^ r) (y * 2 ^ (32 - r) % 4294967296) = x / 2 ^ r + y % 2 ^ r * 2 ^ (32 - r) ∧ 0 ≤ x / 2 ^ r ∧ x / 2 ^ r < 4294967296 ∧ 0 ≤ y % 2 ^ r * 2 ^ (32 - r) ∧ x / 2 ^ r + y % 2 ^ r * 2 ^ (32 - r) < 4294967296 ∧
      (y * 2 ^ (32 - r) % 4294967296 = 0 ↔ y % 2 ^ r = 0) := by
  obtain ⟨x, rfl⟩ := Int.eq_ofNat_of_zero_le hx.1
  obtain ⟨y, rfl⟩ := Int.eq_ofNat_of_zero_le hy.1
  have hB : (4294967296 : Nat) = 2 ^ (32 - r) * 2 ^ r := by rw [← Nat.pow_add, show (32 - r) + r = 32 by omega]
  have e1 : (x : Int) / 2 ^ r = ((x / 2 ^ r : Nat) : Int) := by simp
  have e2 : (y : Int) * 2 ^ (32 - r) % 4294967296 = ((y * 2 ^ (32 - r) % 4294967296 : Nat) : Int) := by simp
  have e3 : (y : Int) % 2 ^ r = ((y % 2 ^ r : Nat) : Int) := by simp
  have e4 : ((y % 2 ^ r : Nat) : Int) * 2 ^ (32 - r) = ((y % 2 ^ r * 2 ^ (32 - r) : Nat) : Int) := by simp
  have q : y * 2 ^ (32 - r) % 4294967296 = y % 2 ^ r * 2 ^ (32 - r) := by
    rw [hB, Nat.mul_comm y, Nat.mul_mod_mul_left, Nat.mul_comm]
  have hq : x / 2 ^ r < 2 ^ (32 - r) := by
    rw [Nat.div_lt_iff_lt_mul (Nat.two_pow_pos _), ← hB]
    omega
  have hd : y % 2 ^ r * 2 ^ (32 - r) % 2 ^ (32 - r) = 0 := Nat.mul_mod_left _ _
  have hpos := Nat.two_pow_pos (32 - r)
  have hl : y % 2 ^ r * 2 ^ (32 - r) + 2 ^ (32 - r) ≤ 4294967296 := by
    have h1 := Nat.mul_le_mul_right (2 ^ (32 - r)) (show y % 2 ^ r + 1 ≤ 2 ^ r from Nat.mod_lt _ (Nat.two_pow_pos r))
    rw [Nat.mul_comm (2 ^ r), ← hB, Nat.add_mul] at h1
    omega
  have hj := nat_join (32 - r) (y % 2 ^ r * 2 ^ (32 - r)) (x / 2 ^ r) hd hq
  rw [e1, e2, e3, e4, q]
  clear e1 e2 e3 e4 q hB hd
  have hiff : y % 2 ^ r * 2 ^ (32 - r) = 0 ↔ y % 2 ^ r = 0 := by
    rw [Nat.mul_eq_zero]
    omega
  generalize x / 2 ^ r = a at *
  generalize y % 2 ^ r * 2 ^ (32 - r) = b at *
  generalize 2 ^ (32 - r) = P at *
  generalize y % 2 ^ r = u at *
  refine ⟨?_, by omega, by omega, by omega, by omega, by omega⟩
  rw [u32_or_nat _ _ (by omega) (by omega), Nat.or_comm, hj, Nat.add_comm]
  simp

def ShrR (w : World) (W : World) (B0 : Nat) (zs : List Int) (R c0 : Int) (i : Nat) (wr : World) : Prop :=
  ∃ ys, Blk wr B0 23 .u32 ys ∧ ys.length = zs.length ∧ Dig 4294967296 ys ∧ Below w.heap.size w wr ∧ (∀ k, i ≤ k → ys[k]?.getD 0 = zs[k]?.getD 0) ∧
    val 4294967296 (ys.take i) * R + c0 = val 4294967296 (zs.take i) + 4294967296 ^ i * (zs[i]?.getD 0 % R)

set_option maxHeartbeats 2000000 in
theorem shr_good (ad : Option Addr) (nn c : Nat) (la : List Int) (n : Int) (w : World) (hn : nn ≤ 70368744177664) (hnc : nn ≤ c) (hr : Rds w .u32 ad nn la) (da : Dig 4294967296 la)
    (hn0 : 0 ≤ n) (hn1 : n < 9223372036854775808) (hsm : n / 32 < ((norm la).length : Nat)) :
    Calls Tryz.prog 123 #[.slice ad nn c, .int .i64 n] w (RetLBB 23 .u32 (dg 4294967296 (val 4294967296 la / 2 ^ n.toNat)) (decide (val 4294967296 la % 2 ^ n.toNat ≠ 0)) true w) := by
  have hc := Lib.hid (cut_calls ad nn c la w (by omega) hnc hr)
  have rx := hr.norm
  have dx := norm_dig da
  have hma := norm_length_le la
  rw [hr.len] at hma
  rw [← val_norm 4294967296 la]
  clear hr da
  generalize norm la = xs at *
  obtain ⟨m, hm⟩ : ∃ m, xs.length = m := ⟨_, rfl⟩
  rw [hm] at hc rx hma hsm
  have HM := Lib.hid hm
  clear hm
  obtain ⟨s, hs⟩ : ∃ s : Nat, n / 32 = s := ⟨(n / 32).toNat, by omega⟩
  obtain ⟨r, hrr⟩ : ∃ r : Nat, n % 32 = r := ⟨(n % 32).toNat, by omega⟩
  have hr32 : r < 32 := by omega
  have hsm' : s < m := by omega
  have hlo0 := val_nonneg (b := 4294967296) (by omega) (dx.take s)
  have hlo1 := val_lt (b := 4294967296) (by omega) (dx.take s)
  rw [List.length_take, HM.out, Nat.min_eq_left (by omega)] at hlo1
  have EV : (2 : Int) ^ n.toNat = 4294967296 ^ s * 2 ^ r := by
    have e : n.toNat = 32 * s + r := by omega
    rw [e, Int.pow_add, Int.pow_mul, show (2 : Int) ^ 32 = 4294967296 from rfl]
  have hsp := split_div (val 4294967296 (xs.take s)) (4294967296 ^ s) (val 4294967296 (xs.drop s)) (2 ^ r) hlo0 hlo1 (Int.pow_pos (by omega))
  rw [EV, val_split 4294967296 xs s (by rw [HM.out]; omega), hsp.1, hsp.2]
  clear EV hsp
  have hpm : decide (val 4294967296 (xs.take s) + 4294967296 ^ s * (val 4294967296 (xs.drop s) % 2 ^ r) ≠ 0) = (decide (val 4294967296 (xs.take s) ≠ 0) || decide (val 4294967296 (xs.drop s) % 2 ^ r ≠ 0)) := by
    have h1 : 0 ≤ val 4294967296 (xs.drop s) % 2 ^ r := Int.emod_nonneg _ (Int.ne_of_gt (Int.pow_pos (by omega)))
    have h2 : (0 : Int) < 4294967296 ^ s := Int.pow_pos (by omega)
    generalize val 4294967296 (xs.drop s) % 2 ^ r = t at *
    generalize val 4294967296 (xs.take s) = l at *
    generalize (4294967296 : Int) ^ s = P at *
    rw [Bool.eq_iff_iff]
    simp only [decide_eq_true_eq, Bool.or_eq_true]
    constructor
    · intro h
      by_cases hl : l = 0
      · refine .inr fun ht => h ?_
        rw [hl, ht]
        simp
      · exact .inl hl
    · rintro (h | h)
      · have := Int.mul_nonneg (Int.le_of_lt h2) h1
        omega
      · have := Int.mul_pos h2 (show 0 < t by omega)
        omega
  obtain ⟨MO, hMO⟩ : ∃ MO, (decide (val 4294967296 (xs.take s) ≠ 0) || decide (val 4294967296 (xs.drop s) % 2 ^ r ≠ 0)) = MO := ⟨_, rfl⟩
  have HMO0 := Lib.hid hMO
  rw [hpm, hMO]
  clear hpm hMO
  obtain ⟨a, rfl, hxs⟩ := rx.cell s (by omega)
  clear hxs
  have hmm : ¬ (n / 32 ≥ (m : Int)) := by omega
  have hsI : (s : Int) < m := by omega
  go_enter Tryz.func123, Tryz.ntmps123
  go_wp2_with fail
  refine (hc.out).mono ?_
  rintro e w' ⟨rfl, rfl⟩
  clear hc
  go_wp2_with fail
  go_loop [28, 5] (fun i b => ∃ k : Nat, ∃ mb : Bool, k ≤ s ∧ i = .int .i64 k ∧ b = .bool mb ∧ Hid (mb = decide (val 4294967296 (xs.take k) ≠ 0))) (fun i _ => s - (intOf i).toNat)
  case atStart => exact ⟨0, false, Nat.zero_le _, rfl, rfl, by simp [val, Hid]⟩
  case round =>
    obtain ⟨k, mb, hk, rfl, rfl, hmb⟩ := hrel
    by_cases hks : k < s
    · obtain ⟨a', ha', hxl⟩ := rx.cell k (by omega)
      injection ha' with ha'
      subst ha'
      have bx := dx.get (by omega) k
      have hv := Lib.hid (val_take_succ' 4294967296 xs k)
      have hv0 := val_nonneg (b := 4294967296) (by omega) (dx.take k)
      have HMB := Lib.hid (show (mb || decide (xs[k]?.getD 0 ≠ 0)) = decide (val 4294967296 (xs.take (k + 1)) ≠ 0) by
        rw [hmb.out, hv.out, Bool.eq_iff_iff]
        simp only [decide_eq_true_eq, Bool.or_eq_true]
        have h2 : (0 : Int) < 4294967296 ^ k := Int.pow_pos (by omega)
        generalize xs[k]?.getD 0 = x at *
        generalize (4294967296 : Int) ^ k = P at *
        constructor
        · rintro (h | h)
          · have := Int.mul_nonneg (Int.le_of_lt h2) bx.1
            omega
          · have := Int.mul_pos h2 (show 0 < x by omega)
            omega
        · intro h
          by_cases hx0 : x = 0
          · left; intro h3; apply h; rw [h3, hx0]; simp
          · exact .inr hx0)
      clear hv hv0 hmb
      generalize xs[k]?.getD 0 = x at *
      cases mb
      · by_cases hx0 : x = 0
        · subst hx0
          go_wp2
          go_round
          case rel => exact ⟨k + 1, false, by omega, by go_num, rfl, Lib.hid (by simpa using HMB.out)⟩
          case measure => simp [intOf]; omega
        · have hx1 : (x != 0) = true := by simp; exact hx0
          have HB2 := Lib.hid (show true = decide (val 4294967296 (xs.take (k + 1)) ≠ 0) by rw [← HMB.out, decide_eq_true hx0]; rfl)
          clear hx0
          go_wp2
          go_round
          case rel => exact ⟨k + 1, true, by omega, by go_num, rfl, HB2.out⟩
          case measure => simp [intOf]; omega
      · go_wp2
        go_round
        case rel => exact ⟨k + 1, true, by omega, by go_num, rfl, Lib.hid (by simpa using HMB.out)⟩
        case measure => simp [intOf]; omega
    · obtain rfl : k = s := by omega
      obtain ⟨L, hL⟩ : ∃ L, m - k = L := ⟨_, rfl⟩
      have hLI : (m : Int) - k = L := by omega
      have hL0 : 0 < L := by omega
      have hmk := make_rule (P := Tryz.prog) 32 23 .u32 4 Tryz.underlying32 info_limb (by omega) L (by omega) (L : Int) rfl
      have b0 : Below w.heap.size w (w.alloc (.cells (nums .u32 (List.replicate L 0)).toArray 23)) := (Below.refl _ _).alloc (Nat.le_refl _) _
      have r0 := (rx.below b0 (Nat.le_refl _)).drop k (by omega)
      rw [hL] at r0
      simp only [Option.map_some] at r0
      have k0 := Blk.made w 23 .u32 (List.replicate L 0) w.heap.size rfl
      have dzs := dx.drop k
      have HMO := Lib.hid (show (mb || decide (val 4294967296 (xs.drop k) % 2 ^ r ≠ 0)) = MO by rw [hmb.out]; exact HMO0.out)
      have HZL := Lib.hid (show (List.drop k xs).length = L by rw [List.length_drop, HM.out, hL])
      clear hmb hlo0 hlo1 dx rx HMO0
      generalize List.drop k xs = zs at *
      have hz0 : List.take 0 (List.replicate L (0 : Int)) ++ (zs ++ List.drop (0 + L) (List.replicate L (0 : Int))) = zs := by simp
      have HZ0 := Lib.hid hz0
      clear hz0
      have hmin : min r 32 = r := by omega
      by_cases hr0 : 0 < r
      · obtain ⟨c0, hc0⟩ : ∃ c0, zs[0]?.getD 0 % 2 ^ r = c0 := ⟨_, rfl⟩
        have hc00 : 0 ≤ c0 := by rw [← hc0]; exact Int.emod_nonneg _ (Int.ne_of_gt (Int.pow_pos (by omega)))
        have hc01 : c0 < 2 ^ r := by rw [← hc0]; exact Int.emod_lt_of_pos _ (Int.pow_pos (by omega))
        have HC0 := Lib.hid hc0
        have HBR := Lib.hid (show (4294967296 : Int) = 2 ^ r * 2 ^ (32 - r) by rw [← Int.pow_add, show r + (32 - r) = 32 by omega]; rfl)
        have HVC := Lib.hid (show val 4294967296 zs % 2 ^ r = c0 by
          rw [val_split 4294967296 zs 1 (by rw [HZL.out]; omega), val_take_succ', HBR.out, Int.pow_one, Int.mul_assoc, Int.add_mul_emod_self_left]
          simp only [List.take_zero, val, Int.pow_zero, Int.one_mul, Int.zero_add]
          exact hc0)
        have hor := or_down (zs[0]?.getD 0) (zs[0]?.getD 0) r (dzs.get (by omega) 0) (dzs.get (by omega) 0) hr0 hr32
        have HT := Lib.hid hor.2.2.2.2.2
        clear hor hc0
        cases mb
        · have HQ := Lib.hid (show (zs[0]?.getD 0 * 2 ^ (32 - r) % 4294967296 != 0) = MO by
            rw [← HMO.out, HVC.out, Bool.false_or, Bool.eq_iff_iff]
            simp only [bne_iff_ne, ne_eq, decide_eq_true_eq, HT.out, HC0.out])
          have hrI : (0 : Int) < r := by omega
          have W2 : (32 - (r : Int)).toNat = 32 - r := by omega
          have W7 : min (32 - r) 32 = 32 - r := by omega
          go_wp2_with (refine copy_law w.heap.size rfl (.tmp 44) (.tmp 48) 32 32 rfl 23 Tryz.underlying32 size_limb (some ⟨w.heap.size, 0, none⟩) (some (a.add k)) L L L L rfl rfl w.heap.size 0 .u32 (List.replicate L 0) zs k0 r0 (Nat.le_refl _) (fun _ => rfl) (by rw [List.length_replicate]; omega) b0 (Nat.le_refl _) ?_; intro w2 k2 b2; rw [HZ0.out] at k2; have cc := k2.cell 0 (by rw [HZL.out]; exact hL0))
          · have hI : ShrR w w2 w.heap.size zs (2 ^ r) c0 0 w2 := ⟨zs, k2, rfl, dzs, b2, fun _ _ => rfl, by simp only [List.take_zero, val, Int.zero_mul, Int.pow_zero, Int.one_mul, Int.zero_add]; exact HC0.out.symm⟩
            clear cc k0 b0 r0 hmk W2 W7
            clear k2 b2
            go_loopw [66] (fun i wr => ∃ j : Nat, j ≤ L ∧ i = .int .i64 j ∧ ShrR w w2 w.heap.size zs (2 ^ r) c0 j wr) (fun i _ => L - (intOf i).toNat)
            case atStart => exact ⟨0, Nat.zero_le _, rfl, hI⟩
            case round =>
              clear hI
              obtain ⟨i, hi, rfl, ys, h1, h2, h3, h4, h5, h6⟩ := hrel
              have H2 := Lib.hid h2
              have H5 := Lib.hid h5
              have H6 := Lib.hid h6
              clear h2 h5 h6
              by_cases hiL : i < L
              · have hci := h1.cell i (by rw [H2.out, HZL.out]; omega)
                rw [H5.out i (Nat.le_refl _)] at hci
                have hfi := h1.free i
                have bx := dzs.get (by omega) i
                have by1 := dzs.get (by omega) (i + 1)
                have ST := Lib.hid (shr_step 4294967296 (2 ^ r) (2 ^ (32 - r)) (Int.pow_pos (by omega)) HBR.out zs ys i (by rw [H2.out, HZL.out]; omega) c0 H6.out)
                obtain ⟨om1, om2, om3, om4, om5, om6⟩ := or_down (zs[i]?.getD 0) (zs[i + 1]?.getD 0) r bx by1 hr0 hr32
                have OM := Lib.hid om1
                have hiI : (i : Int) < L := by omega
                clear H6 om1 om6
                by_cases hi1 : i + 1 < L
                · have hiI1 : (i : Int) + 1 < L := by omega
                  generalize zs[i]?.getD 0 = x at *
                  have h1' := h1.set i (x / 2 ^ r)
                  have d1' := h3.set om2 om3 i
                  have b1' := below_set h4 w.heap.size i (.int .u32 (x / 2 ^ r)) (Nat.le_refl _)
                  have c1' := h1'.cell i (by rw [List.length_set, H2.out, HZL.out]; omega)
                  rw [List.getElem?_set_self (by rw [H2.out, HZL.out]; omega)] at c1'
                  simp only [Option.getD_some] at c1'
                  have c2' := h1'.cell (i + 1) (by rw [List.length_set, H2.out, HZL.out]; omega)
                  rw [List.getElem?_set_ne (by omega), H5.out (i + 1) (by omega)] at c2'
                  have f1' := h1'.free i
                  generalize hye : zs[i + 1]?.getD 0 = y at *
                  have HYE := Lib.hid hye
                  clear hye
                  have K1 := h1'.set i (x / 2 ^ r + y % 2 ^ r * 2 ^ (32 - r))
                  rw [List.set_set] at K1
                  have HL2 := Lib.hid (show ((ys.set i (x / 2 ^ r + y % 2 ^ r * 2 ^ (32 - r))).length = zs.length) by rw [List.length_set, H2.out])
                  have d2 := h3.set (show 0 ≤ x / 2 ^ r + y % 2 ^ r * 2 ^ (32 - r) by omega) om5 i
                  have b2 := below_set b1' w.heap.size i (.int .u32 (x / 2 ^ r + y % 2 ^ r * 2 ^ (32 - r))) (Nat.le_refl _)
                  go_wp2
                  clear hfi hci
                  generalize wr.setCell ⟨w.heap.size, i, none⟩ (.int .u32 (x / 2 ^ r)) = w3 at *
                  have W1 : IntKind.i64.wrap ((i : Int) + 1) = (i : Int) + 1 := IntWalk.i64_in _ (by omega)
                  have W2 : IntKind.i64.wrap (32 - (r : Int)) = 32 - (r : Int) := IntWalk.i64_in _ (by omega)
                  have W3 : ((i : Int) + 1).toNat = i + 1 := by omega
                  have W4 : (0 : Int) ≤ (i : Int) + 1 := by omega
                  have W5 : (32 - (r : Int)).toNat = 32 - r := by omega
                  have W6 : (0 : Int) ≤ 32 - (r : Int) := by omega
                  have W7 : min (32 - r) 32 = 32 - r := by omega
                  have W9 := OM.out
                  go_region
                  clear W1 W2 W3 W4 W5 W6 W7 W9
                  go_wp2
                  go_roundw
                  case rel =>
                    refine ⟨i + 1, by omega, by go_num, _, K1.drew, HL2.out, d2, below_drew b2, fun q hq => ?_, ?_⟩
                    · rw [List.getElem?_set_ne (by omega)]
                      exact H5.out q (by omega)
                    · rw [HYE.out]
                      exact ST.out
                  case measure => simp [intOf]; omega
                · have hiI1 : ¬ (i : Int) + 1 < L := by omega
                  have hy0 : zs[i + 1]?.getD 0 = 0 := by rw [List.getElem?_eq_none (by rw [HZL.out]; omega)]; rfl
                  rw [hy0, Int.zero_emod, Int.zero_mul, Int.add_zero] at ST
                  have HY := Lib.hid hy0
                  clear hy0 by1 om4 om5 OM
                  generalize zs[i]?.getD 0 = x at *
                  have K1 := h1.set i (x / 2 ^ r)
                  have d1' := h3.set om2 om3 i
                  have b1' := below_set h4 w.heap.size i (.int .u32 (x / 2 ^ r)) (Nat.le_refl _)
                  have HL2 := Lib.hid (show ((ys.set i (x / 2 ^ r)).length = zs.length) by rw [List.length_set, H2.out])
                  go_wp2
                  go_roundw
                  case rel =>
                    refine ⟨i + 1, by omega, by go_num, _, K1, HL2.out, d1', b1', fun q hq => ?_, ?_⟩
                    · rw [List.getElem?_set_ne (by omega)]
                      exact H5.out q (by omega)
                    · rw [HY.out, Int.zero_emod]
                      exact ST.out
                  case measure => simp [intOf]; omega
              · obtain rfl : i = L := by omega
                have HV := Lib.hid (show val 4294967296 ys = val 4294967296 zs / 2 ^ r by
                  have e := H6.out
                  rw [List.take_of_length_le (by rw [H2.out, HZL.out]; exact Nat.le_refl _), List.take_of_length_le (by rw [HZL.out]; exact Nat.le_refl _), List.getElem?_eq_none (by rw [HZL.out]; exact Nat.le_refl _)] at e
                  simp only [Option.getD_none, Int.zero_emod, Int.mul_zero, Int.add_zero] at e
                  rw [← e, Int.add_comm, Int.add_mul_ediv_right _ _ (Int.ne_of_gt (Int.pow_pos (by omega))), Int.ediv_eq_zero_of_lt hc00 hc01, Int.zero_add])
                have hcut := Lib.hid (cut_calls (some ⟨w.heap.size, 0, none⟩) i i _ wr (by omega) (Nat.le_refl _) (by have := h1.rds; rwa [H2.out, HZL.out] at this))
                have R := h1.ret (Nat.le_refl _) (by rw [H2.out, HZL.out]; omega) h3 _ HV.out h4
                obtain ⟨rd, rn, rc, re, ro, rb⟩ := R
                have RE := Lib.hid re
                clear re
                go_wp2_with fail
                refine (hcut.out).mono ?_
                rintro e w' ⟨rfl, rfl⟩
                go_wp2_with fail
                go_ret3
                have re := RE.out
                injection re with re
                injection re with e1 e2 e3
                refine ⟨rd, rn, rc, ?_, ro, rb⟩
                rw [← HQ.out, ← e1, ← e2, ← e3]
                rfl
        · have HQ := Lib.hid (show true = MO by rw [← HMO.out, Bool.true_or])
          have hrI : (0 : Int) < r := by omega
          go_wp2_with (refine copy_law w.heap.size rfl (.tmp 44) (.tmp 48) 32 32 rfl 23 Tryz.underlying32 size_limb (some ⟨w.heap.size, 0, none⟩) (some (a.add k)) L L L L rfl rfl w.heap.size 0 .u32 (List.replicate L 0) zs k0 r0 (Nat.le_refl _) (fun _ => rfl) (by rw [List.length_replicate]; omega) b0 (Nat.le_refl _) ?_; intro w2 k2 b2; rw [HZ0.out] at k2; have cc := k2.cell 0 (by rw [HZL.out]; exact hL0))
          · have hI : ShrR w w2 w.heap.size zs (2 ^ r) c0 0 w2 := ⟨zs, k2, rfl, dzs, b2, fun _ _ => rfl, by simp only [List.take_zero, val, Int.zero_mul, Int.pow_zero, Int.one_mul, Int.zero_add]; exact HC0.out.symm⟩
            clear cc k0 b0 r0 hmk
            clear k2 b2
            go_loopw [66] (fun i wr => ∃ j : Nat, j ≤ L ∧ i = .int .i64 j ∧ ShrR w w2 w.heap.size zs (2 ^ r) c0 j wr) (fun i _ => L - (intOf i).toNat)
            case atStart => exact ⟨0, Nat.zero_le _, rfl, hI⟩
            case round =>
              clear hI
              obtain ⟨i, hi, rfl, ys, h1, h2, h3, h4, h5, h6⟩ := hrel
              have H2 := Lib.hid h2
              have H5 := Lib.hid h5
              have H6 := Lib.hid h6
              clear h2 h5 h6
              by_cases hiL : i < L
              · have hci := h1.cell i (by rw [H2.out, HZL.out]; omega)
                rw [H5.out i (Nat.le_refl _)] at hci
                have hfi := h1.free i
                have bx := dzs.get (by omega) i
                have by1 := dzs.get (by omega) (i + 1)
                have ST := Lib.hid (shr_step 4294967296 (2 ^ r) (2 ^ (32 - r)) (Int.pow_pos (by omega)) HBR.out zs ys i (by rw [H2.out, HZL.out]; omega) c0 H6.out)
                obtain ⟨om1, om2, om3, om4, om5, om6⟩ := or_down (zs[i]?.getD 0) (zs[i + 1]?.getD 0) r bx by1 hr0 hr32
                have OM := Lib.hid om1
                have hiI : (i : Int) < L := by omega
                clear H6 om1 om6
                by_cases hi1 : i + 1 < L
                · have hiI1 : (i : Int) + 1 < L := by omega
                  generalize zs[i]?.getD 0 = x at *
                  have h1' := h1.set i (x / 2 ^ r)
                  have d1' := h3.set om2 om3 i
                  have b1' := below_set h4 w.heap.size i (.int .u32 (x / 2 ^ r)) (Nat.le_refl _)
                  have c1' := h1'.cell i (by rw [List.length_set, H2.out, HZL.out]; omega)
                  rw [List.getElem?_set_self (by rw [H2.out, HZL.out]; omega)] at c1'
                  simp only [Option.getD_some] at c1'
                  have c2' := h1'.cell (i + 1) (by rw [List.length_set, H2.out, HZL.out]; omega)
                  rw [List.getElem?_set_ne (by omega), H5.out (i + 1) (by omega)] at c2'
                  have f1' := h1'.free i
                  generalize hye : zs[i + 1]?.getD 0 = y at *
                  have HYE := Lib.hid hye
                  clear hye
                  have K1 := h1'.set i (x / 2 ^ r + y % 2 ^ r * 2 ^ (32 - r))
                  rw [List.set_set] at K1
                  have HL2 := Lib.hid (show ((ys.set i (x / 2 ^ r + y % 2 ^ r * 2 ^ (32 - r))).length = zs.length) by rw [List.length_set, H2.out])
                  have d2 := h3.set (show 0 ≤ x / 2 ^ r + y % 2 ^ r * 2 ^ (32 - r) by omega) om5 i
                  have b2 := below_set b1' w.heap.size i (.int .u32 (x / 2 ^ r + y % 2 ^ r * 2 ^ (32 - r))) (Nat.le_refl _)
                  go_wp2
                  clear hfi hci
                  generalize wr.setCell ⟨w.heap.size, i, none⟩ (.int .u32 (x / 2 ^ r)) = w3 at *
                  have W1 : IntKind.i64.wrap ((i : Int) + 1) = (i : Int) + 1 := IntWalk.i64_in _ (by omega)
                  have W2 : IntKind.i64.wrap (32 - (r : Int)) = 32 - (r : Int) := IntWalk.i64_in _ (by omega)
                  have W3 : ((i : Int) + 1).toNat = i + 1 := by omega
                  have W4 : (0 : Int) ≤ (i : Int) + 1 := by omega
                  have W5 : (32 - (r : Int)).toNat = 32 - r := by omega
                  have W6 : (0 : Int) ≤ 32 - (r : Int) := by omega
                  have W7 : min (32 - r) 32 = 32 - r := by omega
                  have W9 := OM.out
                  go_region
                  clear W1 W2 W3 W4 W5 W6 W7 W9
                  go_wp2
                  go_roundw
                  case rel =>
                    refine ⟨i + 1, by omega, by go_num, _, K1.drew, HL2.out, d2, below_drew b2, fun q hq => ?_, ?_⟩
                    · rw [List.getElem?_set_ne (by omega)]
                      exact H5.out q (by omega)
                    · rw [HYE.out]
                      exact ST.out
                  case measure => simp [intOf]; omega
                · have hiI1 : ¬ (i : Int) + 1 < L := by omega
                  have hy0 : zs[i + 1]?.getD 0 = 0 := by rw [List.getElem?_eq_none (by rw [HZL.out]; omega)]; rfl
                  rw [hy0, Int.zero_emod, Int.zero_mul, Int.add_zero] at ST
                  have HY := Lib.hid hy0
                  clear hy0 by1 om4 om5 OM
                  generalize zs[i]?.getD 0 = x at *
                  have K1 := h1.set i (x / 2 ^ r)
                  have d1' := h3.set om2 om3 i
                  have b1' := below_set h4 w.heap.size i (.int .u32 (x / 2 ^ r)) (Nat.le_refl _)
                  have HL2 := Lib.hid (show ((ys.set i (x / 2 ^ r)).length = zs.length) by rw [List.length_set, H2.out])
                  go_wp2
                  go_roundw
                  case rel =>
                    refine ⟨i + 1, by omega, by go_num, _, K1, HL2.out, d1', b1', fun q hq => ?_, ?_⟩
                    · rw [List.getElem?_set_ne (by omega)]
                      exact H5.out q (by omega)
                    · rw [HY.out, Int.zero_emod]
                      exact ST.out
                  case measure => simp [intOf]; omega
              · obtain rfl : i = L := by omega
                have HV := Lib.hid (show val 4294967296 ys = val 4294967296 zs / 2 ^ r by
                  have e := H6.out
                  rw [List.take_of_length_le (by rw [H2.out, HZL.out]; exact Nat.le_refl _), List.take_of_length_le (by rw [HZL.out]; exact Nat.le_refl _), List.getElem?_eq_none (by rw [HZL.out]; exact Nat.le_refl _)] at e
                  simp only [Option.getD_none, Int.zero_emod, Int.mul_zero, Int.add_zero] at e
                  rw [← e, Int.add_comm, Int.add_mul_ediv_right _ _ (Int.ne_of_gt (Int.pow_pos (by omega))), Int.ediv_eq_zero_of_lt hc00 hc01, Int.zero_add])
                have hcut := Lib.hid (cut_calls (some ⟨w.heap.size, 0, none⟩) i i _ wr (by omega) (Nat.le_refl _) (by have := h1.rds; rwa [H2.out, HZL.out] at this))
                have R := h1.ret (Nat.le_refl _) (by rw [H2.out, HZL.out]; omega) h3 _ HV.out h4
                obtain ⟨rd, rn, rc, re, ro, rb⟩ := R
                have RE := Lib.hid re
                clear re
                go_wp2_with fail
                refine (hcut.out).mono ?_
                rintro e w' ⟨rfl, rfl⟩
                go_wp2_with fail
                go_ret3
                have re := RE.out
                injection re with re
                injection re with e1 e2 e3
                refine ⟨rd, rn, rc, ?_, ro, rb⟩
                rw [← HQ.out, ← e1, ← e2, ← e3]
                rfl
      · obtain rfl : r = 0 := by omega
        have HQ := Lib.hid (show mb = MO by rw [← HMO.out]; simp)
        have HV := Lib.hid (show val 4294967296 zs = val 4294967296 zs / 2 ^ 0 by simp)
        go_wp2_with (refine copy_law w.heap.size rfl (.tmp 44) (.tmp 48) 32 32 rfl 23 Tryz.underlying32 size_limb (some ⟨w.heap.size, 0, none⟩) (some (a.add k)) L L L L rfl rfl w.heap.size 0 .u32 (List.replicate L 0) zs k0 r0 (Nat.le_refl _) (fun _ => rfl) (by rw [List.length_replicate]; omega) b0 (Nat.le_refl _) ?_; intro w2 k2 b2; rw [HZ0.out] at k2; have cc := k2.cell 0 (by rw [HZL.out]; exact hL0))
        have hcut := Lib.hid (cut_calls (some ⟨w.heap.size, 0, none⟩) L L _ w2 (by omega) (Nat.le_refl _) (by have := k2.rds; rwa [HZL.out] at this))
        have R := k2.ret (Nat.le_refl _) (by rw [HZL.out]; omega) dzs _ HV.out b2
        obtain ⟨rd, rn, rc, re, ro, rb⟩ := R
        have RE := Lib.hid re
        clear re cc
        refine (hcut.out).mono ?_
        rintro e w' ⟨rfl, rfl⟩
        go_wp2_with fail
        go_ret3
        have re := RE.out
        injection re with re
        injection re with e1 e2 e3
        refine ⟨rd, rn, rc, ?_, ro, rb⟩
        rw [← HQ.out, ← e1, ← e2, ← e3]
        rfl

/-- nat.Shr at any number. -/
theorem shr_calls (ad : Option Addr) (nn c : Nat) (la : List Int) (n : Int) (w : World) (hn : nn ≤ 70368744177664) (hnc : nn ≤ c) (hr : Rds w .u32 ad nn la) (da : Dig 4294967296 la) (hnb : -9223372036854775808 ≤ n ∧ n < 9223372036854775808) :
    Calls Tryz.prog 123 #[.slice ad nn c, .int .i64 n] w (RetLBB 23 .u32 (dg 4294967296 (shrNum (val 4294967296 la) n)) (shrMore (val 4294967296 la) n) (decide (0 ≤ n)) w) := by
  obtain ⟨hn1, hn2⟩ := hnb
  by_cases h0 : 0 ≤ n
  · by_cases hs : n / 32 < ((norm la).length : Nat)
    · have h := shr_good ad nn c la n w hn hnc hr da h0 hn2 hs
      unfold shrNum shrMore
      rw [if_pos h0, decide_eq_true h0, Bool.true_and]
      exact h
    · have hV0 := val_nonneg (by omega) da
      have hV1 : val 4294967296 la < 2 ^ n.toNat := by
        have h1 := val_lt (by omega) (norm_dig da)
        rw [val_norm] at h1
        have h2 : (4294967296 : Int) ^ (norm la).length = 2 ^ (32 * (norm la).length) := by rw [Int.pow_mul]; rfl
        rw [h2] at h1
        exact Int.lt_of_lt_of_le h1 (pow_le (by omega) (by omega))
      have HN := Lib.hid (show shrNum (val 4294967296 la) n = 0 by unfold shrNum; rw [if_pos h0]; exact Int.ediv_eq_zero_of_lt hV0 hV1)
      have HO := Lib.hid (show shrMore (val 4294967296 la) n = decide ((0 : Int) < ((norm la).length : Nat)) by
        unfold shrMore
        rw [decide_eq_true h0, Bool.true_and, Int.emod_eq_of_lt hV0 hV1, Bool.eq_iff_iff]
        simp only [decide_eq_true_eq]
        have e := norm_eq 4294967296 (by omega) da
        rw [e, show ((4294967296 : Nat) : Int) = 4294967296 from rfl]
        have h3 := dg_nil 4294967296 (val 4294967296 la) (by omega) hV0
        constructor
        · intro h4
          have := List.length_pos_iff.2 (fun h5 => h4 (h3.1 h5))
          omega
        · intro h4 h5
          rw [h3.2 h5] at h4
          simp at h4)
      have HC := Lib.hid (cut_calls ad nn c la w (by omega) hnc hr)
      have hml := norm_length_le la
      rw [hr.len] at hml
      have HD := Lib.hid (decide_eq_true h0)
      clear hr da hV0 hV1
      generalize (norm la).length = m at *
      have hnw : ¬ n < 0 := by omega
      go_enter Tryz.func123, Tryz.ntmps123
      go_wp2_with fail
      refine (HC.out).mono ?_
      rintro e w' ⟨rfl, rfl⟩
      go_wp2
      go_ret3
      rw [HN.out, HO.out, HD.out, dg_zero]
      refine ⟨none, 0, 0, ?_, Own.nil _ _ _ _ _, Below.refl _ _⟩
      first | rfl | simp
  · have HN := Lib.hid (show shrNum (val 4294967296 la) n = 0 by unfold shrNum; rw [if_neg h0])
    have HO := Lib.hid (show shrMore (val 4294967296 la) n = false by unfold shrMore; rw [decide_eq_false h0, Bool.false_and])
    have HD := Lib.hid (decide_eq_false h0)
    have hnw : n < 0 := by omega
    go_enter Tryz.func123, Tryz.ntmps123
    go_wp2
    go_ret3
    rw [HN.out, HO.out, HD.out, dg_zero]
    exact ⟨none, 0, 0, rfl, Own.nil _ _ _ _ _, Below.refl _ _⟩
end Go.Proofs.YtoimhjcpeifegaaGreatDoor


/- Uint by worth alone. -/
namespace Go.Proofs.YtoimhjcpeifegaaGreatDoor
open Go.RowKit

theorem num_uint (ad : Option Addr) (n c : Nat) (V : Int) (w : World) (h : Num w ad n c V) (hn : n ≤ 70368744177663) :
    Calls Tryz.prog 122 #[.slice ad n c] w (fun e w' => e = .returned (.tuple #[.int .u64 (low64 V), .bool (fits64 V)]) ∧ w = w') := by
  obtain ⟨xs, h1, h2, rfl⟩ := h.row
  exact (uint_calls ad n c xs w (by omega) h.le h1 h2).mono fun e w' q => q
end Go.Proofs.YtoimhjcpeifegaaGreatDoor


/- A row in memory that a call may write upon, known at its first places; one block alone has turned. -/
namespace Go.Proofs.YtoimhjcpeifegaaGreatDoor
open Go.RowKit

/-- The first cells of block b read as xs; they may be written upon. -/
def RowAt (w : World) (b : Nat) (t : TypeId) (k : IntKind) (xs : List Int) : Prop :=
  ∃ cs, w.heap[b]? = some (.cells cs t (0, 0)) ∧ xs.length ≤ cs.size ∧ ∀ j, j < xs.length → cs[j]? = some (.int k (xs[j]?.getD 0))

theorem RowAt.lt {w : World} {b : Nat} {t : TypeId} {k : IntKind} {xs : List Int} (h : RowAt w b t k xs) : b < w.heap.size := by
  obtain ⟨cs, h1, _⟩ := h
  exact (Array.getElem?_eq_some_iff.1 h1).1
theorem RowAt.cell {w : World} {b : Nat} {t : TypeId} {k : IntKind} {xs : List Int} (h : RowAt w b t k xs) (j : Nat) (hj : j < xs.length) :
    w.cell? ⟨b, j, none⟩ = some (.int k (xs[j]?.getD 0)) := by
  obtain ⟨cs, h1, _, h3⟩ := h
  simp [World.cell?, h1, h3 j hj]
theorem RowAt.free {w : World} {b : Nat} {t : TypeId} {k : IntKind} {xs : List Int} (h : RowAt w b t k xs) (j : Nat) : w.frozen? ⟨b, j, none⟩ = false := by
  obtain ⟨cs, h1, _⟩ := h
  simp [World.frozen?, h1]
theorem RowAt.drewN {w : World} {b : Nat} {t : TypeId} {k : IntKind} {xs : List Int} (h : RowAt w b t k xs) (n : Nat) : RowAt (w.drewN n) b t k xs := h
theorem RowAt.drew {w : World} {b : Nat} {t : TypeId} {k : IntKind} {xs : List Int} (h : RowAt w b t k xs) : RowAt w.drew b t k xs := h
theorem RowAt.set {w : World} {b : Nat} {t : TypeId} {k : IntKind} {xs : List Int} (h : RowAt w b t k xs) (j : Nat) (x : Int) : RowAt (w.setCell ⟨b, j, none⟩ (.int k x)) b t k (xs.set j x) := by
  obtain ⟨cs, h1, h2, h3⟩ := h
  refine ⟨cs.setIfInBounds j (.int k x), ?_, by simpa using h2, fun i hi => ?_⟩
  · simp only [World.setCell, Array.getElem?_modify, h1, if_true, Option.map_some, Option.isSome_none]
    simp
  · rw [List.length_set] at hi
    rw [Array.getElem?_setIfInBounds, List.getElem?_set]
    by_cases e : j = i
    · subst e
      rw [if_pos rfl, if_pos (by omega), if_pos rfl, if_pos hi]
      rfl
    · rw [if_neg e, if_neg e]
      exact h3 i hi
theorem RowAt.below {w w1 : World} {b : Nat} {t : TypeId} {k : IntKind} {xs : List Int} (h : RowAt w b t k xs) {B : Nat} (hb : Below B w w1) (hB : b < B) : RowAt w1 b t k xs := by
  obtain ⟨cs, h1, h2⟩ := h
  exact ⟨cs, (hb.block b hB).trans h1, h2⟩
theorem RowAt.part {w : World} {b : Nat} {t : TypeId} {k : IntKind} {xs : List Int} (h : RowAt w b t k xs) (j n : Nat) (hj : j + n ≤ xs.length) : Rds w k (some ⟨b, j, none⟩) n ((xs.drop j).take n) := by
  refine ⟨by rw [List.length_take, List.length_drop]; omega, fun i hi => ⟨_, rfl, ?_⟩⟩
  have e : (⟨b, j, none⟩ : Addr).add i = ⟨b, j + i, none⟩ := by unfold Addr.add; split <;> simp_all
  rw [e, h.cell (j + i) (by omega), List.getElem?_take_of_lt hi, List.getElem?_drop]
theorem RowAt.first {w : World} {b : Nat} {t : TypeId} {k : IntKind} {xs : List Int} (h : RowAt w b t k xs) (n : Nat) (hn : n ≤ xs.length) : RowAt w b t k (xs.take n) := by
  obtain ⟨cs, h1, h2, h3⟩ := h
  refine ⟨cs, h1, by rw [List.length_take]; omega, fun j hj => ?_⟩
  rw [List.length_take] at hj
  rw [h3 j (by omega), List.getElem?_take_of_lt (by omega)]
theorem RowAt.rds {w : World} {b : Nat} {t : TypeId} {k : IntKind} {xs : List Int} (h : RowAt w b t k xs) : Rds w k (some ⟨b, 0, none⟩) xs.length xs :=
  ⟨rfl, fun j hj => ⟨_, rfl, by rw [plain_add]; exact h.cell j hj⟩⟩
/-- Block b alone has turned. -/
structure Only (b : Nat) (w w' : World) : Prop where
  os : w'.os = w.os
  tape : w'.tape = w.tape
  output : w'.output = w.output
  size : w'.heap.size = w.heap.size
  rest : ∀ i, i ≠ b → w'.heap[i]? = w.heap[i]?
theorem Only.refl (b : Nat) (w : World) : Only b w w := ⟨rfl, rfl, rfl, rfl, fun _ _ => rfl⟩
theorem Only.set {b : Nat} {w W : World} (h : Only b w W) (j : Nat) (v : Value) : Only b w (W.setCell ⟨b, j, none⟩ v) := by
  refine ⟨h.os, h.tape, h.output, ?_, fun i hi => ?_⟩
  · simp only [World.setCell, Array.size_modify]
    exact h.size
  · simp only [World.setCell, Array.getElem?_modify]
    rw [if_neg (fun e => hi e.symm)]
    exact h.rest i hi
theorem Only.drewN {b : Nat} {w W : World} (h : Only b w W) (n : Nat) : Only b w (W.drewN n) := ⟨h.os, h.tape, h.output, h.size, h.rest⟩
theorem Only.drew {b : Nat} {w W : World} (h : Only b w W) : Only b w W.drew := ⟨h.os, h.tape, h.output, h.size, h.rest⟩
theorem Only.trans {b : Nat} {w w1 w2 : World} (h : Only b w w1) (k : Only b w1 w2) : Only b w w2 :=
  ⟨k.os.trans h.os, k.tape.trans h.tape, k.output.trans h.output, k.size.trans h.size, fun i hi => (k.rest i hi).trans (h.rest i hi)⟩
theorem Only.below {B b : Nat} {w0 w w' : World} (hb : Below B w0 w) (hB : B ≤ b) (h : Only b w w') : Below B w0 w' :=
  hb.trans ⟨h.os, h.tape, h.output, Nat.le_of_eq h.size.symm, fun i hi => h.rest i (by omega)⟩
theorem Rds.only {w w1 : World} {k : IntKind} {ad : Option Addr} {n : Nat} {xs : List Int} (h : Rds w k ad n xs) {b : Nat} (ho : Only b w w1) (hne : ∀ a, ad = some a → a.block ≠ b) : Rds w1 k ad n xs :=
  ⟨h.len, fun j hj => by
    obtain ⟨a, e, hc⟩ := h.cell j hj
    refine ⟨a, e, ?_⟩
    rw [← hc]
    have e2 : (a.add j).block = a.block := by unfold Addr.add; split <;> rfl
    have e3 := ho.rest a.block (hne a e)
    simp only [World.cell?, e2, e3]⟩
theorem RowAt.only {w w1 : World} {c : Nat} {t : TypeId} {k : IntKind} {xs : List Int} (h : RowAt w c t k xs) {b : Nat} (ho : Only b w w1) (hne : c ≠ b) : RowAt w1 c t k xs := by
  obtain ⟨cs, h1, h2⟩ := h
  exact ⟨cs, (ho.rest c hne).trans h1, h2⟩
theorem Blk.only {w w1 : World} {c : Nat} {t : TypeId} {k : IntKind} {xs : List Int} (h : Blk w c t k xs) {b : Nat} (ho : Only b w w1) (hne : c ≠ b) : Blk w1 c t k xs := (ho.rest c hne).trans h

end Go.Proofs.YtoimhjcpeifegaaGreatDoor


/- From a row's reading of a whole number (a struct of a sign and a list) to what the walks ask. -/
namespace Go.Proofs.YtoimhjcpeifegaaGreatDoor
open Go.ChangeShapes Go.WideShapes Go.RowKit

theorem cellsInt2 : Tryz.prog.cellsOf 34 = 2 := by kernel_rfl
theorem cellsLimb : Tryz.prog.cellsOf 23 = 1 := by kernel_rfl
theorem bytesLimb : Tryz.prog.bytesOf 23 = 4 := by kernel_rfl

end Go.Proofs.YtoimhjcpeifegaaGreatDoor


/- Whole numbers: signed, made, Norm of the program. -/
namespace Go.Proofs.YtoimhjcpeifegaaGreatDoor
open Go.RowKit

/-- A number of a sign and a size. -/
def sI (ng : Bool) (V : Int) : Int := if ng then -V else V
/-- The sign. -/
def sgI (N : Int) : Int := if N < 0 then -1 else if N = 0 then 0 else 1
theorem sI_abs (ng : Bool) (V : Int) (h : 0 ≤ V) : ((sI ng V).natAbs : Int) = V := by unfold sI; cases ng <;> simp <;> omega
/-- A whole number in normal form is told. -/
def RetInt (N : Int) (w : World) (e : Ending) (w' : World) : Prop :=
  ∃ ad n c, e = .returned (.agg #[.bool (decide (N < 0)), .slice ad n c]) ∧ Can w' ad n c N.natAbs ∧ Below w.heap.size w w'
def RetIntB (N : Int) (ok : Bool) (w : World) (e : Ending) (w' : World) : Prop :=
  ∃ ad n c, e = .returned (.tuple #[.agg #[.bool (decide (N < 0)), .slice ad n c], .bool ok]) ∧ Can w' ad n c N.natAbs ∧ Below w.heap.size w w'

theorem size_int : (Tryz.prog.info? 34).map (·.size) = some 2 := by kernel_rfl

theorem results_row_tmp {P : Program} {fn : Func} {p u : Tmp} {ty : TypeId} (h : fn.results = #[.cell p ty, .tmp u]) (tmps : Array Value) (w : World) (g : Nat) (t : TypeId) (cs : Array Value) (fr : Nat × Nat) (d : TypeDesc)
    (hp : tmps.getD p undef = .pointer (some ⟨g, 0, none⟩)) (hg : w.heap[g]? = some (.cells cs t fr))
    (hu : P.underlying ty = some d) (hd : (match d with | .struct _ | .array _ _ => true | _ => false) = true) (hi : (P.info? ty).map (·.size) = some cs.size) :
    (results fn tmps).run P w = .ok (.tuple #[.agg cs, tmps.getD u undef]) w := by
  have hp' : tmps[p]?.getD undef = .pointer (some ⟨g, 0, none⟩) := by simpa using hp
  simp [results, h, hp', asAddr, run_loadVar_row w g t ty cs fr d hg hu hd hi]

theorem wmade_calls (s : Int) (ad : Option Addr) (n c : Nat) (V : Int) (w : World) (h : Can w ad n c V) (hV : 0 ≤ V) :
    Calls Tryz.prog 118 #[.int .i8 s, .slice ad n c] w (fun e w' => e = .returned (.agg #[.bool (decide (s = -1) && decide (0 < V)), .slice ad n c]) ∧ Below w.heap.size w w') := by
  have hz := h.zero_iff hV
  have hb : ∀ r : Bool, Below w.heap.size w (w.alloc (.cells #[.bool r, .slice ad n c] 34)) := fun r => (Below.refl _ _).alloc (Nat.le_refl _) _
  have HB := Lib.hid hb
  clear hb h
  obtain ⟨r, hr⟩ : ∃ r, r = (decide (s = -1) && decide (0 < V)) := ⟨_, rfl⟩
  rw [← hr]
  by_cases hs : s = -1
  · subst hs
    by_cases hn : n = 0
    · subst hn
      have HR := Lib.hid (show r = false by rw [hr, hz.1 rfl]; decide)
      clear hz hr
      go_enter Tryz.func118, Tryz.ntmps118
      go_wp2
      refine bodyPost_ret (results_cell_row rfl _ _ w.heap.size 34 #[.bool false, .slice ad 0 c] (0, 0) _ rfl (heap_alloc_new _ _) Tryz.underlying34 rfl size_int) rfl ?_
      rw [HR.out]
      exact ⟨rfl, HB.out _⟩
    · have HR := Lib.hid (show r = true by rw [hr]; simp; omega)
      have hn2 : decide (0 < n) = true := by simp; omega
      clear hz hn hr
      go_enter Tryz.func118, Tryz.ntmps118
      go_wp2
      refine bodyPost_ret (results_cell_row rfl _ _ w.heap.size 34 #[.bool true, .slice ad n c] (0, 0) _ rfl (heap_alloc_new _ _) Tryz.underlying34 rfl size_int) rfl ?_
      rw [HR.out]
      exact ⟨rfl, HB.out _⟩
  · have HR := Lib.hid (show r = false by rw [hr, decide_eq_false hs]; rfl)
    have hs2 : (s == -1) = false := by simpa using hs
    clear hz hs hr
    go_enter Tryz.func118, Tryz.ntmps118
    go_wp2
    refine bodyPost_ret (results_cell_row rfl _ _ w.heap.size 34 #[.bool false, .slice ad n c] (0, 0) _ rfl (heap_alloc_new _ _) Tryz.underlying34 rfl size_int) rfl ?_
    rw [HR.out]
    exact ⟨rfl, HB.out _⟩

theorem wsigned_calls (ng : Bool) (ad : Option Addr) (n c : Nat) (V : Int) (w : World) (h : Num w ad n c V) (hn : n ≤ 70368744177663) :
    Calls Tryz.prog 113 #[.agg #[.bool ng, .slice ad n c]] w (fun e w' => ∃ ad' n' c', e = .returned (.tuple #[.int .i8 (sgI (sI ng V)), .slice ad' n' c']) ∧ Can w' ad' n' c' V ∧ Below w.heap.size w w') := by
  have hV := h.nonneg
  have bA : Below w.heap.size w (w.alloc (.cells #[.bool ng, .slice ad n c] 34)) := (Below.refl _ _).alloc (Nat.le_refl _) _
  have c0 : (w.alloc (.cells #[.bool ng, .slice ad n c] 34)).cell? ⟨w.heap.size, 0, none⟩ = some (.bool ng) := World.cell?_alloc_at _ _ _ _ rfl
  have c1 : (w.alloc (.cells #[.bool ng, .slice ad n c] 34)).cell? ⟨w.heap.size, 1, none⟩ = some (.slice ad n c) := World.cell?_alloc_at _ _ _ _ rfl
  have HN := Lib.hid (num_norm ad n c V _ (h.below bA (Nat.le_refl _)) hn)
  clear h
  go_enter Tryz.func113, Tryz.ntmps113
  go_wp2_with fail
  refine (HN.out).mono ?_
  rintro e w1 ⟨ad1, n1, c1', rfl, f1, b1⟩
  have d0 := below_cell b1 (Nat.le_refl _) c0
  have d1 := below_cell b1 (Nat.le_refl _) c1
  have b2 := below_trans bA b1
  clear c0 c1 HN
  have hz := f1.zero_iff hV
  by_cases hn1 : n1 = 0
  · have hV0 := hz.1 hn1
    subst hn1 hV0
    have HS := Lib.hid (show sgI (sI ng 0) = 0 by cases ng <;> decide)
    clear hz
    go_wp2
    go_ret2
    rw [HS.out]
    exact ⟨none, 0, 0, rfl, ⟨Nat.le_refl _, by rw [dg_zero]; exact Rds.nil _ _ _⟩, b2⟩
  · have hn2 : ((n1 : Int) == 0) = false := by simp; omega
    have hV1 : 0 < V := by have : V ≠ 0 := fun e => hn1 (hz.2 e); omega
    clear hz hn1
    cases ng
    · have HS := Lib.hid (show sgI (sI false V) = 1 by show sgI V = 1; unfold sgI; rw [if_neg (by omega), if_neg (by omega)])
      go_wp2
      go_ret2
      rw [HS.out]
      exact ⟨_, _, _, rfl, f1, b2⟩
    · have HS := Lib.hid (show sgI (sI true V) = -1 by show sgI (-V) = -1; unfold sgI; rw [if_pos (by omega)])
      go_wp2
      go_ret2
      rw [HS.out]
      exact ⟨_, _, _, rfl, f1, b2⟩
end Go.Proofs.YtoimhjcpeifegaaGreatDoor


/- Add by worth alone. -/
namespace Go.Proofs.YtoimhjcpeifegaaGreatDoor
open Go.RowKit

theorem num_add (ad bd : Option Addr) (n m c d : Nat) (V U : Int) (w : World) (h : Num w ad n c V) (k : Num w bd m d U) (hn : n ≤ 70368744177663) (hm : m ≤ 70368744177663) :
    Calls Tryz.prog 121 #[.slice ad n c, .slice bd m d] w (RetC (V + U) w) := by
  obtain ⟨xs, h1, h2, rfl⟩ := h.row
  obtain ⟨zs, k1, k2, rfl⟩ := k.row
  exact (add_calls ad bd n m c d xs zs w (by omega) (by omega) h.le k.le h1 k1 h2 k2).mono fun e w' q => q.can
end Go.Proofs.YtoimhjcpeifegaaGreatDoor


/- NSub by worth alone. -/
namespace Go.Proofs.YtoimhjcpeifegaaGreatDoor
open Go.RowKit

end Go.Proofs.YtoimhjcpeifegaaGreatDoor


/- RAdd by worth alone. -/
namespace Go.Proofs.YtoimhjcpeifegaaGreatDoor
open Go.RowKit

end Go.Proofs.YtoimhjcpeifegaaGreatDoor


/- RLen by worth alone. -/
namespace Go.Proofs.YtoimhjcpeifegaaGreatDoor
open Go.RowKit

end Go.Proofs.YtoimhjcpeifegaaGreatDoor


/- crucibleref01.Shl: times 2 to the power of n. -/
namespace Go.Proofs.YtoimhjcpeifegaaGreatDoor
open Go.RowKit

end Go.Proofs.YtoimhjcpeifegaaGreatDoor


/- Printed by ieee.py. -/
namespace Go.Proofs.YtoimhjcpeifegaaGreatDoor
open Go.RowKit

/-- The table of shapes as its initialiser lays it. -/
structure Shapes (w : World) : Prop where
  c0 : w.cell? ⟨2, 0, none⟩ = some (.int .i64 10)
  c1 : w.cell? ⟨2, 1, none⟩ = some (.int .i64 (-24))
  c2 : w.cell? ⟨2, 2, none⟩ = some (.int .i64 5)
  c3 : w.cell? ⟨2, 3, none⟩ = some (.int .i64 23)
  c4 : w.cell? ⟨2, 4, none⟩ = some (.int .i64 (-149))
  c5 : w.cell? ⟨2, 5, none⟩ = some (.int .i64 8)
  c6 : w.cell? ⟨2, 6, none⟩ = some (.int .i64 52)
  c7 : w.cell? ⟨2, 7, none⟩ = some (.int .i64 (-1074))
  c8 : w.cell? ⟨2, 8, none⟩ = some (.int .i64 11)

theorem Shapes.below {w w1 : World} (h : Shapes w) {B : Nat} (hb : Below B w w1) (hB : w.heap.size ≤ B) : Shapes w1 :=
  ⟨below_cell hb hB h.c0, below_cell hb hB h.c1, below_cell hb hB h.c2, below_cell hb hB h.c3, below_cell hb hB h.c4, below_cell hb hB h.c5, below_cell hb hB h.c6, below_cell hb hB h.c7, below_cell hb hB h.c8⟩

theorem size_shape : (Tryz.prog.info? 95).map (·.size) = some 3 := by kernel_rfl

end Go.Proofs.YtoimhjcpeifegaaGreatDoor


/- The nearest pattern as a function, and what the ways of finding it find: plain facts. -/
namespace Go.Proofs.YtoimhjcpeifegaaGreatDoor

theorem numN_zero (F : Nat) : numN F 0 = 0 := by
  unfold numN
  rw [if_pos (Nat.two_pow_pos F)]

theorem low_exists (F U X : Nat) : ∀ I, ∃ low, low ≤ I ∧ numN F low * U ≤ X ∧ (low < I → X < numN F (low + 1) * U)
  | 0 => ⟨0, Nat.le_refl _, by rw [numN_zero]; omega, fun h => absurd h (Nat.lt_irrefl _)⟩
  | I + 1 => by
    obtain ⟨low, h1, h2, h3⟩ := low_exists F U X I
    by_cases h : low < I
    · exact ⟨low, by omega, h2, fun _ => h3 h⟩
    · obtain rfl : low = I := by omega
      by_cases h4 : numN F (low + 1) * U ≤ X
      · exact ⟨low + 1, Nat.le_refl _, h4, fun h => absurd h (Nat.lt_irrefl _)⟩
      · exact ⟨low, by omega, h2, fun _ => by omega⟩

theorem nearest_exists (F I U X : Nat) : ∃ r, Nearest F I U X r := by
  obtain ⟨low, h1, h2, h3⟩ := low_exists F U X I
  exact ⟨_, low, h1, h2, h3, rfl⟩

/-- The size of the nearest pattern. -/
noncomputable def nearN (F I U X : Nat) : Nat := Classical.choose (nearest_exists F I U X)
theorem nearN_spec (F I U X : Nat) : Nearest F I U X (nearN F I U X) := Classical.choose_spec (nearest_exists F I U X)
theorem nearN_eq {F I U X r : Nat} (h : Nearest F I U X r) : nearN F I U X = r := (nearN_spec F I U X).unique h
theorem Nearest.le {F I U X r : Nat} (h : Nearest F I U X r) : r ≤ I := by
  obtain ⟨low, h1, h2, h3, rfl⟩ := h
  split
  · omega
  · split <;> omega

/-- M 2^e in least steps (of 2^L), or in parts of one. -/
def rU (L e : Int) : Nat := 2 ^ (L - e).toNat
def rX (L e : Int) (M : Nat) : Nat := M * 2 ^ (e - L).toNat
def rM (V : Int) (more : Bool) : Nat := if more then 2 * V.toNat + 1 else V.toNat
def rE (e : Int) (more : Bool) : Int := if more then e - 1 else e
def infN (W : Nat) : Nat := (2 ^ shE W - 1) * 2 ^ shF W
/-- The power of 2 that the infinite pattern would be, in least steps. -/
def topP (W : Nat) : Nat := shF W + 2 ^ shE W - 2
noncomputable def nearE (W : Nat) (M : Nat) (e : Int) : Nat := nearN (shF W) (infN W) (rU (shL W) e) (rX (shL W) e M)
/-- What Round answers. -/
noncomputable def roundW (W : Nat) (neg : Bool) (V e : Int) (more : Bool) : Int := (if neg then sgnW W else 0) + nearE W (rM V more) (rE e more)

theorem infW_eq {W : Nat} (hW : Wide W) : infW W = infN W := by rcases hW with rfl | rfl | rfl <;> decide
theorem nearE_le (W M : Nat) (e : Int) : nearE W M e ≤ infN W := (nearN_spec _ _ _ _).le
theorem infN_lt {W : Nat} (hW : Wide W) : (infN W : Int) < sgnW W := by rcases hW with rfl | rfl | rfl <;> decide

theorem rU_pos (L e : Int) : 0 < rU L e := Nat.two_pow_pos _

theorem numN_inf {W : Nat} (hW : Wide W) : numN (shF W) (infN W) = 2 ^ topP W := by
  have h : ∀ F E, 2 ≤ 2 ^ E → numN F ((2 ^ E - 1) * 2 ^ F) = 2 ^ (F + 2 ^ E - 2) := by
    intro F E hE
    have h := numN_at F (2 ^ E - 2) (2 ^ F) (.inr (Nat.le_refl _)) (by rw [Nat.pow_succ]; omega)
    rw [show (2 ^ E - 2) * 2 ^ F + 2 ^ F = (2 ^ E - 1) * 2 ^ F by rw [← Nat.succ_mul]; congr 1; omega] at h
    rw [h, ← Nat.pow_add]
    congr 1
    omega
  exact h _ _ (by rcases hW with rfl | rfl | rfl <;> decide)

theorem nearE_inf {W : Nat} (hW : Wide W) (M b : Nat) (e : Int) (hb : 2 ^ b ≤ M) (h : (topP W : Int) ≤ b + e - shL W) : nearE W M e = infN W := by
  refine nearN_eq (nearest_inf _ _ _ _ ?_)
  rw [numN_inf hW]
  unfold rU rX
  rw [← Nat.pow_add]
  refine Nat.le_trans ?_ (Nat.mul_le_mul_right _ hb)
  rw [← Nat.pow_add]
  exact Nat.pow_le_pow_right (by omega) (by omega)

theorem infN_pos {W : Nat} (hW : Wide W) : 0 < infN W := by rcases hW with rfl | rfl | rfl <;> decide

theorem nearE_small {W : Nat} (hW : Wide W) (M b : Nat) (e : Int) (hb : M < 2 ^ b) (h : (b : Int) + e + 1 ≤ shL W) : nearE W M e = 0 := by
  refine nearN_eq (nearest_zero _ _ _ _ (infN_pos hW) ?_)
  unfold rU rX
  rw [show (e - shL W).toNat = 0 by omega, Nat.pow_zero, Nat.mul_one]
  have h2 : 2 ^ (b + 1) ≤ 2 ^ (shL W - e).toNat := Nat.pow_le_pow_right (by omega) (by omega)
  rw [Nat.pow_succ] at h2
  omega

theorem nearE_zero {W : Nat} (hW : Wide W) (e : Int) : nearE W 0 e = 0 := by
  refine nearN_eq (nearest_zero _ _ _ _ (infN_pos hW) ?_)
  unfold rX
  rw [Nat.zero_mul]
  exact rU_pos _ _

/-- s places below the last one are cut off, and it is rounded. -/
def rounded (M s : Nat) : Nat := if 2 ^ s < 2 * (M % 2 ^ s) ∨ (2 * (M % 2 ^ s) = 2 ^ s ∧ M / 2 ^ s % 2 = 1) then M / 2 ^ s + 1 else M / 2 ^ s

theorem wide_F {W : Nat} (hW : Wide W) : 0 < shF W := by rcases hW with rfl | rfl | rfl <;> decide

theorem nearE_cut {W : Nat} (hW : Wide W) (M d s : Nat) (e : Int) (hs : (s : Int) = shL W + d - e) (h1 : d = 0 ∨ 2 ^ shF W ≤ M / 2 ^ s) (h2 : M / 2 ^ s < 2 ^ (shF W + 1)) (hd : d + 2 < 2 ^ shE W) :
    nearE W M e = d * 2 ^ shF W + rounded M s := by
  refine nearN_eq ?_
  have eU : 2 ^ d * rU (shL W) e = 2 ^ s * 2 ^ (e - shL W).toNat := by
    unfold rU
    rw [← Nat.pow_add, ← Nat.pow_add]
    congr 1
    omega
  have hc : 0 < 2 ^ (e - shL W).toNat := Nat.two_pow_pos _
  have eX : rX (shL W) e M = M * 2 ^ (e - shL W).toNat := rfl
  have hk : M / 2 ^ s = rX (shL W) e M / (2 ^ d * rU (shL W) e) := by
    rw [eU, eX, Nat.mul_div_mul_right _ _ hc]
  have hm : rX (shL W) e M % (2 ^ d * rU (shL W) e) = M % 2 ^ s * 2 ^ (e - shL W).toNat := by
    rw [eU, eX, Nat.mul_mod_mul_right]
  have h := nearest_direct (shF W) (infN W) (rU (shL W) e) (rX (shL W) e M) d (M / 2 ^ s) hk (rU_pos _ _) h1 h2 ?_ (.inr (wide_F hW))
  · rw [hm, eU] at h
    have i1 : (2 ^ s * 2 ^ (e - shL W).toNat < 2 * (M % 2 ^ s * 2 ^ (e - shL W).toNat)) ↔ 2 ^ s < 2 * (M % 2 ^ s) := by
      rw [← Nat.mul_assoc]
      exact Nat.mul_lt_mul_right hc
    have i2 : (2 * (M % 2 ^ s * 2 ^ (e - shL W).toNat) = 2 ^ s * 2 ^ (e - shL W).toNat) ↔ 2 * (M % 2 ^ s) = 2 ^ s := by
      rw [← Nat.mul_assoc]
      exact Nat.mul_left_inj (by omega)
    simp only [i1, i2] at h
    exact h
  · unfold infN
    rw [Nat.pow_succ] at h2
    have hp := Nat.two_pow_pos (shF W)
    have h3 : (d + 2) * 2 ^ shF W ≤ (2 ^ shE W - 1) * 2 ^ shF W := Nat.mul_le_mul_right _ (by omega)
    rw [Nat.add_mul] at h3
    omega

theorem rounded_zero (M : Nat) : rounded M 0 = M := by
  unfold rounded
  rw [Nat.pow_zero, Nat.mod_one, Nat.div_one]
  simp

/-- Nothing is cut off. -/
theorem nearE_exact {W : Nat} (hW : Wide W) (M d t : Nat) (e : Int) (ht : e = shL W + d + t) (h1 : d = 0 ∨ 2 ^ shF W ≤ M * 2 ^ t) (h2 : M * 2 ^ t < 2 ^ (shF W + 1)) (hd : d + 2 < 2 ^ shE W) :
    nearE W M e = d * 2 ^ shF W + M * 2 ^ t := by
  have h := nearE_cut hW (M * 2 ^ t) d 0 (shL W + d) (by omega) (by simpa using h1) (by simpa using h2) hd
  rw [rounded_zero] at h
  rw [← h]
  unfold nearE
  have e1 : rU (shL W) e = rU (shL W) (shL W + d) := by
    unfold rU
    rw [show (shL W - e).toNat = 0 by omega, show (shL W - (shL W + d)).toNat = 0 by omega]
  have e2 : rX (shL W) e M = rX (shL W) (shL W + d) (M * 2 ^ t) := by
    unfold rX
    rw [Nat.mul_assoc, ← Nat.pow_add]
    congr 2
    omega
  rw [e1, e2]

/-- The program's way: q and whether something is left, one place more than is kept. -/
theorem rounded_prog (M s : Nat) (q : Nat) (hq : q = M / 2 ^ s) :
    rounded M (s + 1) = if q % 2 = 1 ∧ (M % 2 ^ s ≠ 0 ∨ q / 2 % 2 = 1) then q / 2 + 1 else q / 2 := by
  have hP := Nat.two_pow_pos s
  have h1 : M / 2 ^ (s + 1) = q / 2 := by rw [hq, Nat.pow_succ, ← Nat.div_div_eq_div_mul]
  have h2 : M % 2 ^ (s + 1) = M % 2 ^ s + 2 ^ s * (q % 2) := by rw [hq, Nat.pow_succ, Nat.mod_mul]
  have h3 := Nat.mod_lt M hP
  unfold rounded
  rw [h1, h2, Nat.pow_succ]
  rcases Nat.mod_two_eq_zero_or_one q with h | h
  · rw [h, if_neg (by omega), if_neg (by omega)]
  · rw [h, Nat.mul_one]
    by_cases hz : M % 2 ^ s = 0
    · rw [hz]
      by_cases h4 : q / 2 % 2 = 1
      · rw [if_pos (by omega), if_pos (by omega)]
      · rw [if_neg (by omega), if_neg (by omega)]
    · rw [if_pos (by omega), if_pos (by omega)]

end Go.Proofs.YtoimhjcpeifegaaGreatDoor

