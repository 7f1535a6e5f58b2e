/- Contracts of functions, and plain facts, part 10. -/
import Derived.BigRegion
import Derived.Test.YtoimhjcpeifegaaGreatDoorPk4
import Derived.Test.YtoimhjcpeifegaaGreatDoorPk6
import Derived.Test.YtoimhjcpeifegaaGreatDoorPk7
set_option linter.unusedVariables false
set_option linter.unusedSimpArgs false
/- nat.Shl: times 2 to the power of n. -/
namespace Go.Proofs.YtoimhjcpeifegaaGreatDoor
open Go.RowKit

/-- A limb moved up by r, and what comes up from below. -/
theorem or_move (x y : Int) (r : Nat) (hx : 0 ≤ x ∧ x < 4294967296) (hy : 0 ≤ y ∧ y < 4294967296) (h0 : 0 < r) (hr : r < 32) :
    bits .or .u32 (x * 2 ^ r % 4294967296) (y / 2 ^ (32 - r)) = x * 2 ^ r % 4294967296 + y * 2 ^ r / 4294967296 ∧ 0 ≤ x * 2 ^ r % 4294967296 ∧ x * 2 ^ r % 4294967296 + y * 2 ^ r / 4294967296 < 4294967296 ∧
      0 ≤ y / 2 ^ (32 - r) ∧ y / 2 ^ (32 - r) < 4294967296 ∧ 0 ≤ y * 2 ^ r / 4294967296 := by
  obtain ⟨x, rfl⟩ := Int.eq_ofNat_of_zero_le hx.1
  obtain ⟨y, rfl⟩ := Int.eq_ofNat_of_zero_le hy.1
  have hB : (4294967296 : Nat) = 2 ^ r * 2 ^ (32 - r) := by rw [← Nat.pow_add, show r + (32 - r) = 32 by omega]
  have e1 : (x : Int) * 2 ^ r % 4294967296 = ((x * 2 ^ r % 4294967296 : Nat) : Int) := by simp
  have e2 : (y : Int) / 2 ^ (32 - r) = ((y / 2 ^ (32 - r) : Nat) : Int) := by simp
  have e3 : (y : Int) * 2 ^ r / 4294967296 = ((y * 2 ^ r / 4294967296 : Nat) : Int) := by simp
  have q : y * 2 ^ r / 4294967296 = y / 2 ^ (32 - r) := by
    rw [hB, Nat.mul_comm y, Nat.mul_div_mul_left _ _ (Nat.two_pow_pos r)]
  have hq : y / 2 ^ (32 - r) < 2 ^ r := by
    rw [Nat.div_lt_iff_lt_mul (Nat.two_pow_pos _), ← hB]
    omega
  have hd : x * 2 ^ r % 4294967296 % 2 ^ r = 0 := by
    rw [hB, Nat.mul_comm x, Nat.mul_mod_mul_left, Nat.mul_mod_right]
  have hl : x * 2 ^ r % 4294967296 < 4294967296 := Nat.mod_lt _ (by omega)
  have hp : 2 ^ r ≤ 2147483648 := by
    have : ∀ r : Nat, r < 32 → 2 ^ r ≤ 2147483648 := by decide
    exact this r hr
  rw [e1, e2, e3, q]
  have hj := nat_join r (x * 2 ^ r % 4294967296) (y / 2 ^ (32 - r)) hd hq
  have hsum : x * 2 ^ r % 4294967296 + y / 2 ^ (32 - r) < 4294967296 := by
    have hm : x * 2 ^ r % 4294967296 ≤ 4294967296 - 2 ^ r := by
      have h1 := Nat.div_add_mod (x * 2 ^ r % 4294967296) (2 ^ r)
      rw [hd, Nat.add_zero] at h1
      have h2 : x * 2 ^ r % 4294967296 / 2 ^ r < 2 ^ (32 - r) := by
        rw [Nat.div_lt_iff_lt_mul (Nat.two_pow_pos _), Nat.mul_comm (2 ^ (32 - r)), ← hB]
        exact hl
      have h3 := Nat.mul_le_mul_left (2 ^ r) (show x * 2 ^ r % 4294967296 / 2 ^ r + 1 ≤ 2 ^ (32 - r) by omega)
      rw [← hB, Nat.mul_add] at h3
      omega
    omega
  refine ⟨?_, by omega, by omega, by omega, by omega, by omega⟩
  rw [u32_or_nat _ _ hl (by omega), hj]
  simp

def ShlR (w : World) (zs : List Int) (R : Int) (j : Nat) (wr : World) : Prop :=
  ∃ ys, Blk wr w.heap.size 23 .u32 ys ∧ ys.length = zs.length ∧ Dig 4294967296 ys ∧ Below w.heap.size w wr ∧ (∀ k, k < j → ys[k]?.getD 0 = zs[k]?.getD 0) ∧
    val 4294967296 (ys.drop j) = R * val 4294967296 (zs.drop j) + carryUp 4294967296 R zs j

set_option maxHeartbeats 1000000 in
theorem shl_good (ad : Option Addr) (nn c : Nat) (la : List Int) (n : Int) (w : World) (hn : nn ≤ 70368744177664) (hnc : nn ≤ c) (hr : Rds w .u32 ad nn la) (da : Dig 4294967296 la)
    (hn0 : 0 ≤ n) (hV : val 4294967296 la ≠ 0) (hlim : n ≤ 8388608 - bitsOf (val 4294967296 la)) :
    Calls Tryz.prog 112 #[.slice ad nn c, .int .i64 n] w (RetLB 23 .u32 (dg 4294967296 (val 4294967296 la * 2 ^ n.toNat)) true w) := by
  have hc := Lib.hid (cut_calls ad nn c la w (by omega) hnc hr)
  have rx := hr.norm
  have dx := norm_dig da
  have hma := norm_length_le la
  rw [hr.len] at hma
  have HV := Lib.hid (val_norm 4294967296 la)
  rw [← HV.out] at hV hlim ⊢
  have hbits : (blen (val 4294967296 (norm la)).toNat : Int) = bitsOf (val 4294967296 (norm la)) := rfl
  have hm1 : norm la ≠ [] := by intro e; rw [e] at hV; exact hV rfl
  clear hr da HV
  have HNN := Lib.hid (norm_norm la)
  generalize norm la = xs at *
  obtain ⟨m, hm⟩ : ∃ m, xs.length = m := ⟨_, rfl⟩
  have hm0 : 0 < m := by rw [← hm]; exact List.length_pos_iff.2 hm1
  rw [hm] at hc rx hma
  have HM := Lib.hid hm
  have hl := Lib.hid (nlen_calls ad m m xs w (by omega) (Nat.le_refl _) rx dx)
  have hb0 : 0 ≤ bitsOf (val 4294967296 xs) := by unfold bitsOf; omega
  have hmb : 32 * ((m : Int) - 1) + 1 ≤ bitsOf (val 4294967296 xs) := by
    have h1 := blen_list 32 4294967296 (by decide) xs dx HNN.out (m - 1) (by omega)
    have h2 := blen_pos (xs[m - 1]?.getD 0).toNat (by have h3 := norm_last (b := 4294967296) HNN.out (m - 1) (by omega); have h4 := dx.get (by omega) (m - 1); omega)
    unfold bitsOf
    rw [h1]
    omega
  clear hm hm1 hbits hV
  obtain ⟨s, hs⟩ : ∃ s : Nat, n / 32 = s := ⟨(n / 32).toNat, by omega⟩
  obtain ⟨r, hrr⟩ : ∃ r : Nat, n % 32 = r := ⟨(n % 32).toNat, by omega⟩
  have hr32 : r < 32 := by omega
  have hs18 : s ≤ 262144 := by omega
  have EV : val 4294967296 xs * 2 ^ n.toNat = 4294967296 ^ s * val 4294967296 xs * 2 ^ r := by
    have e : n.toNat = 32 * s + r := by omega
    rw [e, Int.pow_add, Int.pow_mul, show (2 : Int) ^ 32 = 4294967296 from rfl]
    grind
  rw [EV]
  clear EV
  have hmm : ((m : Int) == 0) = false := by simp; omega
  generalize bitsOf (val 4294967296 xs) = bb at *
  have hnlt : ¬ 8388608 - bb < n := by omega
  have hmk := make_rule (P := Tryz.prog) 32 23 .u32 4 Tryz.underlying32 info_limb (by omega) (s + m + 1) (by omega) ((s : Int) + m + 1) (by omega)
  have b0 : Below w.heap.size w (w.alloc (.cells (nums .u32 (List.replicate (s + m + 1) 0)).toArray 23)) := (Below.refl _ _).alloc (Nat.le_refl _) _
  have r0 := rx.below b0 (Nat.le_refl _)
  have k0 := Blk.made w 23 .u32 (List.replicate (s + m + 1) 0) w.heap.size rfl
  have hnw : n < 0 ↔ False := by simp; omega
  go_enter Tryz.func112, Tryz.ntmps112
  go_wp2_with fail
  refine (hc.out).mono ?_
  rintro e w' ⟨rfl, rfl⟩
  go_wp2_with fail
  refine (hl.out).mono ?_
  rintro e w' ⟨rfl, rfl⟩
  go_wp2_with (refine copy_law w.heap.size rfl (.tmp 34) (.tmp 35) 32 32 rfl 23 Tryz.underlying32 size_limb (some ⟨w.heap.size, s, none⟩) ad (s + m + 1 - s) (s + m + 1 - s) m m rfl rfl w.heap.size s .u32 (List.replicate (s + m + 1) 0) xs k0 r0 (by omega) (fun _ => rfl) (by rw [List.length_replicate]; omega) b0 (Nat.le_refl _) ?_; intro w2 k2 b2)
  · have hr0 : 0 < r := by assumption
    have hzv : val 4294967296 (List.take s (List.replicate (s + m + 1) 0) ++ (xs ++ List.drop (s + m) (List.replicate (s + m + 1) 0))) = 4294967296 ^ s * val 4294967296 xs := by
      rw [val_append, val_append, List.take_replicate, List.drop_replicate, val_replicate, val_replicate, List.length_replicate, Nat.min_eq_left (by omega)]
      simp
    have hzd : Dig 4294967296 (List.take s (List.replicate (s + m + 1) 0) ++ (xs ++ List.drop (s + m) (List.replicate (s + m + 1) 0))) :=
      ((Dig.replicate _ (by omega) _).take _).append (dx.append ((Dig.replicate _ (by omega) _).drop _))
    have hzl : (List.take s (List.replicate (s + m + 1) 0) ++ (xs ++ List.drop (s + m) (List.replicate (s + m + 1) (0 : Int)))).length = s + m + 1 := by
      simp [HM.out]; omega
    have hzt : (List.take s (List.replicate (s + m + 1) 0) ++ (xs ++ List.drop (s + m) (List.replicate (s + m + 1) (0 : Int))))[s + m]?.getD 0 = 0 := by
      rw [List.getElem?_append_right (by simp; omega), List.getElem?_append_right (by simp [HM.out]; omega)]
      rw [List.drop_replicate]
      exact getD_replicate _ _
    have HZV := Lib.hid hzv
    have HZL := Lib.hid hzl
    have HZT := Lib.hid hzt
    clear hzv hzl hzt hc hl hmk k0 r0 b0 rx hnw
    generalize List.take s (List.replicate (s + m + 1) 0) ++ (xs ++ List.drop (s + m) (List.replicate (s + m + 1) 0)) = zs at *
    rw [hrr]
    have hI : ShlR w zs (2 ^ r) (s + m + 1) w2 := ⟨zs, k2, rfl, hzd, b2, fun _ _ => rfl, by
      rw [List.drop_of_length_le (by rw [HZL.out]; exact Nat.le_refl _)]
      unfold carryUp
      rw [if_neg (by omega), Nat.add_sub_cancel, HZT.out]
      simp [val]⟩
    clear k2 b2 hs hrr
    go_loopw [43] (fun i wr => ∃ k : Nat, k ≤ s + m + 1 ∧ i = .int .i64 k ∧ ShlR w zs (2 ^ r) (s + m + 1 - k) wr) (fun i _ => s + m + 1 - (intOf i).toNat)
    case atStart => exact ⟨0, Nat.zero_le _, rfl, hI⟩
    case round =>
      clear hI
      obtain ⟨k, hk, rfl, ys, h1, h2, h3, h4, h5, h6⟩ := hrel
      have H2 := Lib.hid h2
      have H5 := Lib.hid h5
      have H6 := Lib.hid h6
      clear h2 h5 h6
      by_cases hkL : k < s + m + 1
      · obtain ⟨j, hj⟩ : ∃ j, j = s + m - k := ⟨_, rfl⟩
        have HJ := Lib.hid hj
        have hjL : j < s + m + 1 := by omega
        have hcj := h1.cell j (by rw [H2.out, HZL.out]; omega)
        rw [H5.out j (by omega)] at hcj
        have hfj := h1.free j
        have bx := hzd.get (by omega) j
        have ST := Lib.hid (shl_step 4294967296 (2 ^ r) (by omega) zs ys j (by rw [HZL.out]; omega) (by rw [H2.out, HZL.out]; omega) (by rw [show j + 1 = s + m + 1 - k by omega]; exact H6.out))
        have hj1 : (s : Int) + m + 1 - 1 - k = j := by omega
        have hj2 : (s : Int) + m - k = j := by omega
        have hmin : min r 32 = r := by omega
        have hkI : (k : Int) < (s : Int) + m + 1 := by omega
        clear H6 hj
        by_cases hj0 : 0 < j
        · have hcj1 := h1.cell (j - 1) (by rw [H2.out, HZL.out]; omega)
          rw [H5.out (j - 1) (by have := HJ.out; omega)] at hcj1
          have by1 := hzd.get (by omega) (j - 1)
          have hcar : carryUp 4294967296 (2 ^ r) zs j = zs[j - 1]?.getD 0 * 2 ^ r / 4294967296 := by unfold carryUp; rw [if_neg (by omega)]
          rw [hcar] at ST
          obtain ⟨om1, om2, om3, om4, om5, om6⟩ := or_move (zs[j]?.getD 0) (zs[j - 1]?.getD 0) r bx by1 hr0 hr32
          have OM := Lib.hid om1
          have hcarE := Lib.hid hcar
          clear hcar om1
          generalize zs[j]?.getD 0 = x at *
          have h1' := h1.set j (x * 2 ^ r % 4294967296)
          have d1' := h3.set om2 (show x * 2 ^ r % 4294967296 < 4294967296 by omega) j
          have b1' := below_set h4 w.heap.size j (.int .u32 (x * 2 ^ r % 4294967296)) (Nat.le_refl _)
          have c1' := h1'.cell j (by rw [List.length_set, H2.out, HZL.out]; omega)
          rw [List.getElem?_set_self (by rw [H2.out, HZL.out]; omega)] at c1'
          simp only [Option.getD_some] at c1'
          have c2' := h1'.cell (j - 1) (by rw [List.length_set, H2.out, HZL.out]; omega)
          rw [List.getElem?_set_ne (by omega), H5.out (j - 1) (by have := HJ.out; omega)] at c2'
          have f1' := h1'.free j
          generalize zs[j - 1]?.getD 0 = y at *
          have K1 := h1'.set j (x * 2 ^ r % 4294967296 + y * 2 ^ r / 4294967296)
          rw [List.set_set] at K1
          have HL2 := Lib.hid (show ((ys.set j (x * 2 ^ r % 4294967296 + y * 2 ^ r / 4294967296)).length = zs.length) by rw [List.length_set, H2.out])
          have d2 := h3.set (show 0 ≤ x * 2 ^ r % 4294967296 + y * 2 ^ r / 4294967296 by omega) om3 j
          have b2 := below_set b1' w.heap.size j (.int .u32 (x * 2 ^ r % 4294967296 + y * 2 ^ r / 4294967296)) (Nat.le_refl _)
          go_wp2
          clear hfj hcj hcj1
          generalize wr.setCell ⟨w.heap.size, j, none⟩ (.int .u32 (x * 2 ^ r % 4294967296)) = w3 at *
          have W1 : IntKind.i64.wrap ((j : Int) - 1) = (j : Int) - 1 := IntWalk.i64_in _ (by omega)
          have W2 : IntKind.i64.wrap (32 - (r : Int)) = 32 - (r : Int) := IntWalk.i64_in _ (by omega)
          have W3 : ((j : Int) - 1).toNat = j - 1 := by omega
          have W4 : (0 : Int) ≤ (j : Int) - 1 := by omega
          have W5 : (32 - (r : Int)).toNat = 32 - r := by omega
          have W6 : (0 : Int) ≤ 32 - (r : Int) := by omega
          have W7 : min (32 - r) 32 = 32 - r := by omega
          have W8 : (j : Int) - 1 < (s : Int) + m + 1 := by omega
          have W9 := OM.out
          go_region
          clear W1 W2 W3 W4 W5 W6 W7 W8 W9
          go_wp2
          go_roundw
          case rel =>
            refine ⟨k + 1, by omega, by go_num, _, K1.drew, HL2.out, d2, below_drew b2, fun q hq => ?_, ?_⟩
            · rw [List.getElem?_set_ne (by have := HJ.out; omega)]
              exact H5.out q (by omega)
            · rw [show s + m + 1 - (k + 1) = j by have := HJ.out; omega, hcarE.out]
              exact ST.out
          case measure => simp [intOf]; omega
        · obtain rfl : j = 0 := by omega
          have hcar : carryUp 4294967296 (2 ^ r) zs 0 = 0 := by unfold carryUp; rw [if_pos rfl]
          rw [hcar, Int.add_zero, Int.add_zero] at ST
          have hp0 : (0 : Int) ≤ zs[0]?.getD 0 * 2 ^ r % 4294967296 := Int.emod_nonneg _ (by omega)
          have hp1 : zs[0]?.getD 0 * 2 ^ r % 4294967296 < 4294967296 := Int.emod_lt_of_pos _ (by omega)
          generalize zs[0]?.getD 0 = x at *
          have K1 := h1.set 0 (x * 2 ^ r % 4294967296)
          have d1' := h3.set hp0 hp1 0
          have b1' := below_set h4 w.heap.size 0 (.int .u32 (x * 2 ^ r % 4294967296)) (Nat.le_refl _)
          have HL2 := Lib.hid (show ((ys.set 0 (x * 2 ^ r % 4294967296)).length = zs.length) by rw [List.length_set, H2.out])
          go_wp2
          go_roundw
          case rel =>
            refine ⟨k + 1, by omega, by go_num, _, K1, HL2.out, d1', b1', fun q hq => ?_, ?_⟩
            · have := HJ.out
              omega
            · rw [show s + m + 1 - (k + 1) = 0 by have := HJ.out; omega, hcar, Int.add_zero]
              exact ST.out
          case measure => simp [intOf]; omega
      · obtain rfl : k = s + m + 1 := by omega
        have hkI : ¬ ((s + m + 1 : Nat) : Int) < (s : Int) + m + 1 := by omega
        have HV := Lib.hid (show val 4294967296 ys = 4294967296 ^ s * val 4294967296 xs * 2 ^ r by
          have := H6.out
          rw [Nat.sub_self, List.drop_zero, List.drop_zero, HZV.out] at this
          rw [this]
          unfold carryUp
          rw [if_pos rfl, Int.mul_comm, Int.add_zero])
        have hcut := Lib.hid (cut_calls (some ⟨w.heap.size, 0, none⟩) (s + m + 1) (s + m + 1) _ wr (by omega) (Nat.le_refl _) (by have := h1.rds; rwa [H2.out, HZL.out] at this))
        have R := h1.ret (Nat.le_refl _) (by rw [H2.out, HZL.out]; omega) h3 _ HV.out h4
        obtain ⟨rd, rn, rc, re, ro, rb⟩ := R
        have RE := Lib.hid re
        clear re
        go_wp2_with fail
        refine (hcut.out).mono ?_
        rintro e w' ⟨rfl, rfl⟩
        go_wp2_with fail
        go_ret2
        have re := RE.out
        injection re with re
        injection re with e1 e2 e3
        refine ⟨rd, rn, rc, ?_, ro, rb⟩
        rw [← e1, ← e2, ← e3]
        rfl
  · obtain rfl : r = 0 := by have h : ¬ 0 < r := by assumption
                             omega
    have hzl : (List.take s (List.replicate (s + m + 1) 0) ++ (xs ++ List.drop (s + m) (List.replicate (s + m + 1) (0 : Int)))).length = s + m + 1 := by
      simp [HM.out]; omega
    have hzd : Dig 4294967296 (List.take s (List.replicate (s + m + 1) 0) ++ (xs ++ List.drop (s + m) (List.replicate (s + m + 1) 0))) :=
      ((Dig.replicate _ (by omega) _).take _).append (dx.append ((Dig.replicate _ (by omega) _).drop _))
    have hzv : val 4294967296 (List.take s (List.replicate (s + m + 1) 0) ++ (xs ++ List.drop (s + m) (List.replicate (s + m + 1) 0))) = 4294967296 ^ s * val 4294967296 xs * 2 ^ 0 := by
      rw [val_append, val_append, List.take_replicate, List.drop_replicate, val_replicate, val_replicate, List.length_replicate, Nat.min_eq_left (by omega)]
      simp
    generalize List.take s (List.replicate (s + m + 1) 0) ++ (xs ++ List.drop (s + m) (List.replicate (s + m + 1) 0)) = zs at *
    have hcut := Lib.hid (cut_calls (some ⟨w.heap.size, 0, none⟩) (s + m + 1) (s + m + 1) _ w2 (by omega) (Nat.le_refl _) (by have := k2.rds; rwa [hzl] at this))
    have R := k2.ret (Nat.le_refl _) (by rw [hzl]; omega) hzd _ hzv b2
    obtain ⟨rd, rn, rc, re, ro, rb⟩ := R
    have RE := Lib.hid re
    clear re hzv hzl
    refine (hcut.out).mono ?_
    rintro e w' ⟨rfl, rfl⟩
    go_wp2_with fail
    go_ret2
    have re := RE.out
    injection re with re
    injection re with e1 e2 e3
    refine ⟨rd, rn, rc, ?_, ro, rb⟩
    rw [← e1, ← e2, ← e3]
    rfl

/-- nat.Shl at any number. -/
theorem shl_calls (ad : Option Addr) (nn c : Nat) (la : List Int) (n : Int) (w : World) (hn : nn ≤ 70368744177664) (hnc : nn ≤ c) (hr : Rds w .u32 ad nn la) (da : Dig 4294967296 la) (hnb : -9223372036854775808 ≤ n ∧ n < 9223372036854775808) :
    Calls Tryz.prog 112 #[.slice ad nn c, .int .i64 n] w (RetLB 23 .u32 (dg 4294967296 (shlNum (val 4294967296 la) n)) (shlOk (val 4294967296 la) n) w) := by
  obtain ⟨hn1, hn2⟩ := hnb
  by_cases hok : shlOk (val 4294967296 la) n = true
  · have h := of_decide_eq_true hok
    by_cases hV : val 4294967296 la = 0
    · have HN := Lib.hid (show shlNum (val 4294967296 la) n = 0 by unfold shlNum; rw [if_pos hok, hV, Int.zero_mul])
      have HO := Lib.hid hok
      have hl : (norm la).length = 0 := by
        have e := norm_eq 4294967296 (by omega) da
        rw [e, show ((4294967296 : Nat) : Int) = 4294967296 from rfl, hV, dg_zero]
        rfl
      have hc := cut_calls ad nn c la w (by omega) hnc hr
      rw [hl] at hc
      have HC := Lib.hid hc
      have h0 := h.1
      have hnw : ¬ n < 0 := by omega
      clear hok h hV hl hc
      go_enter Tryz.func112, Tryz.ntmps112
      go_wp2_with fail
      refine (HC.out).mono ?_
      rintro e w' ⟨rfl, rfl⟩
      go_wp2
      go_ret2
      rw [HN.out, HO.out, dg_zero]
      exact ⟨none, 0, 0, rfl, Own.nil _ _ _ _ _, Below.refl _ _⟩
    · have hlim : n ≤ 8388608 - bitsOf (val 4294967296 la) := by
        rcases h.2 with h2 | h2
        · exact absurd h2 hV
        · exact h2
      have := shl_good ad nn c la n w hn hnc hr da h.1 hV hlim
      unfold shlNum
      rw [if_pos hok, hok]
      exact this
  · have hok' : shlOk (val 4294967296 la) n = false := by simpa using hok
    have HN := Lib.hid (show shlNum (val 4294967296 la) n = 0 by unfold shlNum; rw [if_neg hok])
    have HO := Lib.hid hok'
    have h := of_decide_eq_false hok'
    have HC := Lib.hid (cut_calls ad nn c la w (by omega) hnc hr)
    by_cases h0 : n < 0
    · clear hok hok' h
      go_enter Tryz.func112, Tryz.ntmps112
      go_wp2_with fail
      refine (HC.out).mono ?_
      rintro e w' ⟨rfl, rfl⟩
      go_wp2
      go_ret2
      rw [HN.out, HO.out, dg_zero]
      exact ⟨none, 0, 0, rfl, Own.nil _ _ _ _ _, Below.refl _ _⟩
    · have hV : val 4294967296 la ≠ 0 := fun e => h ⟨by omega, .inl e⟩
      have hlim : 8388608 - bitsOf (val 4294967296 la) < n := by
        apply Classical.byContradiction
        intro h1
        unfold bitsOf at h1
        exact h ⟨by omega, .inr (by omega)⟩
      have rx := hr.norm
      have dx := norm_dig da
      have hma := norm_length_le la
      rw [hr.len] at hma
      have hpos : 0 < (norm la).length := by
        rcases Nat.eq_zero_or_pos (norm la).length with e | e
        · exfalso
          have e2 := val_norm 4294967296 la
          rw [List.eq_nil_of_length_eq_zero e] at e2
          exact hV e2.symm
        · exact e
      have hl := nlen_calls ad (norm la).length (norm la).length (norm la) w (by omega) (Nat.le_refl _) rx dx
      rw [val_norm] at hl
      have HL := Lib.hid hl
      have hb0 : 0 ≤ bitsOf (val 4294967296 la) := by unfold bitsOf; omega
      have hb1 : bitsOf (val 4294967296 la) ≤ 9223372036854775807 := by
        have h1 := blen_list 32 4294967296 (by decide) (norm la) dx (norm_norm la) ((norm la).length - 1) (by omega)
        rw [val_norm] at h1
        have h2 := dx.get (by omega) ((norm la).length - 1)
        have h3 := bitLen_blen ((norm la)[(norm la).length - 1]?.getD 0).toNat (by omega)
        have h4 := Lib.bitLen_le ((norm la)[(norm la).length - 1]?.getD 0).toNat 32 (by omega) (by omega)
        unfold bitsOf
        omega
      clear hl hr hok hok' h hV dx rx
      generalize bitsOf (val 4294967296 la) = bb at *
      obtain ⟨m, hm⟩ : ∃ m, (norm la).length = m := ⟨_, rfl⟩
      rw [hm] at HC HL hpos
      clear hm
      have hmm : ((m : Int) == 0) = false := by simp; omega
      go_enter Tryz.func112, Tryz.ntmps112
      go_wp2_with fail
      refine (HC.out).mono ?_
      rintro e w' ⟨rfl, rfl⟩
      go_wp2_with fail
      refine (HL.out).mono ?_
      rintro e w' ⟨rfl, rfl⟩
      go_wp2
      go_ret2
      rw [HN.out, HO.out, dg_zero]
      exact ⟨none, 0, 0, rfl, Own.nil _ _ _ _ _, Below.refl _ _⟩
end Go.Proofs.YtoimhjcpeifegaaGreatDoor

