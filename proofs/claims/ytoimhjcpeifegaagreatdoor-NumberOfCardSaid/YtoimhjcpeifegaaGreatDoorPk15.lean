/- Contracts of functions, and plain facts, part 15. -/
import Derived.BigQuiet
import Derived.Deep.QuietTactic
import Derived.Deep.RegionHeld3
import Derived.Deep.AppendLies
import Derived.Test.YtoimhjcpeifegaaGreatDoorPk4
import Derived.Test.YtoimhjcpeifegaaGreatDoorPk6
import Derived.Test.YtoimhjcpeifegaaGreatDoorPk7
import Derived.Test.YtoimhjcpeifegaaGreatDoorPk10
import Derived.Test.YtoimhjcpeifegaaGreatDoorPk11
import Derived.Test.YtoimhjcpeifegaaGreatDoorPk13
import Derived.Test.YtoimhjcpeifegaaGreatDoorPk14
set_option linter.unusedVariables false
set_option linter.unusedSimpArgs false
/- crucibleref01.Shr: divided by 2 to the power of n, and is something left over? -/
namespace Go.Proofs.YtoimhjcpeifegaaGreatDoor
open Go.RowKit

def RShrR (w : World) (zs : List Int) (R c0 : Int) (k : Nat) (v : Value) (wr : World) : Prop :=
  ∃ ad cp ds, v = .slice ad k cp ∧ App w.heap.size wr 3 .i64 ad k cp ds ∧ Dig 256 ds ∧ Below w.heap.size w wr ∧ w.heap.size ≤ wr.heap.size ∧ val 256 ds * R + c0 = val 256 (zs.take k) + 256 ^ k * (zs[k]?.getD 0 % R)

set_option maxRecDepth 20000 in
set_option maxHeartbeats 1000000 in
theorem rshr_good (ad : Option Addr) (nn c : Nat) (la : List Int) (n : Int) (w : World) (hn : nn ≤ 1099511627776) (hr : Rds w .u32 ad nn la) (da : Dig 4294967296 la)
    (hn0 : 0 ≤ n) (hn1 : n < 9223372036854775808) (hsm : n / 8 < ((dg 256 (val 4294967296 la)).length : Nat)) :
    Calls Tryz.prog 171 #[.slice ad nn c, .int .i64 n] w (RetLBB 23 .u32 (dg 4294967296 (val 4294967296 la / 2 ^ n.toNat)) (decide (val 4294967296 la % 2 ^ n.toNat ≠ 0)) true w) := by
  have l1 := bytes_len hr.len da
  have C1 := Lib.hid (bytes_calls ad nn c la w (by omega) hr da)
  have hV0 := val_nonneg (by omega) da
  have vx := val_dg 256 (by omega) (val 4294967296 la) hV0
  rw [show ((256 : Nat) : Int) = 256 from rfl] at vx
  have dx : Dig 256 (dg 256 (val 4294967296 la)) := dg_dig 256 (by omega) _
  clear hr
  rw [← vx]
  clear vx
  generalize dg 256 (val 4294967296 la) = xs at *
  obtain ⟨m, hm⟩ : ∃ m, xs.length = m := ⟨_, rfl⟩
  rw [hm] at l1 hsm
  have HM := Lib.hid hm
  clear hm
  obtain ⟨s, hs⟩ : ∃ s : Nat, n / 8 = s := ⟨(n / 8).toNat, by omega⟩
  obtain ⟨r, hrr⟩ : ∃ r : Nat, n % 8 = r := ⟨(n % 8).toNat, by omega⟩
  have hr8 : r < 8 := by omega
  have hsm' : s < m := by omega
  have hR : (1 : Int) ≤ 2 ^ r ∧ (2 : Int) ^ r ≤ 128 := by
    have : ∀ r : Nat, r < 8 → (1 : Int) ≤ 2 ^ r ∧ (2 : Int) ^ r ≤ 128 := by decide
    exact this r hr8
  have hQ : (0 : Int) < 2 ^ (8 - r) := Int.pow_pos (by omega)
  have HBR := Lib.hid (show (256 : Int) = 2 ^ r * 2 ^ (8 - r) by rw [← Int.pow_add, show r + (8 - r) = 8 by omega]; rfl)
  have hlo0 := val_nonneg (b := 256) (by omega) (dx.take s)
  have hlo1 := val_lt (b := 256) (by omega) (dx.take s)
  rw [List.length_take, HM.out, Nat.min_eq_left (by omega)] at hlo1
  have EV : (2 : Int) ^ n.toNat = 256 ^ s * 2 ^ r := by
    have e : n.toNat = 8 * s + r := by omega
    rw [e, Int.pow_add, Int.pow_mul, show (2 : Int) ^ 8 = 256 from rfl]
  have hsp := split_div (val 256 (xs.take s)) (256 ^ s) (val 256 (xs.drop s)) (2 ^ r) hlo0 hlo1 (by omega)
  have hzr : val 256 (xs.drop s) % 2 ^ r = xs[s]?.getD 0 % 2 ^ r := by
    rw [val_drop 256 xs s (by rw [HM.out]; omega), HBR.out, Int.mul_assoc, Int.add_mul_emod_self_left]
  rw [EV, val_split 256 xs s (by rw [HM.out]; omega), hsp.1, hsp.2, ne_parts _ _ _ hlo0 (Int.pow_pos (by omega)) (Int.emod_nonneg _ (by omega)), hzr]
  clear EV hsp hlo0 hlo1
  have HZR := Lib.hid hzr
  clear hzr
  obtain ⟨MO, hMO⟩ : ∃ MO, (decide (val 256 (xs.take s) ≠ 0) || decide (xs[s]?.getD 0 % 2 ^ r ≠ 0)) = MO := ⟨_, rfl⟩
  have HMO := Lib.hid hMO
  rw [hMO]
  clear hMO
  have hmm : ¬ (n / 8 ≥ (m : Int)) := by omega
  have hsI : (s : Int) < m := by omega
  have hsI0 : (0 : Int) ≤ s := by omega
  have bs := dx.get (by omega) s
  go_enter Tryz.func171, Tryz.ntmps171
  go_wp2_with fail
  refine (C1.out).mono ?_
  rintro e w1 ⟨xd, m', cx, rfl, ox, b1⟩
  obtain rfl : m = m' := by rw [← HM.out]; exact ox.rds.len
  have rx := ox.rds
  clear C1 ox
  obtain ⟨a, rfl, hxs⟩ := rx.cell s hsm'
  have HXR := Lib.hid (show decide (0 < xs[s]?.getD 0 % 2 ^ r) = decide (xs[s]?.getD 0 % 2 ^ r ≠ 0) by
    have := Int.emod_nonneg (xs[s]?.getD 0) (show (2 : Int) ^ r ≠ 0 by omega)
    rw [Bool.eq_iff_iff]
    simp only [decide_eq_true_eq]
    omega)
  generalize hxse : xs[s]?.getD 0 = x at *
  have HXE := Lib.hid hxse
  clear hxse
  have W1 := IntWalk.rem_in x (2 ^ r) bs.1
  have hR0 : ((2 : Int) ^ r == 0) = false := by simp; omega
  go_wp2_with fail
  go_quiet ((go_at_call 175; exact quiet_left (power_calls r hr8 _)))
  have b3 := below_drewN (Below.refl w1.heap.size w1) nq
  have rx3 := rx.below b3 (Nat.le_refl _)
  have BB := below_trans b1 b3
  clear rx hxs b1 b3 W1
  generalize w1.drewN nq = w3 at *
  rw [hs, hrr]
  go_wp2
  go_loop [9, 8] (fun i b => ∃ k : Nat, ∃ mb : Bool, k ≤ s ∧ i = .int .i64 k ∧ b = .bool mb ∧ Hid (mb = (decide (val 256 (xs.take k) ≠ 0) || decide (x % 2 ^ r ≠ 0)))) (fun i _ => s - (intOf i).toNat)
  case atStart => exact ⟨0, _, Nat.zero_le _, rfl, rfl, by show _ = _; rw [HXR.out]; simp [val]⟩
  case round =>
    obtain ⟨k, mb, hk, rfl, rfl, hmb⟩ := hrel
    by_cases hks : k < s
    · obtain ⟨a', ha', hxl⟩ := rx3.cell k (by omega)
      injection ha' with ha'
      subst ha'
      have by1 := dx.get (by omega) k
      have HMB := Lib.hid (show (mb || decide (0 < xs[k]?.getD 0)) = (decide (val 256 (xs.take (k + 1)) ≠ 0) || decide (x % 2 ^ r ≠ 0)) by
        rw [hmb.out, val_take_succ', ne_parts _ _ _ (val_nonneg (by omega) (dx.take k)) (Int.pow_pos (by omega)) by1.1, show decide (0 < xs[k]?.getD 0) = decide (xs[k]?.getD 0 ≠ 0) by rw [Bool.eq_iff_iff]; simp only [decide_eq_true_eq]; omega]
        cases decide (val 256 (xs.take k) ≠ 0) <;> cases decide (x % 2 ^ r ≠ 0) <;> cases decide (xs[k]?.getD 0 ≠ 0) <;> rfl)
      clear hmb
      generalize xs[k]?.getD 0 = y at *
      cases mb
      · go_wp2
        go_round
        case rel => exact ⟨k + 1, _, by omega, by go_num, rfl, by show _ = _; rw [← HMB.out, Bool.false_or]⟩
        case measure => simp [intOf]; omega
      · go_wp2
        go_round
        case rel => exact ⟨k + 1, true, by omega, by go_num, rfl, by show _ = _; rw [← HMB.out, Bool.true_or]⟩
        case measure => simp [intOf]; omega
    · obtain rfl : k = s := by omega
      have hmo : mb = MO := by rw [hmb.out]; exact HMO.out
      subst hmo
      clear hmb HMO
      obtain ⟨L, hL⟩ : ∃ L, m = k + L := ⟨m - k, by omega⟩
      obtain ⟨zs, hzs⟩ : ∃ zs, xs.drop k = zs := ⟨_, rfl⟩
      have hz : ∀ q, xs[k + q]?.getD 0 = zs[q]?.getD 0 := by intro q; rw [← hzs, List.getElem?_drop]
      have HZ := Lib.hid hz
      have HZL := Lib.hid (show zs.length = L by rw [← hzs, List.length_drop, HM.out]; omega)
      have HLL := Lib.hid hL
      rw [hzs] at HZR
      have HZS := Lib.hid hzs
      clear hz hzs hL
      have hr0 : RShrR w3 zs (2 ^ r) (x % 2 ^ r) 0 (.slice none 0 0) w3 := ⟨none, 0, [], rfl, App.nil _ _ _ _, Dig.nil _, Below.refl _ _, Nat.le_refl _, by
        have := HXE.out
        rw [show k = k + 0 from rfl, HZ.out 0] at this
        rw [this]
        simp [val]⟩
      go_wp2
      go_loopw [11, 10] (fun i v wr => ∃ j q : Nat, j ≤ m ∧ i = .int .i64 j ∧ Hid (j = k + q) ∧ RShrR w3 zs (2 ^ r) (x % 2 ^ r) q v wr) (fun i _ _ => m - (intOf i).toNat)
      case atStart => exact ⟨k, 0, by omega, rfl, rfl, hr0⟩
      case round =>
        clear hr0
        obtain ⟨j, q, hj, rfl, hjq, ad3, c3, ds, rfl, g1, g2, g3, g4, g5⟩ := hrel
        have H5 := Lib.hid g5
        clear g5
        by_cases hjm : j < m
        · have A2 := Lib.hid (fun (w' : World) (h : Below w3.heap.size w3 w') => at_calls (some a) m cx xs (j + 1) w' (by omega) (rx3.below h (Nat.le_refl _)))
          obtain ⟨a', ha', hxl⟩ := (rx3.below g3 (Nat.le_refl _)).cell j (by omega)
          injection ha' with ha'
          subst ha'
          have bx := dx.get (by omega) j
          have bz := dx.get (by omega) (j + 1)
          have HS := shr_snoc 256 (2 ^ r) (2 ^ (8 - r)) (by omega) HBR.out zs ds q g1.len _ H5.out
          have hql : q ≤ m := by have := hjq.out; omega
          rw [← HZ.out q, ← HZ.out (q + 1), ← hjq.out, show k + (q + 1) = j + 1 by have := hjq.out; omega] at HS
          rw [← down_digit 256 (2 ^ r) (2 ^ (8 - r)) _ _ (by omega) hQ HBR.out bx] at HS
          have HSH := Lib.hid HS
          clear HS H5
          generalize hxe : xs[j]?.getD 0 = x1 at *
          generalize hye : xs[j + 1]?.getD 0 = y1 at *
          have HYE := Lib.hid hye
          have HX1 := Lib.hid hxe
          clear hxe hye
          have T0 : 0 ≤ x1 + 256 * y1 := by omega
          have W1 : IntKind.i64.wrap (256 * y1) = 256 * y1 := IntWalk.i64_in _ (by omega)
          have W2 : IntKind.i64.wrap (x1 + 256 * y1) = x1 + 256 * y1 := IntWalk.i64_in _ (by omega)
          have W3 : IntKind.i64.wrap ((j : Int) + 1) = (j : Int) + 1 := IntWalk.i64_in _ (by omega)
          have W4 := IntWalk.i64_quo (x1 + 256 * y1) (2 ^ r) ⟨T0, by omega, hR.1⟩
          have W5 := IntWalk.rem_in ((x1 + 256 * y1) / 2 ^ r) 256 (Int.ediv_nonneg T0 (by omega))
          have W6 : (0 : Int) ≤ (j : Int) := by omega
          have Q3 : 0 ≤ (x1 + 256 * y1) / 2 ^ r % 256 ∧ (x1 + 256 * y1) / 2 ^ r % 256 < 256 := by omega
          go_wp2_with fail
          have g1d : App w3.heap.size wr.drew 3 .i64 ad3 q c3 ds := g1
          have g3d : Below w3.heap.size w3 wr.drew := below_drew g3
          have g4d : w3.heap.size ≤ wr.drew.heap.size := g4
          clear W6
          have W6 : (0 : Int) ≤ (j : Int) := by omega
          have W7 : n.tmod 8 = r := by rw [Int.tmod_eq_emod_of_nonneg hn0]; exact hrr
          have HBA : Below w3.heap.size w3 (wr.alloc (.cells #[.int .i64 ((x1 + 256 * y1) / 2 ^ r % 256)] 3)).drew := below_drew (g3.alloc g4 _)
          have hBA : w3.heap.size ≤ (wr.alloc (.cells #[.int .i64 ((x1 + 256 * y1) / 2 ^ r % 256)] 3)).drew.heap.size := by simp; omega
          obtain ⟨i0, hi0, hz0, hz1, hz2⟩ := info_parts info_int
          have hR00 : ¬ (2 : Int) ^ r = 0 := by omega
          go_region_held3 (fun w' => w'.cell? (a.add j) = some (.int .i64 x1) ∧ Below w3.heap.size w3 w') (go_keep)
            (first
              | (go_at_call 189; refine (A2.out _ (by assumption)).mono ?_; rintro e w' ⟨rfl, rfl⟩)
              | (go_at_call 175; refine (power_calls r hr8 _).mono ?_; rintro e w' ⟨rfl, rfl⟩)
              | (refine step_append_lies _ (by rfl) _ _ _ (by rfl) w3.heap.size 3 i0 _ 1 8 Tryz.underlying182 hi0 hz0 hz1 hz2 rfl (by omega) (.slice ad3 q c3) q (nums .i64 ds) (by rfl) (g1.alloc _)
                  ⟨wr.heap.size, 0, none⟩ 1 1 [.int .i64 ((x1 + 256 * y1) / 2 ^ r % 256)] (by rfl) (by rfl) (World.news_of_block (cs := #[.int .i64 ((x1 + 256 * y1) / 2 ^ r % 256)]) (t := 3) (fr := (0, 0)) (heap_alloc_new wr _)) (by simp [Value.oneCell'])
                  (by omega) (by simp only [maxLen]; omega) (by omega) hBA (wr.heap.size + 1) (by simp) ?_
                 intro gg cap w4 hown1 hgrow hat hlt
                 have k2 : Below w3.heap.size w3 w4 := HBA.grown hgrow hBA (fun rr hrr => (World.ownsRow.lt g1 rr hrr).1)
                 have k3 : w3.heap.size ≤ w4.heap.size := Nat.le_trans hBA hgrow.size
                 obtain ⟨_, hq4, hx4⟩ := (rx3.below k2 (Nat.le_refl _)).cell j hjm
                 injection hq4 with hq4
                 subst hq4
                 rw [HX1.out] at hx4))
          clear W1 W2 W3 W4 W5 W7 hx4 HBA hBA
          go_wp2
          go_roundw
          case rel =>
            refine ⟨j + 1, q + 1, by omega, by go_num, by have := hjq.out; show j + 1 = k + (q + 1); omega, _, cap, ds ++ [(x1 + 256 * y1) / 2 ^ r % 256], rfl, by simpa [App, nums] using hown1, g2.append (Dig.cons Q3.1 Q3.2 (Dig.nil _)), k2, k3, ?_⟩
            rw [← HZ.out (q + 1), show k + (q + 1) = j + 1 by have := hjq.out; omega, HYE.out]
            exact HSH.out
          case measure => simp [intOf]; omega
        · obtain rfl : j = m := by omega
          have hqL : q = L := by have := hjq.out; have := HLL.out; omega
          have hv : val 256 ds = val 256 zs / 2 ^ r := by
            have e := H5.out
            rw [hqL, List.take_of_length_le (by rw [HZL.out]; exact Nat.le_refl _), List.getElem?_eq_none (by rw [HZL.out]; exact Nat.le_refl _)] at e
            simp only [Option.getD_none, Int.zero_emod, Int.mul_zero, Int.add_zero] at e
            rw [← e, Int.add_comm, Int.add_mul_ediv_right _ _ (by omega), Int.ediv_eq_zero_of_lt (Int.emod_nonneg _ (by omega)) (Int.emod_lt_of_pos _ (by omega)), Int.zero_add]
          have hqj : q ≤ j := by have := hjq.out; omega
          have hl := limbs_calls ad3 q c3 ds wr (by omega) g1.own.le g1.rds g2
          rw [hv] at hl
          have HL := Lib.hid hl
          clear hv hl H5 hqL
          go_wp2_with fail
          refine (HL.out).mono ?_
          rintro e w' hr
          obtain ⟨rd, nr, cr, rfl, or, br⟩ := hr.after (below_trans BB g3)
          go_wp2_with fail
          go_ret3
          rw [HZS.out]
          exact ⟨_, _, _, rfl, or, br⟩

/-- crucibleref01.Shr at any number. -/
theorem rshr_calls (ad : Option Addr) (nn c : Nat) (la : List Int) (n : Int) (w : World) (hn : nn ≤ 1099511627776) (hr : Rds w .u32 ad nn la) (da : Dig 4294967296 la) (hnb : -9223372036854775808 ≤ n ∧ n < 9223372036854775808) :
    Calls Tryz.prog 171 #[.slice ad nn c, .int .i64 n] w (RetLBB 23 .u32 (dg 4294967296 (shrNum (val 4294967296 la) n)) (shrMore (val 4294967296 la) n) (decide (0 ≤ n)) w) := by
  obtain ⟨hn1, hn2⟩ := hnb
  by_cases h0 : 0 ≤ n
  · by_cases hs : n / 8 < ((dg 256 (val 4294967296 la)).length : Nat)
    · have h := rshr_good ad nn c la n w hn hr da h0 hn2 hs
      unfold shrNum shrMore
      rw [if_pos h0, decide_eq_true h0, Bool.true_and]
      exact h
    · have hV0 := val_nonneg (by omega) da
      have hV1 : val 4294967296 la < 2 ^ n.toNat := by
        have h1 := val_lt (b := 256) (by omega) (dg_dig 256 (by omega) (val 4294967296 la).toNat)
        rw [show val 256 (digs 256 (val 4294967296 la).toNat) = val 4294967296 la from val_dg 256 (by omega) _ hV0] at h1
        have h2 : (256 : Int) ^ (digs 256 (val 4294967296 la).toNat).length = 2 ^ (8 * (digs 256 (val 4294967296 la).toNat).length) := by rw [Int.pow_mul]; rfl
        rw [h2] at h1
        refine Int.lt_of_lt_of_le h1 (pow_le (by omega) ?_)
        unfold dg at hs
        omega
      have HN := Lib.hid (show shrNum (val 4294967296 la) n = 0 by unfold shrNum; rw [if_pos h0]; exact Int.ediv_eq_zero_of_lt hV0 hV1)
      have HO := Lib.hid (show shrMore (val 4294967296 la) n = decide (0 < (dg 256 (val 4294967296 la)).length) by
        unfold shrMore
        rw [decide_eq_true h0, Bool.true_and, Int.emod_eq_of_lt hV0 hV1, Bool.eq_iff_iff]
        simp only [decide_eq_true_eq]
        have h3 := dg_nil 256 (val 4294967296 la) (by omega) hV0
        constructor
        · intro h4
          exact List.length_pos_iff.2 (fun h5 => h4 (h3.1 h5))
        · intro h4 h5
          rw [h3.2 h5] at h4
          simp at h4)
      have C1 := Lib.hid (bytes_calls ad nn c la w (by omega) hr da)
      have HD := Lib.hid (decide_eq_true h0)
      clear hr hV0 hV1
      go_enter Tryz.func171, Tryz.ntmps171
      go_wp2_with fail
      refine (C1.out).mono ?_
      rintro e w1 ⟨xd, m, cx, rfl, ox, b1⟩
      have hm := ox.len
      rw [show (dg 256 (val 4294967296 la)).length = m from hm] at HO hs
      clear hm ox C1
      have hmm : n / 8 ≥ (m : Int) := by omega
      go_wp2
      go_ret3
      rw [HN.out, HO.out, HD.out, dg_zero]
      refine ⟨none, 0, 0, ?_, Own.nil _ _ _ _ _, b1⟩
      first | rfl | simp
  · have HN := Lib.hid (show shrNum (val 4294967296 la) n = 0 by unfold shrNum; rw [if_neg h0])
    have HO := Lib.hid (show shrMore (val 4294967296 la) n = false by unfold shrMore; rw [decide_eq_false h0, Bool.false_and])
    have HD := Lib.hid (decide_eq_false h0)
    have hnw : n < 0 := by omega
    go_enter Tryz.func171, Tryz.ntmps171
    go_wp2
    go_ret3
    rw [HN.out, HO.out, HD.out, dg_zero]
    exact ⟨none, 0, 0, rfl, Own.nil _ _ _ _ _, Below.refl _ _⟩
end Go.Proofs.YtoimhjcpeifegaaGreatDoor

/- TwinInt, SameInt, LeftInt of the statements. -/
namespace Go.Proofs.YtoimhjcpeifegaaGreatDoor
open Go.RowKit

theorem Tw.poke {w : World} {b n : Nat} {xs : List Int} (h : Tw w b n xs) {b2 : Nat} {t : TypeId} {b0 : Bool} {cs : List Value} (k : Cel w b2 t (.bool b0 :: cs)) (j : Nat) (v : Value) : Tw (w.setCell ⟨b2, j, none⟩ v) b n xs := by
  have hne : b2 ≠ b := by
    rintro rfl
    have h1 := h.blk.cell 0 (by simp)
    have h2 := k.cell 0 _ rfl
    rw [h1] at h2
    cases h2
  refine ⟨h.len, ?_, h.dig⟩
  have hb := h.blk
  unfold Blk at *
  simp only [World.setCell, Array.getElem?_modify, hb, if_neg hne]

set_option maxHeartbeats 2000000 in
theorem twinInt_calls (ng : Bool) (ad : Option Addr) (n c : Nat) (xs : List Int) (w : World) (h : Arg w ad n c xs) (hn : n ≤ 70368744177663) :
    Calls Tryz.prog 41 #[.agg #[.bool ng, .slice ad n c]] w (fun e w' => ∃ b, e = .returned (.agg #[.bool ng, .slice (some ⟨b, 0, none⟩) n (n + 1)]) ∧ Tw w' b n xs ∧ Below w.heap.size w w') := by
  have b1 : Below w.heap.size w (w.alloc (.cells #[.bool ng, .slice ad n c] 34)) := (Below.refl _ _).alloc (Nat.le_refl _) _
  have b2 : Below w.heap.size w ((w.alloc (.cells #[.bool ng, .slice ad n c] 34)).alloc (.cells #[.bool false, .slice none 0 0] 34)) := below_alloc b1 _
  have k0 : Cel ((w.alloc (.cells #[.bool ng, .slice ad n c] 34)).alloc (.cells #[.bool false, .slice none 0 0] 34)) w.heap.size 34 [.bool ng, .slice ad n c] := (Cel.made _ _ _ _ rfl : Cel (w.alloc (.cells #[.bool ng, .slice ad n c] 34)) w.heap.size 34 [.bool ng, .slice ad n c]).next ((Below.refl _ _).alloc (Nat.le_refl _) _)
  have k1 : Cel ((w.alloc (.cells #[.bool ng, .slice ad n c] 34)).alloc (.cells #[.bool false, .slice none 0 0] 34)) (w.heap.size + 1) 34 [.bool false, .slice none 0 0] := Cel.made _ _ _ _ (by simp)
  have h2 := h.below b2 (Nat.le_refl _)
  have hb0 : w.heap.size < w.heap.size + 1 := Nat.lt_succ_self _
  have HT : Hid (∀ w', Below w.heap.size w w' → Calls Tryz.prog 104 #[.slice ad n c] w' (fun e w'' => ∃ b, e = .returned (.slice (some ⟨b, 0, none⟩) n (n + 1)) ∧ Tw w'' b n xs ∧ Below w'.heap.size w' w'')) :=
    fun w' b => num_twin ad n c xs w' (h.below b (Nat.le_refl _)) hn
  clear h b1 h2
  go_enter Tryz.func41, Tryz.ntmps41
  go_wp2_with fail
  generalize (w.alloc (.cells #[.bool ng, .slice ad n c] 34)).alloc (.cells #[.bool false, .slice none 0 0] 34) = w0 at *
  generalize w.heap.size + 1 = g at *
  have c0 := k0.cell 0 _ rfl
  have c1 := k0.cell 1 _ rfl
  have d0 := k1.cell 0 _ rfl
  have d1 := k1.cell 1 _ rfl
  have f0 := k1.free 0
  have f1 := k1.free 1
  have bd : Below w.heap.size w w0.drew := below_drew b2
  go_region_held3 (fun w' => w'.cell? ⟨w.heap.size, 0, none⟩ = some (.bool ng) ∧ w'.cell? ⟨w.heap.size, 1, none⟩ = some (.slice ad n c)) (go_keep)
    (first
      | (go_at_call 104
         refine (HT.out _ bd).mono ?_
         rintro e w2 ⟨b, rfl, ht, hb⟩
         have bb : Below w0.heap.size w0 w2 := below_then (below_drew (Below.refl w0.heap.size w0)) (Nat.le_refl _) hb
         have e0 := below_cell bb (Nat.le_refl _) c0
         have e1 := below_cell bb (Nat.le_refl _) c1
         have k2 := k1.next bb
         have u0 := k2.cell 0 _ rfl
         have u1 := k2.cell 1 _ rfl
         have v0 := k2.free 0
         have v1 := k2.free 1
         have w0c : ((w2.setCell ⟨g, 0, none⟩ (.bool ng)).setCell ⟨g, 1, none⟩ (.slice (some ⟨b, 0, none⟩) n (n + 1))).cell? ⟨w.heap.size, 0, none⟩ = some (.bool ng) := by
           rw [World.cell?_setCell_other _ _ _ _ (by intro h; injection h; omega), World.cell?_setCell_other _ _ _ _ (by intro h; injection h; omega)]; exact e0
         have w1c : ((w2.setCell ⟨g, 0, none⟩ (.bool ng)).setCell ⟨g, 1, none⟩ (.slice (some ⟨b, 0, none⟩) n (n + 1))).cell? ⟨w.heap.size, 1, none⟩ = some (.slice ad n c) := by
           rw [World.cell?_setCell_other _ _ _ _ (by intro h; injection h; omega), World.cell?_setCell_other _ _ _ _ (by intro h; injection h; omega)]; exact e1))
  all_goals
    go_wp2
    refine bodyPost_ret (results_cell_row rfl _ _ g 34 #[.bool ng, .slice (some ⟨b, 0, none⟩) n (n + 1)] (0, 0) _ rfl ((k2.set 0 _).set 1 _).row Tryz.underlying34 rfl size_int) rfl ?_
    exact ⟨b, rfl, (ht.poke k2 0 _).poke (k2.set 0 _) 1 _, below_set (below_set (below_trans b2 bb) _ _ _ (Nat.le_of_lt hb0)) _ _ _ (Nat.le_of_lt hb0)⟩

/-- A bool is answered, nothing old has turned. -/
def RetBB (r : Bool) (w : World) (e : Ending) (w' : World) : Prop := e = .returned (.bool r) ∧ Below w.heap.size w w'

theorem sameInt_calls (ng mg : Bool) (ad bd : Option Addr) (n m c d : Nat) (V U : Int) (w : World) (ha : Can w ad n c V) (hb : Can w bd m d U) (hV : 0 ≤ V) (hU : 0 ≤ U) (hn : n ≤ 1000000000000) (hm : m ≤ 1000000000000) :
    Calls Tryz.prog 69 #[.agg #[.bool ng, .slice ad n c], .agg #[.bool mg, .slice bd m d]] w (RetBB (ng == mg && decide (V = U)) w) := by
  have b1 : Below w.heap.size w (w.alloc (.cells #[.bool ng, .slice ad n c] 34)) := (Below.refl _ _).alloc (Nat.le_refl _) _
  have b2 : Below w.heap.size w ((w.alloc (.cells #[.bool ng, .slice ad n c] 34)).alloc (.cells #[.bool mg, .slice bd m d] 34)) := below_alloc b1 _
  have k0 : Cel ((w.alloc (.cells #[.bool ng, .slice ad n c] 34)).alloc (.cells #[.bool mg, .slice bd m d] 34)) w.heap.size 34 [.bool ng, .slice ad n c] := (Cel.made _ _ _ _ rfl : Cel (w.alloc (.cells #[.bool ng, .slice ad n c] 34)) w.heap.size 34 [.bool ng, .slice ad n c]).next ((Below.refl _ _).alloc (Nat.le_refl _) _)
  have k1 : Cel ((w.alloc (.cells #[.bool ng, .slice ad n c] 34)).alloc (.cells #[.bool mg, .slice bd m d] 34)) (w.heap.size + 1) 34 [.bool mg, .slice bd m d] := Cel.made _ _ _ _ (by simp)
  have HS := Lib.hid (num_same ad bd n m c d V U _ (ha.below b2 (Nat.le_refl _)) (hb.below b2 (Nat.le_refl _)) hV hU hn hm)
  have c0 := k0.cell 0 _ rfl
  have c1 := k0.cell 1 _ rfl
  have d0 := k1.cell 0 _ rfl
  have d1 := k1.cell 1 _ rfl
  obtain ⟨r, hr⟩ : ∃ r, r = (ng == mg && decide (V = U)) := ⟨_, rfl⟩
  rw [← hr]
  have HR := Lib.hid hr
  clear ha hb b1 hr k0 k1
  generalize decide (V = U) = vu at *
  cases ng <;> cases mg
  · have HE := Lib.hid (show r = vu by rw [HR.out]; rfl)
    go_enter Tryz.func69, Tryz.ntmps69
    go_wp2_with fail
    refine (HS.out).mono ?_
    rintro e w' ⟨rfl, q, rfl⟩
    go_wp2
    go_ret
    rw [HE.out]
    exact ⟨rfl, below_drewN b2 _⟩
  · have HE := Lib.hid (show r = false by rw [HR.out]; rfl)
    go_enter Tryz.func69, Tryz.ntmps69
    go_wp2
    go_ret
    rw [HE.out]
    exact ⟨rfl, b2⟩
  · have HE := Lib.hid (show r = false by rw [HR.out]; rfl)
    go_enter Tryz.func69, Tryz.ntmps69
    go_wp2
    go_ret
    rw [HE.out]
    exact ⟨rfl, b2⟩
  · have HE := Lib.hid (show r = vu by rw [HR.out]; rfl)
    go_enter Tryz.func69, Tryz.ntmps69
    go_wp2_with fail
    refine (HS.out).mono ?_
    rintro e w' ⟨rfl, q, rfl⟩
    go_wp2
    go_ret
    rw [HE.out]
    exact ⟨rfl, below_drewN b2 _⟩

theorem leftInt_calls (ng : Bool) (b : Nat) (ld : Option Addr) (n c : Nat) (xs : List Int) (w : World) (ht : Tw w b n xs) (hl : Arg w ld n c xs) (hn : n ≤ 1000000000000) :
    Calls Tryz.prog 46 #[.agg #[.bool ng, .slice (some ⟨b, 0, none⟩) n (n + 1)], .agg #[.bool ng, .slice ld n c]] w (RetBB true w) := by
  have b1 : Below w.heap.size w (w.alloc (.cells #[.bool ng, .slice (some ⟨b, 0, none⟩) n (n + 1)] 34)) := (Below.refl _ _).alloc (Nat.le_refl _) _
  have b2 : Below w.heap.size w ((w.alloc (.cells #[.bool ng, .slice (some ⟨b, 0, none⟩) n (n + 1)] 34)).alloc (.cells #[.bool ng, .slice ld n c] 34)) := below_alloc b1 _
  have k0 : Cel ((w.alloc (.cells #[.bool ng, .slice (some ⟨b, 0, none⟩) n (n + 1)] 34)).alloc (.cells #[.bool ng, .slice ld n c] 34)) w.heap.size 34 [.bool ng, .slice (some ⟨b, 0, none⟩) n (n + 1)] := (Cel.made _ _ _ _ rfl : Cel (w.alloc (.cells #[.bool ng, .slice (some ⟨b, 0, none⟩) n (n + 1)] 34)) w.heap.size 34 [.bool ng, .slice (some ⟨b, 0, none⟩) n (n + 1)]).next ((Below.refl _ _).alloc (Nat.le_refl _) _)
  have k1 : Cel ((w.alloc (.cells #[.bool ng, .slice (some ⟨b, 0, none⟩) n (n + 1)] 34)).alloc (.cells #[.bool ng, .slice ld n c] 34)) (w.heap.size + 1) 34 [.bool ng, .slice ld n c] := Cel.made _ _ _ _ (by simp)
  have HS := Lib.hid (num_left b ld n c xs _ (ht.below b2 (Nat.le_refl _)) (hl.below b2 (Nat.le_refl _)) hn)
  have c0 := k0.cell 0 _ rfl
  have c1 := k0.cell 1 _ rfl
  have d0 := k1.cell 0 _ rfl
  have d1 := k1.cell 1 _ rfl
  clear ht hl b1 k0 k1
  go_enter Tryz.func46, Tryz.ntmps46
  go_wp2_with fail
  refine (HS.out).mono ?_
  rintro e w' ⟨rfl, q, rfl⟩
  go_wp2
  go_ret
  exact ⟨rfl, below_drewN b2 _⟩
end Go.Proofs.YtoimhjcpeifegaaGreatDoor

/- Whole numbers: Norm of the program. -/
namespace Go.Proofs.YtoimhjcpeifegaaGreatDoor
open Go.RowKit

theorem made_sign (N : Int) (V : Int) (hV : V = N.natAbs) : (decide (sgI N = -1) && decide (0 < V)) = decide (N < 0) := by
  unfold sgI
  by_cases h : N < 0
  · rw [if_pos h, decide_eq_true h]; simp; omega
  · rw [if_neg h, decide_eq_false h]
    split <;> simp

theorem wmade_as (s : Int) (ad : Option Addr) (n c : Nat) (V : Int) (r : Bool) (w : World) (h : Can w ad n c V) (hV : 0 ≤ V) (hs : (decide (s = -1) && decide (0 < V)) = r) :
    Calls Tryz.prog 118 #[.int .i8 s, .slice ad n c] w (fun e w' => e = .returned (.agg #[.bool r, .slice ad n c]) ∧ Below w.heap.size w w') := by
  have := wmade_calls s ad n c V w h hV
  rwa [hs] at this

theorem wnorm_calls (ng : Bool) (ad : Option Addr) (n c : Nat) (V : Int) (w : World) (h : Num w ad n c V) (hn : n ≤ 70368744177663) :
    Calls Tryz.prog 105 #[.agg #[.bool ng, .slice ad n c]] w (RetInt (sI ng V) w) := by
  have hV := h.nonneg
  have b1 : Below w.heap.size w (w.alloc (.cells #[.bool ng, .slice ad n c] 34)) := (Below.refl _ _).alloc (Nat.le_refl _) _
  have b2 : Below w.heap.size w ((w.alloc (.cells #[.bool ng, .slice ad n c] 34)).alloc (.cells #[.bool false, .slice none 0 0] 34)) := below_alloc b1 _
  have k1 : Cel ((w.alloc (.cells #[.bool ng, .slice ad n c] 34)).alloc (.cells #[.bool false, .slice none 0 0] 34)) (w.heap.size + 1) 34 [.bool false, .slice none 0 0] := Cel.made _ _ _ _ (by simp)
  have HS := Lib.hid (wsigned_calls ng ad n c V _ (h.below b2 (Nat.le_refl _)) hn)
  have HG := Lib.hid (made_sign (sI ng V) V (sI_abs ng V hV).symm)
  have HA := Lib.hid (sI_abs ng V hV)
  generalize sI ng V = N at *
  clear h b1
  go_enter Tryz.func105, Tryz.ntmps105
  go_wp2_with fail
  refine (HS.out).mono ?_
  rintro e w1 ⟨ad1, n1, d1, rfl, f1, b3⟩
  have k2 := k1.next b3
  have b4 := below_trans b2 b3
  clear k1 HS b2 b3
  have HM := Lib.hid (wmade_calls (sgI N) ad1 n1 d1 V w1 f1 hV)
  rw [HG.out] at HM
  generalize sgI N = s at *
  have hb0 : w.heap.size ≤ w.heap.size + 1 := Nat.le_succ _
  generalize w.heap.size + 1 = b at *
  go_wp2_with fail
  refine (HM.out).mono ?_
  rintro e w2 ⟨rfl, b5⟩
  have k3 := k2.next b5
  have c0 := k3.cell 0 _ rfl
  have c1 := k3.cell 1 _ rfl
  have g0 := k3.free 0
  have g1 := k3.free 1
  go_wp2
  refine bodyPost_ret (results_cell_row rfl _ _ b 34 #[.bool (decide (N < 0)), .slice ad1 n1 d1] (0, 0) _ rfl ((k3.set 0 _).set 1 _).row Tryz.underlying34 rfl size_int) rfl ?_
  refine ⟨_, _, _, rfl, ?_, below_set (below_set (below_trans b4 b5) _ _ _ hb0) _ _ _ hb0⟩
  rw [HA.out]
  exact (f1.below b5 (Nat.le_refl _)).poke2 k3 _ _

/-- As RetInt, sign and size by name. -/
def RetIntR (r : Bool) (A : Int) (w : World) (e : Ending) (w' : World) : Prop :=
  ∃ ad n c, e = .returned (.agg #[.bool r, .slice ad n c]) ∧ Can w' ad n c A ∧ Below w.heap.size w w'
theorem RetInt.named {N : Int} {r : Bool} {A : Int} (hr : decide (N < 0) = r) (hA : A = (N.natAbs : Int)) {w : World} {e : Ending} {w' : World} (h : RetInt N w e w') : RetIntR r A w e w' := by
  obtain ⟨ad, n, c, e1, h1, h2⟩ := h
  rw [hr] at e1
  rw [← hA] at h1
  exact ⟨ad, n, c, e1, h1, h2⟩
theorem sg_bd (N : Int) : -1 ≤ sgI N ∧ sgI N ≤ 1 := by unfold sgI; split <;> (try split) <;> omega
theorem sg_mul (N M : Int) : sgI N * sgI M = sgI (N * M) := by
  unfold sgI
  rcases Int.lt_trichotomy N 0 with h | h | h
  · rcases Int.lt_trichotomy M 0 with k | k | k
    · have := Int.mul_pos_of_neg_of_neg h k
      rw [if_pos h, if_pos k, if_neg (by omega), if_neg (by omega)]; rfl
    · subst k; rw [Int.mul_zero]; simp
    · have := Int.mul_neg_of_neg_of_pos h k
      rw [if_pos h, if_neg (by omega), if_neg (by omega), if_pos this]; rfl
  · subst h; rw [Int.zero_mul]; simp
  · rcases Int.lt_trichotomy M 0 with k | k | k
    · have := Int.mul_neg_of_pos_of_neg h k
      rw [if_neg (by omega), if_neg (by omega), if_pos k, if_pos this]; rfl
    · subst k; rw [Int.mul_zero]; simp
    · have := Int.mul_pos h k
      rw [if_neg (by omega), if_neg (by omega), if_neg (by omega), if_neg (by omega), if_neg (by omega), if_neg (by omega)]; rfl
theorem i8_sg (s t : Int) (hs : -1 ≤ s ∧ s ≤ 1) (ht : -1 ≤ t ∧ t ≤ 1) : IntKind.i8.wrap (s * t) = s * t := by
  rcases (show s = -1 ∨ s = 0 ∨ s = 1 by omega) with rfl | rfl | rfl <;> rcases (show t = -1 ∨ t = 0 ∨ t = 1 by omega) with rfl | rfl | rfl <;> decide
end Go.Proofs.YtoimhjcpeifegaaGreatDoor

/- RShl by worth alone. -/
namespace Go.Proofs.YtoimhjcpeifegaaGreatDoor
open Go.RowKit

theorem num_rshl (ad : Option Addr) (n c : Nat) (V : Int) (r : Int) (w : World) (h : Num w ad n c V) (hn : n ≤ 1099511627776) (hr : -9223372036854775808 ≤ r ∧ r < 9223372036854775808) :
    Calls Tryz.prog 145 #[.slice ad n c, .int .i64 r] w (RetCB (shlNum V r) (shlOk V r) w) := by
  obtain ⟨xs, h1, h2, rfl⟩ := h.row
  exact (rshl_calls ad n c xs r w (by omega) h1 h2 hr).mono fun e w' q => q.can
end Go.Proofs.YtoimhjcpeifegaaGreatDoor
