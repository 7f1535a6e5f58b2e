/- What the proof of the law IeeeRounds stands on, part 7: contracts of functions, and plain facts. -/
import Derived.BigQuiet
import Derived.Deep.QuietTactic
import Derived.Deep.RegionHeld3
import Derived.Deep.AppendLies
import Derived.Test.YtmnabilgpndjmaaDoorCards
import Derived.Lib.LaidTab
import Derived.Test.YtmnabilgpndjmaaDoorGIeeeRounds2
import Derived.Test.YtmnabilgpndjmaaDoorGIeeeRounds3
import Derived.Test.YtmnabilgpndjmaaDoorGIeeeRounds5
set_option linter.unusedVariables false
set_option linter.unusedSimpArgs false
/- crucibleref01.Shr: divided by 2 to the power of n, and is something left over? -/
namespace Go.Proofs.YtmnabilgpndjmaaDoor
open Go.RowKit

def RShrR (w : World) (zs : List Int) (R c0 : Int) (k : Nat) (v : Value) (wr : World) : Prop :=
  ∃ ad cp ds, v = .slice ad k cp ∧ App w.heap.size wr 3 .i64 ad k cp ds ∧ Dig 256 ds ∧ Below w.heap.size w wr ∧ w.heap.size ≤ wr.heap.size ∧ val 256 ds * R + c0 = val 256 (zs.take k) + 256 ^ k * (zs[k]?.getD 0 % R)

set_option maxRecDepth 20000 in
set_option maxHeartbeats 1000000 in
theorem rshr_good (ad : Option Addr) (nn c : Nat) (la : List Int) (n : Int) (w : World) (hn : nn ≤ 1099511627776) (hr : Rds w .u32 ad nn la) (da : Dig 4294967296 la)
    (hn0 : 0 ≤ n) (hn1 : n < 9223372036854775808) (hsm : n / 8 < ((dg 256 (val 4294967296 la)).length : Nat)) :
    Calls Tryd.prog 71 #[.slice ad nn c, .int .i64 n] w (RetLBB 76 .u32 (dg 4294967296 (val 4294967296 la / 2 ^ n.toNat)) (decide (val 4294967296 la % 2 ^ n.toNat ≠ 0)) true w) := by
  have l1 := bytes_len hr.len da
  have C1 := Lib.hid (bytes_calls ad nn c la w (by omega) hr da)
  have hV0 := val_nonneg (by omega) da
  have vx := val_dg 256 (by omega) (val 4294967296 la) hV0
  rw [show ((256 : Nat) : Int) = 256 from rfl] at vx
  have dx : Dig 256 (dg 256 (val 4294967296 la)) := dg_dig 256 (by omega) _
  clear hr
  rw [← vx]
  clear vx
  generalize dg 256 (val 4294967296 la) = xs at *
  obtain ⟨m, hm⟩ : ∃ m, xs.length = m := ⟨_, rfl⟩
  rw [hm] at l1 hsm
  have HM := Lib.hid hm
  clear hm
  obtain ⟨s, hs⟩ : ∃ s : Nat, n / 8 = s := ⟨(n / 8).toNat, by omega⟩
  obtain ⟨r, hrr⟩ : ∃ r : Nat, n % 8 = r := ⟨(n % 8).toNat, by omega⟩
  have hr8 : r < 8 := by omega
  have hsm' : s < m := by omega
  have hR : (1 : Int) ≤ 2 ^ r ∧ (2 : Int) ^ r ≤ 128 := by
    have : ∀ r : Nat, r < 8 → (1 : Int) ≤ 2 ^ r ∧ (2 : Int) ^ r ≤ 128 := by decide
    exact this r hr8
  have hQ : (0 : Int) < 2 ^ (8 - r) := Int.pow_pos (by omega)
  have HBR := Lib.hid (show (256 : Int) = 2 ^ r * 2 ^ (8 - r) by rw [← Int.pow_add, show r + (8 - r) = 8 by omega]; rfl)
  have hlo0 := val_nonneg (b := 256) (by omega) (dx.take s)
  have hlo1 := val_lt (b := 256) (by omega) (dx.take s)
  rw [List.length_take, HM.out, Nat.min_eq_left (by omega)] at hlo1
  have EV : (2 : Int) ^ n.toNat = 256 ^ s * 2 ^ r := by
    have e : n.toNat = 8 * s + r := by omega
    rw [e, Int.pow_add, Int.pow_mul, show (2 : Int) ^ 8 = 256 from rfl]
  have hsp := split_div (val 256 (xs.take s)) (256 ^ s) (val 256 (xs.drop s)) (2 ^ r) hlo0 hlo1 (by omega)
  have hzr : val 256 (xs.drop s) % 2 ^ r = xs[s]?.getD 0 % 2 ^ r := by
    rw [val_drop 256 xs s (by rw [HM.out]; omega), HBR.out, Int.mul_assoc, Int.add_mul_emod_self_left]
  rw [EV, val_split 256 xs s (by rw [HM.out]; omega), hsp.1, hsp.2, ne_parts _ _ _ hlo0 (Int.pow_pos (by omega)) (Int.emod_nonneg _ (by omega)), hzr]
  clear EV hsp hlo0 hlo1
  have HZR := Lib.hid hzr
  clear hzr
  obtain ⟨MO, hMO⟩ : ∃ MO, (decide (val 256 (xs.take s) ≠ 0) || decide (xs[s]?.getD 0 % 2 ^ r ≠ 0)) = MO := ⟨_, rfl⟩
  have HMO := Lib.hid hMO
  rw [hMO]
  clear hMO
  have hmm : ¬ (n / 8 ≥ (m : Int)) := by omega
  have hsI : (s : Int) < m := by omega
  have hsI0 : (0 : Int) ≤ s := by omega
  have bs := dx.get (by omega) s
  go_enter Tryd.func71, Tryd.ntmps71
  go_wp2_with fail
  refine (C1.out).mono ?_
  rintro e w1 ⟨xd, m', cx, rfl, ox, b1⟩
  obtain rfl : m = m' := by rw [← HM.out]; exact ox.rds.len
  have rx := ox.rds
  clear C1 ox
  obtain ⟨a, rfl, hxs⟩ := rx.cell s hsm'
  have HXR := Lib.hid (show decide (0 < xs[s]?.getD 0 % 2 ^ r) = decide (xs[s]?.getD 0 % 2 ^ r ≠ 0) by
    have := Int.emod_nonneg (xs[s]?.getD 0) (show (2 : Int) ^ r ≠ 0 by omega)
    rw [Bool.eq_iff_iff]
    simp only [decide_eq_true_eq]
    omega)
  generalize hxse : xs[s]?.getD 0 = x at *
  have HXE := Lib.hid hxse
  clear hxse
  have W1 := IntWalk.rem_in x (2 ^ r) bs.1
  have hR0 : ((2 : Int) ^ r == 0) = false := by simp; omega
  go_wp2_with fail
  go_quiet ((go_at_call 130; exact quiet_left (power_calls r hr8 _)))
  have b3 := below_drewN (Below.refl w1.heap.size w1) nq
  have rx3 := rx.below b3 (Nat.le_refl _)
  have BB := below_trans b1 b3
  clear rx hxs b1 b3 W1
  generalize w1.drewN nq = w3 at *
  rw [hs, hrr]
  go_wp2
  go_loop [9, 8] (fun i b => ∃ k : Nat, ∃ mb : Bool, k ≤ s ∧ i = .int .i64 k ∧ b = .bool mb ∧ Hid (mb = (decide (val 256 (xs.take k) ≠ 0) || decide (x % 2 ^ r ≠ 0)))) (fun i _ => s - (intOf i).toNat)
  case atStart => exact ⟨0, _, Nat.zero_le _, rfl, rfl, by show _ = _; rw [HXR.out]; simp [val]⟩
  case round =>
    obtain ⟨k, mb, hk, rfl, rfl, hmb⟩ := hrel
    by_cases hks : k < s
    · obtain ⟨a', ha', hxl⟩ := rx3.cell k (by omega)
      injection ha' with ha'
      subst ha'
      have by1 := dx.get (by omega) k
      have HMB := Lib.hid (show (mb || decide (0 < xs[k]?.getD 0)) = (decide (val 256 (xs.take (k + 1)) ≠ 0) || decide (x % 2 ^ r ≠ 0)) by
        rw [hmb.out, val_take_succ', ne_parts _ _ _ (val_nonneg (by omega) (dx.take k)) (Int.pow_pos (by omega)) by1.1, show decide (0 < xs[k]?.getD 0) = decide (xs[k]?.getD 0 ≠ 0) by rw [Bool.eq_iff_iff]; simp only [decide_eq_true_eq]; omega]
        cases decide (val 256 (xs.take k) ≠ 0) <;> cases decide (x % 2 ^ r ≠ 0) <;> cases decide (xs[k]?.getD 0 ≠ 0) <;> rfl)
      clear hmb
      generalize xs[k]?.getD 0 = y at *
      cases mb
      · go_wp2
        go_round
        case rel => exact ⟨k + 1, _, by omega, by go_num, rfl, by show _ = _; rw [← HMB.out, Bool.false_or]⟩
        case measure => simp [intOf]; omega
      · go_wp2
        go_round
        case rel => exact ⟨k + 1, true, by omega, by go_num, rfl, by show _ = _; rw [← HMB.out, Bool.true_or]⟩
        case measure => simp [intOf]; omega
    · obtain rfl : k = s := by omega
      have hmo : mb = MO := by rw [hmb.out]; exact HMO.out
      subst hmo
      clear hmb HMO
      obtain ⟨L, hL⟩ : ∃ L, m = k + L := ⟨m - k, by omega⟩
      obtain ⟨zs, hzs⟩ : ∃ zs, xs.drop k = zs := ⟨_, rfl⟩
      have hz : ∀ q, xs[k + q]?.getD 0 = zs[q]?.getD 0 := by intro q; rw [← hzs, List.getElem?_drop]
      have HZ := Lib.hid hz
      have HZL := Lib.hid (show zs.length = L by rw [← hzs, List.length_drop, HM.out]; omega)
      have HLL := Lib.hid hL
      rw [hzs] at HZR
      have HZS := Lib.hid hzs
      clear hz hzs hL
      have hr0 : RShrR w3 zs (2 ^ r) (x % 2 ^ r) 0 (.slice none 0 0) w3 := ⟨none, 0, [], rfl, App.nil _ _ _ _, Dig.nil _, Below.refl _ _, Nat.le_refl _, by
        have := HXE.out
        rw [show k = k + 0 from rfl, HZ.out 0] at this
        rw [this]
        simp [val]⟩
      go_wp2
      go_loopw [11, 10] (fun i v wr => ∃ j q : Nat, j ≤ m ∧ i = .int .i64 j ∧ Hid (j = k + q) ∧ RShrR w3 zs (2 ^ r) (x % 2 ^ r) q v wr) (fun i _ _ => m - (intOf i).toNat)
      case atStart => exact ⟨k, 0, by omega, rfl, rfl, hr0⟩
      case round =>
        clear hr0
        obtain ⟨j, q, hj, rfl, hjq, ad3, c3, ds, rfl, g1, g2, g3, g4, g5⟩ := hrel
        have H5 := Lib.hid g5
        clear g5
        by_cases hjm : j < m
        · have A2 := Lib.hid (fun (w' : World) (h : Below w3.heap.size w3 w') => at_calls (some a) m cx xs (j + 1) w' (by omega) (rx3.below h (Nat.le_refl _)))
          obtain ⟨a', ha', hxl⟩ := (rx3.below g3 (Nat.le_refl _)).cell j (by omega)
          injection ha' with ha'
          subst ha'
          have bx := dx.get (by omega) j
          have bz := dx.get (by omega) (j + 1)
          have HS := shr_snoc 256 (2 ^ r) (2 ^ (8 - r)) (by omega) HBR.out zs ds q g1.len _ H5.out
          have hql : q ≤ m := by have := hjq.out; omega
          rw [← HZ.out q, ← HZ.out (q + 1), ← hjq.out, show k + (q + 1) = j + 1 by have := hjq.out; omega] at HS
          rw [← down_digit 256 (2 ^ r) (2 ^ (8 - r)) _ _ (by omega) hQ HBR.out bx] at HS
          have HSH := Lib.hid HS
          clear HS H5
          generalize hxe : xs[j]?.getD 0 = x1 at *
          generalize hye : xs[j + 1]?.getD 0 = y1 at *
          have HYE := Lib.hid hye
          have HX1 := Lib.hid hxe
          clear hxe hye
          have T0 : 0 ≤ x1 + 256 * y1 := by omega
          have W1 : IntKind.i64.wrap (256 * y1) = 256 * y1 := IntWalk.i64_in _ (by omega)
          have W2 : IntKind.i64.wrap (x1 + 256 * y1) = x1 + 256 * y1 := IntWalk.i64_in _ (by omega)
          have W3 : IntKind.i64.wrap ((j : Int) + 1) = (j : Int) + 1 := IntWalk.i64_in _ (by omega)
          have W4 := IntWalk.i64_quo (x1 + 256 * y1) (2 ^ r) ⟨T0, by omega, hR.1⟩
          have W5 := IntWalk.rem_in ((x1 + 256 * y1) / 2 ^ r) 256 (Int.ediv_nonneg T0 (by omega))
          have W6 : (0 : Int) ≤ (j : Int) := by omega
          have Q3 : 0 ≤ (x1 + 256 * y1) / 2 ^ r % 256 ∧ (x1 + 256 * y1) / 2 ^ r % 256 < 256 := by omega
          go_wp2_with fail
          have g1d : App w3.heap.size wr.drew 3 .i64 ad3 q c3 ds := g1
          have g3d : Below w3.heap.size w3 wr.drew := below_drew g3
          have g4d : w3.heap.size ≤ wr.drew.heap.size := g4
          clear W6
          have W6 : (0 : Int) ≤ (j : Int) := by omega
          have W7 : n.tmod 8 = r := by rw [Int.tmod_eq_emod_of_nonneg hn0]; exact hrr
          have HBA : Below w3.heap.size w3 (wr.alloc (.cells #[.int .i64 ((x1 + 256 * y1) / 2 ^ r % 256)] 3)).drew := below_drew (g3.alloc g4 _)
          have hBA : w3.heap.size ≤ (wr.alloc (.cells #[.int .i64 ((x1 + 256 * y1) / 2 ^ r % 256)] 3)).drew.heap.size := by simp; omega
          obtain ⟨i0, hi0, hz0, hz1, hz2⟩ := info_parts info_int
          have hR00 : ¬ (2 : Int) ^ r = 0 := by omega
          go_region_held3 (fun w' => w'.cell? (a.add j) = some (.int .i64 x1) ∧ Below w3.heap.size w3 w') (go_keep)
            (first
              | (go_at_call 131; refine (A2.out _ (by assumption)).mono ?_; rintro e w' ⟨rfl, rfl⟩)
              | (go_at_call 130; refine (power_calls r hr8 _).mono ?_; rintro e w' ⟨rfl, rfl⟩)
              | (refine step_append_lies _ (by rfl) _ _ _ (by rfl) w3.heap.size 3 i0 _ 1 8 Tryd.underlying150 hi0 hz0 hz1 hz2 rfl (by omega) (.slice ad3 q c3) q (nums .i64 ds) (by rfl) (g1.alloc _)
                  ⟨wr.heap.size, 0, none⟩ 1 1 [.int .i64 ((x1 + 256 * y1) / 2 ^ r % 256)] (by rfl) (by rfl) (World.news_of_block (cs := #[.int .i64 ((x1 + 256 * y1) / 2 ^ r % 256)]) (t := 3) (fr := (0, 0)) (heap_alloc_new wr _)) (by simp [Value.oneCell'])
                  (by omega) (by simp only [maxLen]; omega) (by omega) hBA (wr.heap.size + 1) (by simp) ?_
                 intro gg cap w4 hown1 hgrow hat hlt
                 have k2 : Below w3.heap.size w3 w4 := HBA.grown hgrow hBA (fun rr hrr => (World.ownsRow.lt g1 rr hrr).1)
                 have k3 : w3.heap.size ≤ w4.heap.size := Nat.le_trans hBA hgrow.size
                 obtain ⟨_, hq4, hx4⟩ := (rx3.below k2 (Nat.le_refl _)).cell j hjm
                 injection hq4 with hq4
                 subst hq4
                 rw [HX1.out] at hx4))
          clear W1 W2 W3 W4 W5 W7 hx4 HBA hBA
          go_wp2
          go_roundw
          case rel =>
            refine ⟨j + 1, q + 1, by omega, by go_num, by have := hjq.out; show j + 1 = k + (q + 1); omega, _, cap, ds ++ [(x1 + 256 * y1) / 2 ^ r % 256], rfl, by simpa [App, nums] using hown1, g2.append (Dig.cons Q3.1 Q3.2 (Dig.nil _)), k2, k3, ?_⟩
            rw [← HZ.out (q + 1), show k + (q + 1) = j + 1 by have := hjq.out; omega, HYE.out]
            exact HSH.out
          case measure => simp [intOf]; omega
        · obtain rfl : j = m := by omega
          have hqL : q = L := by have := hjq.out; have := HLL.out; omega
          have hv : val 256 ds = val 256 zs / 2 ^ r := by
            have e := H5.out
            rw [hqL, List.take_of_length_le (by rw [HZL.out]; exact Nat.le_refl _), List.getElem?_eq_none (by rw [HZL.out]; exact Nat.le_refl _)] at e
            simp only [Option.getD_none, Int.zero_emod, Int.mul_zero, Int.add_zero] at e
            rw [← e, Int.add_comm, Int.add_mul_ediv_right _ _ (by omega), Int.ediv_eq_zero_of_lt (Int.emod_nonneg _ (by omega)) (Int.emod_lt_of_pos _ (by omega)), Int.zero_add]
          have hqj : q ≤ j := by have := hjq.out; omega
          have hl := limbs_calls ad3 q c3 ds wr (by omega) g1.own.le g1.rds g2
          rw [hv] at hl
          have HL := Lib.hid hl
          clear hv hl H5 hqL
          go_wp2_with fail
          refine (HL.out).mono ?_
          rintro e w' hr
          obtain ⟨rd, nr, cr, rfl, or, br⟩ := hr.after (below_trans BB g3)
          go_wp2_with fail
          go_ret3
          rw [HZS.out]
          exact ⟨_, _, _, rfl, or, br⟩

/-- crucibleref01.Shr at any number. -/
theorem rshr_calls (ad : Option Addr) (nn c : Nat) (la : List Int) (n : Int) (w : World) (hn : nn ≤ 1099511627776) (hr : Rds w .u32 ad nn la) (da : Dig 4294967296 la) (hnb : -9223372036854775808 ≤ n ∧ n < 9223372036854775808) :
    Calls Tryd.prog 71 #[.slice ad nn c, .int .i64 n] w (RetLBB 76 .u32 (dg 4294967296 (shrNum (val 4294967296 la) n)) (shrMore (val 4294967296 la) n) (decide (0 ≤ n)) w) := by
  obtain ⟨hn1, hn2⟩ := hnb
  by_cases h0 : 0 ≤ n
  · by_cases hs : n / 8 < ((dg 256 (val 4294967296 la)).length : Nat)
    · have h := rshr_good ad nn c la n w hn hr da h0 hn2 hs
      unfold shrNum shrMore
      rw [if_pos h0, decide_eq_true h0, Bool.true_and]
      exact h
    · have hV0 := val_nonneg (by omega) da
      have hV1 : val 4294967296 la < 2 ^ n.toNat := by
        have h1 := val_lt (b := 256) (by omega) (dg_dig 256 (by omega) (val 4294967296 la).toNat)
        rw [show val 256 (digs 256 (val 4294967296 la).toNat) = val 4294967296 la from val_dg 256 (by omega) _ hV0] at h1
        have h2 : (256 : Int) ^ (digs 256 (val 4294967296 la).toNat).length = 2 ^ (8 * (digs 256 (val 4294967296 la).toNat).length) := by rw [Int.pow_mul]; rfl
        rw [h2] at h1
        refine Int.lt_of_lt_of_le h1 (pow_le (by omega) ?_)
        unfold dg at hs
        omega
      have HN := Lib.hid (show shrNum (val 4294967296 la) n = 0 by unfold shrNum; rw [if_pos h0]; exact Int.ediv_eq_zero_of_lt hV0 hV1)
      have HO := Lib.hid (show shrMore (val 4294967296 la) n = decide (0 < (dg 256 (val 4294967296 la)).length) by
        unfold shrMore
        rw [decide_eq_true h0, Bool.true_and, Int.emod_eq_of_lt hV0 hV1, Bool.eq_iff_iff]
        simp only [decide_eq_true_eq]
        have h3 := dg_nil 256 (val 4294967296 la) (by omega) hV0
        constructor
        · intro h4
          exact List.length_pos_iff.2 (fun h5 => h4 (h3.1 h5))
        · intro h4 h5
          rw [h3.2 h5] at h4
          simp at h4)
      have C1 := Lib.hid (bytes_calls ad nn c la w (by omega) hr da)
      have HD := Lib.hid (decide_eq_true h0)
      clear hr hV0 hV1
      go_enter Tryd.func71, Tryd.ntmps71
      go_wp2_with fail
      refine (C1.out).mono ?_
      rintro e w1 ⟨xd, m, cx, rfl, ox, b1⟩
      have hm := ox.len
      rw [show (dg 256 (val 4294967296 la)).length = m from hm] at HO hs
      clear hm ox C1
      have hmm : n / 8 ≥ (m : Int) := by omega
      go_wp2
      go_ret3
      rw [HN.out, HO.out, HD.out, dg_zero]
      refine ⟨none, 0, 0, ?_, Own.nil _ _ _ _ _, b1⟩
      first | rfl | simp
  · have HN := Lib.hid (show shrNum (val 4294967296 la) n = 0 by unfold shrNum; rw [if_neg h0])
    have HO := Lib.hid (show shrMore (val 4294967296 la) n = false by unfold shrMore; rw [decide_eq_false h0, Bool.false_and])
    have HD := Lib.hid (decide_eq_false h0)
    have hnw : n < 0 := by omega
    go_enter Tryd.func71, Tryd.ntmps71
    go_wp2
    go_ret3
    rw [HN.out, HO.out, HD.out, dg_zero]
    exact ⟨none, 0, 0, rfl, Own.nil _ _ _ _ _, Below.refl _ _⟩
end Go.Proofs.YtmnabilgpndjmaaDoor

/- RLen by worth alone. -/
namespace Go.Proofs.YtmnabilgpndjmaaDoor
open Go.RowKit

theorem num_rlen (ad : Option Addr) (n c : Nat) (V : Int) (w : World) (h : Num w ad n c V) (hn : n ≤ 1099511627776) :
    Calls Tryd.prog 70 #[.slice ad n c] w (fun e w' => e = .returned (.int .i64 (bitsOf V)) ∧ Below w.heap.size w w') := by
  obtain ⟨xs, h1, h2, rfl⟩ := h.row
  exact (rlen_calls ad n c xs w (by omega) h1 h2).mono fun e w' q => q
end Go.Proofs.YtmnabilgpndjmaaDoor

/- RAdd by worth alone. -/
namespace Go.Proofs.YtmnabilgpndjmaaDoor
open Go.RowKit

theorem num_radd (ad bd : Option Addr) (n m c d : Nat) (V U : Int) (w : World) (h : Num w ad n c V) (k : Num w bd m d U) (hn : n ≤ 1099511627776) (hm : m ≤ 1099511627776) :
    Calls Tryd.prog 72 #[.slice ad n c, .slice bd m d] w (RetC (V + U) w) := by
  obtain ⟨xs, h1, h2, rfl⟩ := h.row
  obtain ⟨zs, k1, k2, rfl⟩ := k.row
  exact (radd_calls ad bd n m c d xs zs w (by omega) (by omega) h1 k1 h2 k2).mono fun e w' q => q.can
end Go.Proofs.YtmnabilgpndjmaaDoor

/- The table of shapes out of a row's list. -/
namespace Go.Proofs.YtmnabilgpndjmaaDoor
open Go.RowKit

theorem trod_int {H : Type} {enc : TypeId × Value → H} {P : Program} {w : World} {base : Nat} {sp : Nat → Bool} {held : Bool} {fuel : Nat} {t : TypeId} {k : IntKind} {c : Value} {v : Int} {p : List MemPlace}
    (ht : P.underlying t = some (.int k)) (h : DataW.trod enc P w base sp held fuel t [c] = some (.lit (.int k v), p)) : c = .int k v := by
  cases fuel with
  | zero => simp [DataW.trod] at h
  | succ fuel =>
    simp only [DataW.trod, ht] at h
    split at h <;> simp_all

theorem trod_struct3 {H : Type} {enc : TypeId × Value → H} {P : Program} {w : World} {base : Nat} {sp : Nat → Bool} {held : Bool} {fuel : Nat} {t i : TypeId} {fs : Array Field} {k : IntKind} {cs : List Value} {a b c : Int} {p : List MemPlace}
    (ht : P.underlying t = some (.struct fs)) (hf : fs.toList.map (fun f => (f.type, f.offset)) = [(i, 0), (i, 1), (i, 2)]) (hi : P.underlying i = some (.int k)) (hc : P.cellsOf i = 1) (hct : P.cellsOf t = 3)
    (h : DataW.trod enc P w base sp held fuel t cs = some (.agg [.lit (.int k a), .lit (.int k b), .lit (.int k c)], p)) : cs = [.int k a, .int k b, .int k c] := by
  cases fuel with
  | zero => simp [DataW.trod] at h
  | succ fuel =>
    simp only [DataW.trod, ht, hct] at h
    split at h
    · rename_i hl
      rcases cs with _ | ⟨x, _ | ⟨y, _ | ⟨z, _ | ⟨u, cs⟩⟩⟩⟩ <;> simp at hl
      obtain ⟨f0, f1, f2, hfs⟩ : ∃ f0 f1 f2, fs.toList = [f0, f1, f2] := by
        have hl := congrArg List.length hf
        simp only [List.length_map, List.length_cons, List.length_nil] at hl
        rcases hh : fs.toList with _ | ⟨f0, _ | ⟨f1, _ | ⟨f2, _ | ⟨f3, r⟩⟩⟩⟩ <;> rw [hh] at hl <;> simp at hl
        exact ⟨f0, f1, f2, rfl⟩
      rw [hfs] at h hf
      simp only [List.map_cons, List.map_nil, List.cons.injEq, Prod.mk.injEq, and_true] at hf
      obtain ⟨⟨t0, o0⟩, ⟨t1, o1⟩, ⟨t2, o2⟩⟩ := hf
      simp only [List.mapM_cons, List.mapM_nil, t0, t1, t2, o0, o1, o2, hc] at h
      simp only [List.drop_zero, List.drop_succ_cons, List.take_succ_cons, List.take_zero, Option.bind_eq_bind, Option.pure_def, Option.map_eq_some_iff, Option.bind_eq_some_iff, Option.some.injEq] at h
      obtain ⟨xs, ⟨d0, e0, r0, ⟨d1, e1, r1, ⟨d2, e2, r2, rfl, rfl⟩, rfl⟩, rfl⟩, hx⟩ := h
      simp only [List.map_cons, List.map_nil, Prod.mk.injEq, DataW.agg.injEq, List.cons.injEq, and_true] at hx
      obtain ⟨⟨q0, q1, q2⟩, -⟩ := hx
      obtain ⟨d0, p0⟩ := d0
      obtain ⟨d1, p1⟩ := d1
      obtain ⟨d2, p2⟩ := d2
      simp only at q0 q1 q2
      subst q0 q1 q2
      rw [trod_int hi e0, trod_int hi e1, trod_int hi e2]
    · cases h
theorem trod_array3 {H : Type} {enc : TypeId × Value → H} {P : Program} {w : World} {base : Nat} {sp : Nat → Bool} {held : Bool} {fuel : Nat} {t e : TypeId} {cs : List Value} {d0 d1 d2 : DataW H} {p : List MemPlace}
    (ht : P.underlying t = some (.array 3 e)) (hc : P.cellsOf e = 3) (hct : P.cellsOf t = 9)
    (h : DataW.trod enc P w base sp held fuel t cs = some (.agg [d0, d1, d2], p)) :
    ∃ fuel c0 c1 c2 p0 p1 p2, cs = c0 ++ (c1 ++ c2) ∧ DataW.trod enc P w base sp held fuel e c0 = some (d0, p0) ∧ DataW.trod enc P w base sp held fuel e c1 = some (d1, p1) ∧ DataW.trod enc P w base sp held fuel e c2 = some (d2, p2) := by
  cases fuel with
  | zero => simp [DataW.trod] at h
  | succ fuel =>
    simp only [DataW.trod, ht, hct] at h
    split at h
    · rename_i hl
      simp only [show List.range 3 = [0, 1, 2] from rfl, List.mapM_cons, List.mapM_nil, hc] at h
      simp only [Option.bind_eq_bind, Option.pure_def, Option.map_eq_some_iff, Option.bind_eq_some_iff, Option.some.injEq] at h
      obtain ⟨xs, ⟨x0, e0, r0, ⟨x1, e1, r1, ⟨x2, e2, r2, rfl, rfl⟩, rfl⟩, rfl⟩, hx⟩ := h
      simp only [List.map_cons, List.map_nil, Prod.mk.injEq, DataW.agg.injEq, List.cons.injEq, and_true] at hx
      obtain ⟨⟨q0, q1, q2⟩, -⟩ := hx
      obtain ⟨x0, p0⟩ := x0
      obtain ⟨x1, p1⟩ := x1
      obtain ⟨x2, p2⟩ := x2
      simp only at q0 q1 q2
      subst q0 q1 q2
      refine ⟨fuel, _, _, _, _, _, _, ?_, e0, e1, e2⟩
      rcases cs with _ | ⟨a0, _ | ⟨a1, _ | ⟨a2, _ | ⟨a3, _ | ⟨a4, _ | ⟨a5, _ | ⟨a6, _ | ⟨a7, _ | ⟨a8, _ | ⟨a9, cs⟩⟩⟩⟩⟩⟩⟩⟩⟩⟩ <;> simp at hl
      rfl
    · cases h

theorem gShapes : Tryd.prog.globalNamed "crucible/ieee.shapes" = some 0 := by kernel_rfl
theorem gShapesType : (Tryd.prog.globals[0]?).map (·.type) = some 176 := by kernel_rfl
theorem cellsShapes : Tryd.prog.cellsOf 176 = 9 := by kernel_rfl
theorem cellsShape : Tryd.prog.cellsOf 142 = 3 := by kernel_rfl
theorem cellsInt : Tryd.prog.cellsOf 3 = 1 := by kernel_rfl

theorem shapes_of_laid {W : World} {r : List (String × DataW Unit)} {q : List MemPlace} (h : DataW.LaidVars Tryd.prog W (("crucible/ieee.shapes", Rows.laid_crucible_ieee_shapes) :: r) q) : Shapes W := by
  obtain ⟨g, t, cs, fuel, p, q1, hg, ht, hcs, htr, -, -⟩ := h
  rw [gShapes] at hg
  injection hg with hg
  subst hg
  rw [gShapesType] at ht
  injection ht with ht
  subst ht
  obtain ⟨f, c0, c1, c2, p0, p1, p2, hc, e0, e1, e2⟩ := trod_array3 Tryd.underlying176 cellsShape cellsShapes htr
  have k0 := trod_struct3 Tryd.underlying142 rfl Tryd.underlying3 cellsInt cellsShape e0
  have k1 := trod_struct3 Tryd.underlying142 rfl Tryd.underlying3 cellsInt cellsShape e1
  have k2 := trod_struct3 Tryd.underlying142 rfl Tryd.underlying3 cellsInt cellsShape e2
  rw [k0, k1, k2] at hc
  have hcs2 : cs = #[.int .i64 10, .int .i64 (-24), .int .i64 5, .int .i64 23, .int .i64 (-149), .int .i64 8, .int .i64 52, .int .i64 (-1074), .int .i64 11] := by
    apply Array.toList_inj.1
    rw [hc]
    rfl
  subst hcs2
  have c := World.var?_cell gShapes hcs
  exact ⟨by rw [c]; rfl, by rw [c]; rfl, by rw [c]; rfl, by rw [c]; rfl, by rw [c]; rfl, by rw [c]; rfl, by rw [c]; rfl, by rw [c]; rfl, by rw [c]; rfl⟩
end Go.Proofs.YtmnabilgpndjmaaDoor

/- Printed by law4.py. -/
namespace Go.Proofs.YtmnabilgpndjmaaDoor
open Go.RowKit

/-- The width that a statement's first number says. -/
def wd (w0 : Int) : Nat := if w0 % 4 = 0 then 16 else if w0 % 4 = 2 then 64 else 32
theorem wd_0 {w0 : Int} (h : w0 % 4 = 0) : wd w0 = 16 := by unfold wd; rw [if_pos h]
theorem wd_1 {w0 : Int} (h : w0 % 4 = 1) : wd w0 = 32 := by unfold wd; rw [if_neg (by omega), if_neg (by omega)]
theorem wd_2 {w0 : Int} (h : w0 % 4 = 2) : wd w0 = 64 := by unfold wd; rw [if_neg (by omega), if_pos h]
theorem wd_3 {w0 : Int} (h : w0 % 4 = 3) : wd w0 = 32 := by unfold wd; rw [if_neg (by omega), if_neg (by omega)]
theorem wide_wd (w0 : Int) : Wide (wd w0) := by
  unfold wd Wide
  split
  · omega
  · split <;> omega
theorem tmod4 {w0 c : Int} (hw : 0 ≤ w0 ∧ w0 < 256) (h : w0 % 4 = c) : w0.tmod 4 = c := by rw [Int.tmod_eq_emod_of_nonneg hw.1]; exact h
theorem pow_wide {W : Nat} (hW : Wide W) : (2 : Int) ^ W = sgnW W + sgnW W ∧ 0 < sgnW W ∧ (2 : Int) ^ W ≤ 18446744073709551616 := by rcases hW with rfl | rfl | rfl <;> decide

theorem lwidth_0 (w0 : Int) (hw : 0 ≤ w0 ∧ w0 < 256) (hc : w0 % 4 = 0) (w : World) : Calls Tryd.prog 17 #[.int .u8 w0] w (fun e w' => e = .returned (.int .i64 16) ∧ w = w') := by
  have hc2 := tmod4 hw hc
  go_enter Tryd.func17, Tryd.ntmps17
  go_wp2
  go_ret
  exact ⟨rfl, rfl⟩

theorem lwidth_1 (w0 : Int) (hw : 0 ≤ w0 ∧ w0 < 256) (hc : w0 % 4 = 1) (w : World) : Calls Tryd.prog 17 #[.int .u8 w0] w (fun e w' => e = .returned (.int .i64 32) ∧ w = w') := by
  have hc2 := tmod4 hw hc
  go_enter Tryd.func17, Tryd.ntmps17
  go_wp2
  go_ret
  exact ⟨rfl, rfl⟩

theorem lwidth_2 (w0 : Int) (hw : 0 ≤ w0 ∧ w0 < 256) (hc : w0 % 4 = 2) (w : World) : Calls Tryd.prog 17 #[.int .u8 w0] w (fun e w' => e = .returned (.int .i64 64) ∧ w = w') := by
  have hc2 := tmod4 hw hc
  go_enter Tryd.func17, Tryd.ntmps17
  go_wp2
  go_ret
  exact ⟨rfl, rfl⟩

theorem lwidth_3 (w0 : Int) (hw : 0 ≤ w0 ∧ w0 < 256) (hc : w0 % 4 = 3) (w : World) : Calls Tryd.prog 17 #[.int .u8 w0] w (fun e w' => e = .returned (.int .i64 32) ∧ w = w') := by
  have hc2 := tmod4 hw hc
  go_enter Tryd.func17, Tryd.ntmps17
  go_wp2
  go_ret
  exact ⟨rfl, rfl⟩

theorem lwidth_calls (w0 : Int) (hw : 0 ≤ w0 ∧ w0 < 256) (w : World) : Calls Tryd.prog 17 #[.int .u8 w0] w (fun e w' => e = .returned (.int .i64 (wd w0 : Nat)) ∧ w = w') := by
  rcases (show w0 % 4 = 0 ∨ w0 % 4 = 1 ∨ w0 % 4 = 2 ∨ w0 % 4 = 3 by omega) with hc | hc | hc | hc
  · rw [wd_0 hc]
    exact lwidth_0 w0 hw hc w
  · rw [wd_1 hc]
    exact lwidth_1 w0 hw hc w
  · rw [wd_2 hc]
    exact lwidth_2 w0 hw hc w
  · rw [wd_3 hc]
    exact lwidth_3 w0 hw hc w
end Go.Proofs.YtmnabilgpndjmaaDoor

/- Printed by ieee.py. -/
namespace Go.Proofs.YtmnabilgpndjmaaDoor
open Go.RowKit

theorem of_16 (w : World) (hS : Shapes w) : Calls Tryd.prog 118 #[] w (fun e w' => e = .returned (.agg #[.int .i64 10, .int .i64 (-24), .int .i64 5]) ∧ Below w.heap.size w w') := by
  have b0 : Below w.heap.size w (w.alloc (.cells #[.int .i64 0, .int .i64 0, .int .i64 0] 142)) := (Below.refl _ _).alloc (Nat.le_refl _) _
  obtain ⟨c0, c1, c2, c3, c4, c5, c6, c7, c8⟩ := hS.below b0 (Nat.le_refl _)
  have x0 : bits BinOp.xor .u16 (if IntKind.u16.signed = true then -1 else IntKind.u16.max) 0 = 65535 := by decide
  have x1 : bits BinOp.xor .u16 IntKind.u16.max 0 = 65535 := by decide
  have x2 : IntKind.u64.wrap 65535 = 65535 := by decide
  clear b0
  go_enter Tryd.func118, Tryd.ntmps118
  go_wp2
  refine bodyPost_ret (results_cell_row rfl _ _ w.heap.size 142 #[.int .i64 10, .int .i64 (-24), .int .i64 5] (0, 0) _ rfl (heap_alloc_new _ _) Tryd.underlying142 rfl size_shape) rfl ?_
  exact ⟨rfl, (Below.refl _ _).alloc (Nat.le_refl _) _⟩
end Go.Proofs.YtmnabilgpndjmaaDoor

/- Printed by ieee.py. -/
namespace Go.Proofs.YtmnabilgpndjmaaDoor
open Go.RowKit

theorem shsign_16 (w : World) : Calls Tryd.prog 152 #[.agg #[.int .i64 10, .int .i64 (-24), .int .i64 5]] w (fun e w' => e = .returned (.int .u64 32768) ∧ Below w.heap.size w w') := by
  have b0 : Below w.heap.size w (w.alloc (.cells #[.int .i64 10, .int .i64 (-24), .int .i64 5] 142)) := (Below.refl _ _).alloc (Nat.le_refl _) _
  go_enter Tryd.func152, Tryd.ntmps152
  go_wp2
  go_ret
  exact ⟨rfl, b0⟩

theorem shinf_16 (w : World) : Calls Tryd.prog 119 #[.agg #[.int .i64 10, .int .i64 (-24), .int .i64 5]] w (fun e w' => e = .returned (.int .u64 31744) ∧ Below w.heap.size w w') := by
  have b0 : Below w.heap.size w (w.alloc (.cells #[.int .i64 10, .int .i64 (-24), .int .i64 5] 142)) := (Below.refl _ _).alloc (Nat.le_refl _) _
  go_enter Tryd.func119, Tryd.ntmps119
  go_wp2_with fail
  have c0 : (w.alloc (.cells #[.int .i64 10, .int .i64 (-24), .int .i64 5] 142)).cell? ⟨w.heap.size, 0, none⟩ = some (.int .i64 10) := World.cell?_alloc_at _ _ _ _ rfl
  have c1 : (w.alloc (.cells #[.int .i64 10, .int .i64 (-24), .int .i64 5] 142)).cell? ⟨w.heap.size, 1, none⟩ = some (.int .i64 (-24)) := World.cell?_alloc_at _ _ _ _ rfl
  have c2 : (w.alloc (.cells #[.int .i64 10, .int .i64 (-24), .int .i64 5] 142)).cell? ⟨w.heap.size, 2, none⟩ = some (.int .i64 5) := World.cell?_alloc_at _ _ _ _ rfl
  generalize w.alloc (.cells #[.int .i64 10, .int .i64 (-24), .int .i64 5] 142) = w1 at *
  have bd : Below w1.heap.size w1 w1.drew := below_drew (Below.refl _ _)
  go_region_held3 (fun w' => w'.cell? ⟨w.heap.size, 0, none⟩ = some (.int .i64 10) ∧ w'.cell? ⟨w.heap.size, 1, none⟩ = some (.int .i64 (-24)) ∧ w'.cell? ⟨w.heap.size, 2, none⟩ = some (.int .i64 5) ∧ Below w1.heap.size w1 w') (go_keep)
    (first
      | (go_at_call 152
         refine (shsign_16 _).mono ?_
         rintro e w2 ⟨rfl, hb⟩
         have d0 := below_cell hb (Nat.le_refl _) c0
         have d1 := below_cell hb (Nat.le_refl _) c1
         have d2 := below_cell hb (Nat.le_refl _) c2
         have bb : Below w1.heap.size w1 w2 := below_then bd (Nat.le_refl _) hb))
  go_wp2
  go_ret
  exact ⟨by first | rfl | simp, below_trans b0 (by assumption)⟩

theorem shnan_16 (w : World) : Calls Tryd.prog 160 #[.agg #[.int .i64 10, .int .i64 (-24), .int .i64 5]] w (fun e w' => e = .returned (.int .u64 32256) ∧ Below w.heap.size w w') := by
  have b0 : Below w.heap.size w (w.alloc (.cells #[.int .i64 10, .int .i64 (-24), .int .i64 5] 142)) := (Below.refl _ _).alloc (Nat.le_refl _) _
  have hw : IntKind.i64.wrap 9 = 9 := by decide
  go_enter Tryd.func160, Tryd.ntmps160
  go_wp2_with fail
  have c0 : (w.alloc (.cells #[.int .i64 10, .int .i64 (-24), .int .i64 5] 142)).cell? ⟨w.heap.size, 0, none⟩ = some (.int .i64 10) := World.cell?_alloc_at _ _ _ _ rfl
  have c1 : (w.alloc (.cells #[.int .i64 10, .int .i64 (-24), .int .i64 5] 142)).cell? ⟨w.heap.size, 1, none⟩ = some (.int .i64 (-24)) := World.cell?_alloc_at _ _ _ _ rfl
  have c2 : (w.alloc (.cells #[.int .i64 10, .int .i64 (-24), .int .i64 5] 142)).cell? ⟨w.heap.size, 2, none⟩ = some (.int .i64 5) := World.cell?_alloc_at _ _ _ _ rfl
  generalize w.alloc (.cells #[.int .i64 10, .int .i64 (-24), .int .i64 5] 142) = w1 at *
  have bd : Below w1.heap.size w1 w1.drew := below_drew (Below.refl _ _)
  go_region_held3 (fun w' => w'.cell? ⟨w.heap.size, 0, none⟩ = some (.int .i64 10) ∧ w'.cell? ⟨w.heap.size, 1, none⟩ = some (.int .i64 (-24)) ∧ w'.cell? ⟨w.heap.size, 2, none⟩ = some (.int .i64 5) ∧ Below w1.heap.size w1 w') (go_keep)
    (first
      | (go_at_call 119
         refine (shinf_16 _).mono ?_
         rintro e w2 ⟨rfl, hb⟩
         have d0 := below_cell hb (Nat.le_refl _) c0
         have d1 := below_cell hb (Nat.le_refl _) c1
         have d2 := below_cell hb (Nat.le_refl _) c2
         have bb : Below w1.heap.size w1 w2 := below_then bd (Nat.le_refl _) hb))
  go_wp2
  go_ret
  exact ⟨by first | rfl | simp, below_trans b0 (by assumption)⟩

theorem shsign_32 (w : World) : Calls Tryd.prog 152 #[.agg #[.int .i64 23, .int .i64 (-149), .int .i64 8]] w (fun e w' => e = .returned (.int .u64 2147483648) ∧ Below w.heap.size w w') := by
  have b0 : Below w.heap.size w (w.alloc (.cells #[.int .i64 23, .int .i64 (-149), .int .i64 8] 142)) := (Below.refl _ _).alloc (Nat.le_refl _) _
  go_enter Tryd.func152, Tryd.ntmps152
  go_wp2
  go_ret
  exact ⟨rfl, b0⟩

theorem shinf_32 (w : World) : Calls Tryd.prog 119 #[.agg #[.int .i64 23, .int .i64 (-149), .int .i64 8]] w (fun e w' => e = .returned (.int .u64 2139095040) ∧ Below w.heap.size w w') := by
  have b0 : Below w.heap.size w (w.alloc (.cells #[.int .i64 23, .int .i64 (-149), .int .i64 8] 142)) := (Below.refl _ _).alloc (Nat.le_refl _) _
  go_enter Tryd.func119, Tryd.ntmps119
  go_wp2_with fail
  have c0 : (w.alloc (.cells #[.int .i64 23, .int .i64 (-149), .int .i64 8] 142)).cell? ⟨w.heap.size, 0, none⟩ = some (.int .i64 23) := World.cell?_alloc_at _ _ _ _ rfl
  have c1 : (w.alloc (.cells #[.int .i64 23, .int .i64 (-149), .int .i64 8] 142)).cell? ⟨w.heap.size, 1, none⟩ = some (.int .i64 (-149)) := World.cell?_alloc_at _ _ _ _ rfl
  have c2 : (w.alloc (.cells #[.int .i64 23, .int .i64 (-149), .int .i64 8] 142)).cell? ⟨w.heap.size, 2, none⟩ = some (.int .i64 8) := World.cell?_alloc_at _ _ _ _ rfl
  generalize w.alloc (.cells #[.int .i64 23, .int .i64 (-149), .int .i64 8] 142) = w1 at *
  have bd : Below w1.heap.size w1 w1.drew := below_drew (Below.refl _ _)
  go_region_held3 (fun w' => w'.cell? ⟨w.heap.size, 0, none⟩ = some (.int .i64 23) ∧ w'.cell? ⟨w.heap.size, 1, none⟩ = some (.int .i64 (-149)) ∧ w'.cell? ⟨w.heap.size, 2, none⟩ = some (.int .i64 8) ∧ Below w1.heap.size w1 w') (go_keep)
    (first
      | (go_at_call 152
         refine (shsign_32 _).mono ?_
         rintro e w2 ⟨rfl, hb⟩
         have d0 := below_cell hb (Nat.le_refl _) c0
         have d1 := below_cell hb (Nat.le_refl _) c1
         have d2 := below_cell hb (Nat.le_refl _) c2
         have bb : Below w1.heap.size w1 w2 := below_then bd (Nat.le_refl _) hb))
  go_wp2
  go_ret
  exact ⟨by first | rfl | simp, below_trans b0 (by assumption)⟩

theorem shnan_32 (w : World) : Calls Tryd.prog 160 #[.agg #[.int .i64 23, .int .i64 (-149), .int .i64 8]] w (fun e w' => e = .returned (.int .u64 2143289344) ∧ Below w.heap.size w w') := by
  have b0 : Below w.heap.size w (w.alloc (.cells #[.int .i64 23, .int .i64 (-149), .int .i64 8] 142)) := (Below.refl _ _).alloc (Nat.le_refl _) _
  have hw : IntKind.i64.wrap 22 = 22 := by decide
  go_enter Tryd.func160, Tryd.ntmps160
  go_wp2_with fail
  have c0 : (w.alloc (.cells #[.int .i64 23, .int .i64 (-149), .int .i64 8] 142)).cell? ⟨w.heap.size, 0, none⟩ = some (.int .i64 23) := World.cell?_alloc_at _ _ _ _ rfl
  have c1 : (w.alloc (.cells #[.int .i64 23, .int .i64 (-149), .int .i64 8] 142)).cell? ⟨w.heap.size, 1, none⟩ = some (.int .i64 (-149)) := World.cell?_alloc_at _ _ _ _ rfl
  have c2 : (w.alloc (.cells #[.int .i64 23, .int .i64 (-149), .int .i64 8] 142)).cell? ⟨w.heap.size, 2, none⟩ = some (.int .i64 8) := World.cell?_alloc_at _ _ _ _ rfl
  generalize w.alloc (.cells #[.int .i64 23, .int .i64 (-149), .int .i64 8] 142) = w1 at *
  have bd : Below w1.heap.size w1 w1.drew := below_drew (Below.refl _ _)
  go_region_held3 (fun w' => w'.cell? ⟨w.heap.size, 0, none⟩ = some (.int .i64 23) ∧ w'.cell? ⟨w.heap.size, 1, none⟩ = some (.int .i64 (-149)) ∧ w'.cell? ⟨w.heap.size, 2, none⟩ = some (.int .i64 8) ∧ Below w1.heap.size w1 w') (go_keep)
    (first
      | (go_at_call 119
         refine (shinf_32 _).mono ?_
         rintro e w2 ⟨rfl, hb⟩
         have d0 := below_cell hb (Nat.le_refl _) c0
         have d1 := below_cell hb (Nat.le_refl _) c1
         have d2 := below_cell hb (Nat.le_refl _) c2
         have bb : Below w1.heap.size w1 w2 := below_then bd (Nat.le_refl _) hb))
  go_wp2
  go_ret
  exact ⟨by first | rfl | simp, below_trans b0 (by assumption)⟩

theorem shsign_64 (w : World) : Calls Tryd.prog 152 #[.agg #[.int .i64 52, .int .i64 (-1074), .int .i64 11]] w (fun e w' => e = .returned (.int .u64 9223372036854775808) ∧ Below w.heap.size w w') := by
  have b0 : Below w.heap.size w (w.alloc (.cells #[.int .i64 52, .int .i64 (-1074), .int .i64 11] 142)) := (Below.refl _ _).alloc (Nat.le_refl _) _
  go_enter Tryd.func152, Tryd.ntmps152
  go_wp2
  go_ret
  exact ⟨rfl, b0⟩

theorem shinf_64 (w : World) : Calls Tryd.prog 119 #[.agg #[.int .i64 52, .int .i64 (-1074), .int .i64 11]] w (fun e w' => e = .returned (.int .u64 9218868437227405312) ∧ Below w.heap.size w w') := by
  have b0 : Below w.heap.size w (w.alloc (.cells #[.int .i64 52, .int .i64 (-1074), .int .i64 11] 142)) := (Below.refl _ _).alloc (Nat.le_refl _) _
  go_enter Tryd.func119, Tryd.ntmps119
  go_wp2_with fail
  have c0 : (w.alloc (.cells #[.int .i64 52, .int .i64 (-1074), .int .i64 11] 142)).cell? ⟨w.heap.size, 0, none⟩ = some (.int .i64 52) := World.cell?_alloc_at _ _ _ _ rfl
  have c1 : (w.alloc (.cells #[.int .i64 52, .int .i64 (-1074), .int .i64 11] 142)).cell? ⟨w.heap.size, 1, none⟩ = some (.int .i64 (-1074)) := World.cell?_alloc_at _ _ _ _ rfl
  have c2 : (w.alloc (.cells #[.int .i64 52, .int .i64 (-1074), .int .i64 11] 142)).cell? ⟨w.heap.size, 2, none⟩ = some (.int .i64 11) := World.cell?_alloc_at _ _ _ _ rfl
  generalize w.alloc (.cells #[.int .i64 52, .int .i64 (-1074), .int .i64 11] 142) = w1 at *
  have bd : Below w1.heap.size w1 w1.drew := below_drew (Below.refl _ _)
  go_region_held3 (fun w' => w'.cell? ⟨w.heap.size, 0, none⟩ = some (.int .i64 52) ∧ w'.cell? ⟨w.heap.size, 1, none⟩ = some (.int .i64 (-1074)) ∧ w'.cell? ⟨w.heap.size, 2, none⟩ = some (.int .i64 11) ∧ Below w1.heap.size w1 w') (go_keep)
    (first
      | (go_at_call 152
         refine (shsign_64 _).mono ?_
         rintro e w2 ⟨rfl, hb⟩
         have d0 := below_cell hb (Nat.le_refl _) c0
         have d1 := below_cell hb (Nat.le_refl _) c1
         have d2 := below_cell hb (Nat.le_refl _) c2
         have bb : Below w1.heap.size w1 w2 := below_then bd (Nat.le_refl _) hb))
  go_wp2
  go_ret
  exact ⟨by first | rfl | simp, below_trans b0 (by assumption)⟩

theorem shnan_64 (w : World) : Calls Tryd.prog 160 #[.agg #[.int .i64 52, .int .i64 (-1074), .int .i64 11]] w (fun e w' => e = .returned (.int .u64 9221120237041090560) ∧ Below w.heap.size w w') := by
  have b0 : Below w.heap.size w (w.alloc (.cells #[.int .i64 52, .int .i64 (-1074), .int .i64 11] 142)) := (Below.refl _ _).alloc (Nat.le_refl _) _
  have hw : IntKind.i64.wrap 51 = 51 := by decide
  go_enter Tryd.func160, Tryd.ntmps160
  go_wp2_with fail
  have c0 : (w.alloc (.cells #[.int .i64 52, .int .i64 (-1074), .int .i64 11] 142)).cell? ⟨w.heap.size, 0, none⟩ = some (.int .i64 52) := World.cell?_alloc_at _ _ _ _ rfl
  have c1 : (w.alloc (.cells #[.int .i64 52, .int .i64 (-1074), .int .i64 11] 142)).cell? ⟨w.heap.size, 1, none⟩ = some (.int .i64 (-1074)) := World.cell?_alloc_at _ _ _ _ rfl
  have c2 : (w.alloc (.cells #[.int .i64 52, .int .i64 (-1074), .int .i64 11] 142)).cell? ⟨w.heap.size, 2, none⟩ = some (.int .i64 11) := World.cell?_alloc_at _ _ _ _ rfl
  generalize w.alloc (.cells #[.int .i64 52, .int .i64 (-1074), .int .i64 11] 142) = w1 at *
  have bd : Below w1.heap.size w1 w1.drew := below_drew (Below.refl _ _)
  go_region_held3 (fun w' => w'.cell? ⟨w.heap.size, 0, none⟩ = some (.int .i64 52) ∧ w'.cell? ⟨w.heap.size, 1, none⟩ = some (.int .i64 (-1074)) ∧ w'.cell? ⟨w.heap.size, 2, none⟩ = some (.int .i64 11) ∧ Below w1.heap.size w1 w') (go_keep)
    (first
      | (go_at_call 119
         refine (shinf_64 _).mono ?_
         rintro e w2 ⟨rfl, hb⟩
         have d0 := below_cell hb (Nat.le_refl _) c0
         have d1 := below_cell hb (Nat.le_refl _) c1
         have d2 := below_cell hb (Nat.le_refl _) c2
         have bb : Below w1.heap.size w1 w2 := below_then bd (Nat.le_refl _) hb))
  go_wp2
  go_ret
  exact ⟨by first | rfl | simp, below_trans b0 (by assumption)⟩
end Go.Proofs.YtmnabilgpndjmaaDoor
