/- Contracts of functions, and plain facts, part 16. -/
import Derived.BigQuiet
import Derived.Deep.QuietTactic
import Derived.Deep.RegionHeld3
import Derived.Deep.AppendLies
import Derived.Test.YtmnabilgpndjmaaDoorPk2
import Derived.Test.YtmnabilgpndjmaaDoorPk3
import Derived.Test.YtmnabilgpndjmaaDoorPk4
import Derived.Test.YtmnabilgpndjmaaDoorPk5
import Derived.Test.YtmnabilgpndjmaaDoorPk6
import Derived.Test.YtmnabilgpndjmaaDoorPk7
import Derived.Test.YtmnabilgpndjmaaDoorPk14
import Derived.Test.YtmnabilgpndjmaaDoorPk15
set_option linter.unusedVariables false
set_option linter.unusedSimpArgs false
/- Add by worth alone. -/
namespace Go.Proofs.YtmnabilgpndjmaaDoor
open Go.RowKit

theorem num_add (ad bd : Option Addr) (n m c d : Nat) (V U : Int) (w : World) (h : Num w ad n c V) (k : Num w bd m d U) (hn : n ≤ 70368744177663) (hm : m ≤ 70368744177663) :
    Calls Tryd.prog 35 #[.slice ad n c, .slice bd m d] w (RetC (V + U) w) := by
  obtain ⟨xs, h1, h2, rfl⟩ := h.row
  obtain ⟨zs, k1, k2, rfl⟩ := k.row
  exact (add_calls ad bd n m c d xs zs w (by omega) (by omega) h.le k.le h1 k1 h2 k2).mono fun e w' q => q.can
end Go.Proofs.YtmnabilgpndjmaaDoor

/- Shr by worth alone. -/
namespace Go.Proofs.YtmnabilgpndjmaaDoor
open Go.RowKit

theorem num_shr (ad : Option Addr) (n c : Nat) (V : Int) (r : Int) (w : World) (h : Num w ad n c V) (hn : n ≤ 70368744177663) (hr : -9223372036854775808 ≤ r ∧ r < 9223372036854775808) :
    Calls Tryd.prog 125 #[.slice ad n c, .int .i64 r] w (RetCBB (shrNum V r) (shrMore V r) (decide (0 ≤ r)) w) := by
  obtain ⟨xs, h1, h2, rfl⟩ := h.row
  exact (shr_calls ad n c xs r w (by omega) h.le h1 h2 hr).mono fun e w' q => q.can
end Go.Proofs.YtmnabilgpndjmaaDoor

/- crucibleref01.Shr: divided by 2 to the power of n, and is something left over? -/
namespace Go.Proofs.YtmnabilgpndjmaaDoor
open Go.RowKit

def RShrR (w : World) (zs : List Int) (R c0 : Int) (k : Nat) (v : Value) (wr : World) : Prop :=
  ∃ ad cp ds, v = .slice ad k cp ∧ App w.heap.size wr 3 .i64 ad k cp ds ∧ Dig 256 ds ∧ Below w.heap.size w wr ∧ w.heap.size ≤ wr.heap.size ∧ val 256 ds * R + c0 = val 256 (zs.take k) + 256 ^ k * (zs[k]?.getD 0 % R)

set_option maxRecDepth 20000 in
set_option maxHeartbeats 1000000 in
theorem rshr_good (ad : Option Addr) (nn c : Nat) (la : List Int) (n : Int) (w : World) (hn : nn ≤ 1099511627776) (hr : Rds w .u32 ad nn la) (da : Dig 4294967296 la)
    (hn0 : 0 ≤ n) (hn1 : n < 9223372036854775808) (hsm : n / 8 < ((dg 256 (val 4294967296 la)).length : Nat)) :
    Calls Tryd.prog 71 #[.slice ad nn c, .int .i64 n] w (RetLBB 76 .u32 (dg 4294967296 (val 4294967296 la / 2 ^ n.toNat)) (decide (val 4294967296 la % 2 ^ n.toNat ≠ 0)) true w) := by
  have l1 := bytes_len hr.len da
  have C1 := Lib.hid (bytes_calls ad nn c la w (by omega) hr da)
  have hV0 := val_nonneg (by omega) da
  have vx := val_dg 256 (by omega) (val 4294967296 la) hV0
  rw [show ((256 : Nat) : Int) = 256 from rfl] at vx
  have dx : Dig 256 (dg 256 (val 4294967296 la)) := dg_dig 256 (by omega) _
  clear hr
  rw [← vx]
  clear vx
  generalize dg 256 (val 4294967296 la) = xs at *
  obtain ⟨m, hm⟩ : ∃ m, xs.length = m := ⟨_, rfl⟩
  rw [hm] at l1 hsm
  have HM := Lib.hid hm
  clear hm
  obtain ⟨s, hs⟩ : ∃ s : Nat, n / 8 = s := ⟨(n / 8).toNat, by omega⟩
  obtain ⟨r, hrr⟩ : ∃ r : Nat, n % 8 = r := ⟨(n % 8).toNat, by omega⟩
  have hr8 : r < 8 := by omega
  have hsm' : s < m := by omega
  have hR : (1 : Int) ≤ 2 ^ r ∧ (2 : Int) ^ r ≤ 128 := by
    have : ∀ r : Nat, r < 8 → (1 : Int) ≤ 2 ^ r ∧ (2 : Int) ^ r ≤ 128 := by decide
    exact this r hr8
  have hQ : (0 : Int) < 2 ^ (8 - r) := Int.pow_pos (by omega)
  have HBR := Lib.hid (show (256 : Int) = 2 ^ r * 2 ^ (8 - r) by rw [← Int.pow_add, show r + (8 - r) = 8 by omega]; rfl)
  have hlo0 := val_nonneg (b := 256) (by omega) (dx.take s)
  have hlo1 := val_lt (b := 256) (by omega) (dx.take s)
  rw [List.length_take, HM.out, Nat.min_eq_left (by omega)] at hlo1
  have EV : (2 : Int) ^ n.toNat = 256 ^ s * 2 ^ r := by
    have e : n.toNat = 8 * s + r := by omega
    rw [e, Int.pow_add, Int.pow_mul, show (2 : Int) ^ 8 = 256 from rfl]
  have hsp := split_div (val 256 (xs.take s)) (256 ^ s) (val 256 (xs.drop s)) (2 ^ r) hlo0 hlo1 (by omega)
  have hzr : val 256 (xs.drop s) % 2 ^ r = xs[s]?.getD 0 % 2 ^ r := by
    rw [val_drop 256 xs s (by rw [HM.out]; omega), HBR.out, Int.mul_assoc, Int.add_mul_emod_self_left]
  rw [EV, val_split 256 xs s (by rw [HM.out]; omega), hsp.1, hsp.2, ne_parts _ _ _ hlo0 (Int.pow_pos (by omega)) (Int.emod_nonneg _ (by omega)), hzr]
  clear EV hsp hlo0 hlo1
  have HZR := Lib.hid hzr
  clear hzr
  obtain ⟨MO, hMO⟩ : ∃ MO, (decide (val 256 (xs.take s) ≠ 0) || decide (xs[s]?.getD 0 % 2 ^ r ≠ 0)) = MO := ⟨_, rfl⟩
  have HMO := Lib.hid hMO
  rw [hMO]
  clear hMO
  have hmm : ¬ (n / 8 ≥ (m : Int)) := by omega
  have hsI : (s : Int) < m := by omega
  have hsI0 : (0 : Int) ≤ s := by omega
  have bs := dx.get (by omega) s
  go_enter Tryd.func71, Tryd.ntmps71
  go_wp2_with fail
  refine (C1.out).mono ?_
  rintro e w1 ⟨xd, m', cx, rfl, ox, b1⟩
  obtain rfl : m = m' := by rw [← HM.out]; exact ox.rds.len
  have rx := ox.rds
  clear C1 ox
  obtain ⟨a, rfl, hxs⟩ := rx.cell s hsm'
  have HXR := Lib.hid (show decide (0 < xs[s]?.getD 0 % 2 ^ r) = decide (xs[s]?.getD 0 % 2 ^ r ≠ 0) by
    have := Int.emod_nonneg (xs[s]?.getD 0) (show (2 : Int) ^ r ≠ 0 by omega)
    rw [Bool.eq_iff_iff]
    simp only [decide_eq_true_eq]
    omega)
  generalize hxse : xs[s]?.getD 0 = x at *
  have HXE := Lib.hid hxse
  clear hxse
  have W1 := IntWalk.rem_in x (2 ^ r) bs.1
  have hR0 : ((2 : Int) ^ r == 0) = false := by simp; omega
  go_wp2_with fail
  go_quiet ((go_at_call 130; exact quiet_left (power_calls r hr8 _)))
  have b3 := below_drewN (Below.refl w1.heap.size w1) nq
  have rx3 := rx.below b3 (Nat.le_refl _)
  have BB := below_trans b1 b3
  clear rx hxs b1 b3 W1
  generalize w1.drewN nq = w3 at *
  rw [hs, hrr]
  go_wp2
  go_loop [9, 8] (fun i b => ∃ k : Nat, ∃ mb : Bool, k ≤ s ∧ i = .int .i64 k ∧ b = .bool mb ∧ Hid (mb = (decide (val 256 (xs.take k) ≠ 0) || decide (x % 2 ^ r ≠ 0)))) (fun i _ => s - (intOf i).toNat)
  case atStart => exact ⟨0, _, Nat.zero_le _, rfl, rfl, by show _ = _; rw [HXR.out]; simp [val]⟩
  case round =>
    obtain ⟨k, mb, hk, rfl, rfl, hmb⟩ := hrel
    by_cases hks : k < s
    · obtain ⟨a', ha', hxl⟩ := rx3.cell k (by omega)
      injection ha' with ha'
      subst ha'
      have by1 := dx.get (by omega) k
      have HMB := Lib.hid (show (mb || decide (0 < xs[k]?.getD 0)) = (decide (val 256 (xs.take (k + 1)) ≠ 0) || decide (x % 2 ^ r ≠ 0)) by
        rw [hmb.out, val_take_succ', ne_parts _ _ _ (val_nonneg (by omega) (dx.take k)) (Int.pow_pos (by omega)) by1.1, show decide (0 < xs[k]?.getD 0) = decide (xs[k]?.getD 0 ≠ 0) by rw [Bool.eq_iff_iff]; simp only [decide_eq_true_eq]; omega]
        cases decide (val 256 (xs.take k) ≠ 0) <;> cases decide (x % 2 ^ r ≠ 0) <;> cases decide (xs[k]?.getD 0 ≠ 0) <;> rfl)
      clear hmb
      generalize xs[k]?.getD 0 = y at *
      cases mb
      · go_wp2
        go_round
        case rel => exact ⟨k + 1, _, by omega, by go_num, rfl, by show _ = _; rw [← HMB.out, Bool.false_or]⟩
        case measure => simp [intOf]; omega
      · go_wp2
        go_round
        case rel => exact ⟨k + 1, true, by omega, by go_num, rfl, by show _ = _; rw [← HMB.out, Bool.true_or]⟩
        case measure => simp [intOf]; omega
    · obtain rfl : k = s := by omega
      have hmo : mb = MO := by rw [hmb.out]; exact HMO.out
      subst hmo
      clear hmb HMO
      obtain ⟨L, hL⟩ : ∃ L, m = k + L := ⟨m - k, by omega⟩
      obtain ⟨zs, hzs⟩ : ∃ zs, xs.drop k = zs := ⟨_, rfl⟩
      have hz : ∀ q, xs[k + q]?.getD 0 = zs[q]?.getD 0 := by intro q; rw [← hzs, List.getElem?_drop]
      have HZ := Lib.hid hz
      have HZL := Lib.hid (show zs.length = L by rw [← hzs, List.length_drop, HM.out]; omega)
      have HLL := Lib.hid hL
      rw [hzs] at HZR
      have HZS := Lib.hid hzs
      clear hz hzs hL
      have hr0 : RShrR w3 zs (2 ^ r) (x % 2 ^ r) 0 (.slice none 0 0) w3 := ⟨none, 0, [], rfl, App.nil _ _ _ _, Dig.nil _, Below.refl _ _, Nat.le_refl _, by
        have := HXE.out
        rw [show k = k + 0 from rfl, HZ.out 0] at this
        rw [this]
        simp [val]⟩
      go_wp2
      go_loopw [11, 10] (fun i v wr => ∃ j q : Nat, j ≤ m ∧ i = .int .i64 j ∧ Hid (j = k + q) ∧ RShrR w3 zs (2 ^ r) (x % 2 ^ r) q v wr) (fun i _ _ => m - (intOf i).toNat)
      case atStart => exact ⟨k, 0, by omega, rfl, rfl, hr0⟩
      case round =>
        clear hr0
        obtain ⟨j, q, hj, rfl, hjq, ad3, c3, ds, rfl, g1, g2, g3, g4, g5⟩ := hrel
        have H5 := Lib.hid g5
        clear g5
        by_cases hjm : j < m
        · have A2 := Lib.hid (fun (w' : World) (h : Below w3.heap.size w3 w') => at_calls (some a) m cx xs (j + 1) w' (by omega) (rx3.below h (Nat.le_refl _)))
          obtain ⟨a', ha', hxl⟩ := (rx3.below g3 (Nat.le_refl _)).cell j (by omega)
          injection ha' with ha'
          subst ha'
          have bx := dx.get (by omega) j
          have bz := dx.get (by omega) (j + 1)
          have HS := shr_snoc 256 (2 ^ r) (2 ^ (8 - r)) (by omega) HBR.out zs ds q g1.len _ H5.out
          have hql : q ≤ m := by have := hjq.out; omega
          rw [← HZ.out q, ← HZ.out (q + 1), ← hjq.out, show k + (q + 1) = j + 1 by have := hjq.out; omega] at HS
          rw [← down_digit 256 (2 ^ r) (2 ^ (8 - r)) _ _ (by omega) hQ HBR.out bx] at HS
          have HSH := Lib.hid HS
          clear HS H5
          generalize hxe : xs[j]?.getD 0 = x1 at *
          generalize hye : xs[j + 1]?.getD 0 = y1 at *
          have HYE := Lib.hid hye
          have HX1 := Lib.hid hxe
          clear hxe hye
          have T0 : 0 ≤ x1 + 256 * y1 := by omega
          have W1 : IntKind.i64.wrap (256 * y1) = 256 * y1 := IntWalk.i64_in _ (by omega)
          have W2 : IntKind.i64.wrap (x1 + 256 * y1) = x1 + 256 * y1 := IntWalk.i64_in _ (by omega)
          have W3 : IntKind.i64.wrap ((j : Int) + 1) = (j : Int) + 1 := IntWalk.i64_in _ (by omega)
          have W4 := IntWalk.i64_quo (x1 + 256 * y1) (2 ^ r) ⟨T0, by omega, hR.1⟩
          have W5 := IntWalk.rem_in ((x1 + 256 * y1) / 2 ^ r) 256 (Int.ediv_nonneg T0 (by omega))
          have W6 : (0 : Int) ≤ (j : Int) := by omega
          have Q3 : 0 ≤ (x1 + 256 * y1) / 2 ^ r % 256 ∧ (x1 + 256 * y1) / 2 ^ r % 256 < 256 := by omega
          go_wp2_with fail
          have g1d : App w3.heap.size wr.drew 3 .i64 ad3 q c3 ds := g1
          have g3d : Below w3.heap.size w3 wr.drew := below_drew g3
          have g4d : w3.heap.size ≤ wr.drew.heap.size := g4
          clear W6
          have W6 : (0 : Int) ≤ (j : Int) := by omega
          have W7 : n.tmod 8 = r := by rw [Int.tmod_eq_emod_of_nonneg hn0]; exact hrr
          have HBA : Below w3.heap.size w3 (wr.alloc (.cells #[.int .i64 ((x1 + 256 * y1) / 2 ^ r % 256)] 3)).drew := below_drew (g3.alloc g4 _)
          have hBA : w3.heap.size ≤ (wr.alloc (.cells #[.int .i64 ((x1 + 256 * y1) / 2 ^ r % 256)] 3)).drew.heap.size := by simp; omega
          obtain ⟨i0, hi0, hz0, hz1, hz2⟩ := info_parts info_int
          have hR00 : ¬ (2 : Int) ^ r = 0 := by omega
          go_region_held3 (fun w' => w'.cell? (a.add j) = some (.int .i64 x1) ∧ Below w3.heap.size w3 w') (go_keep)
            (first
              | (go_at_call 131; refine (A2.out _ (by assumption)).mono ?_; rintro e w' ⟨rfl, rfl⟩)
              | (go_at_call 130; refine (power_calls r hr8 _).mono ?_; rintro e w' ⟨rfl, rfl⟩)
              | (refine step_append_lies _ (by rfl) _ _ _ (by rfl) w3.heap.size 3 i0 _ 1 8 Tryd.underlying150 hi0 hz0 hz1 hz2 rfl (by omega) (.slice ad3 q c3) q (nums .i64 ds) (by rfl) (g1.alloc _)
                  ⟨wr.heap.size, 0, none⟩ 1 1 [.int .i64 ((x1 + 256 * y1) / 2 ^ r % 256)] (by rfl) (by rfl) (World.news_of_block (cs := #[.int .i64 ((x1 + 256 * y1) / 2 ^ r % 256)]) (t := 3) (fr := (0, 0)) (heap_alloc_new wr _)) (by simp [Value.oneCell'])
                  (by omega) (by simp only [maxLen]; omega) (by omega) hBA (wr.heap.size + 1) (by simp) ?_
                 intro gg cap w4 hown1 hgrow hat hlt
                 have k2 : Below w3.heap.size w3 w4 := HBA.grown hgrow hBA (fun rr hrr => (World.ownsRow.lt g1 rr hrr).1)
                 have k3 : w3.heap.size ≤ w4.heap.size := Nat.le_trans hBA hgrow.size
                 obtain ⟨_, hq4, hx4⟩ := (rx3.below k2 (Nat.le_refl _)).cell j hjm
                 injection hq4 with hq4
                 subst hq4
                 rw [HX1.out] at hx4))
          clear W1 W2 W3 W4 W5 W7 hx4 HBA hBA
          go_wp2
          go_roundw
          case rel =>
            refine ⟨j + 1, q + 1, by omega, by go_num, by have := hjq.out; show j + 1 = k + (q + 1); omega, _, cap, ds ++ [(x1 + 256 * y1) / 2 ^ r % 256], rfl, by simpa [App, nums] using hown1, g2.append (Dig.cons Q3.1 Q3.2 (Dig.nil _)), k2, k3, ?_⟩
            rw [← HZ.out (q + 1), show k + (q + 1) = j + 1 by have := hjq.out; omega, HYE.out]
            exact HSH.out
          case measure => simp [intOf]; omega
        · obtain rfl : j = m := by omega
          have hqL : q = L := by have := hjq.out; have := HLL.out; omega
          have hv : val 256 ds = val 256 zs / 2 ^ r := by
            have e := H5.out
            rw [hqL, List.take_of_length_le (by rw [HZL.out]; exact Nat.le_refl _), List.getElem?_eq_none (by rw [HZL.out]; exact Nat.le_refl _)] at e
            simp only [Option.getD_none, Int.zero_emod, Int.mul_zero, Int.add_zero] at e
            rw [← e, Int.add_comm, Int.add_mul_ediv_right _ _ (by omega), Int.ediv_eq_zero_of_lt (Int.emod_nonneg _ (by omega)) (Int.emod_lt_of_pos _ (by omega)), Int.zero_add]
          have hqj : q ≤ j := by have := hjq.out; omega
          have hl := limbs_calls ad3 q c3 ds wr (by omega) g1.own.le g1.rds g2
          rw [hv] at hl
          have HL := Lib.hid hl
          clear hv hl H5 hqL
          go_wp2_with fail
          refine (HL.out).mono ?_
          rintro e w' hr
          obtain ⟨rd, nr, cr, rfl, or, br⟩ := hr.after (below_trans BB g3)
          go_wp2_with fail
          go_ret3
          rw [HZS.out]
          exact ⟨_, _, _, rfl, or, br⟩

/-- crucibleref01.Shr at any number. -/
theorem rshr_calls (ad : Option Addr) (nn c : Nat) (la : List Int) (n : Int) (w : World) (hn : nn ≤ 1099511627776) (hr : Rds w .u32 ad nn la) (da : Dig 4294967296 la) (hnb : -9223372036854775808 ≤ n ∧ n < 9223372036854775808) :
    Calls Tryd.prog 71 #[.slice ad nn c, .int .i64 n] w (RetLBB 76 .u32 (dg 4294967296 (shrNum (val 4294967296 la) n)) (shrMore (val 4294967296 la) n) (decide (0 ≤ n)) w) := by
  obtain ⟨hn1, hn2⟩ := hnb
  by_cases h0 : 0 ≤ n
  · by_cases hs : n / 8 < ((dg 256 (val 4294967296 la)).length : Nat)
    · have h := rshr_good ad nn c la n w hn hr da h0 hn2 hs
      unfold shrNum shrMore
      rw [if_pos h0, decide_eq_true h0, Bool.true_and]
      exact h
    · have hV0 := val_nonneg (by omega) da
      have hV1 : val 4294967296 la < 2 ^ n.toNat := by
        have h1 := val_lt (b := 256) (by omega) (dg_dig 256 (by omega) (val 4294967296 la).toNat)
        rw [show val 256 (digs 256 (val 4294967296 la).toNat) = val 4294967296 la from val_dg 256 (by omega) _ hV0] at h1
        have h2 : (256 : Int) ^ (digs 256 (val 4294967296 la).toNat).length = 2 ^ (8 * (digs 256 (val 4294967296 la).toNat).length) := by rw [Int.pow_mul]; rfl
        rw [h2] at h1
        refine Int.lt_of_lt_of_le h1 (pow_le (by omega) ?_)
        unfold dg at hs
        omega
      have HN := Lib.hid (show shrNum (val 4294967296 la) n = 0 by unfold shrNum; rw [if_pos h0]; exact Int.ediv_eq_zero_of_lt hV0 hV1)
      have HO := Lib.hid (show shrMore (val 4294967296 la) n = decide (0 < (dg 256 (val 4294967296 la)).length) by
        unfold shrMore
        rw [decide_eq_true h0, Bool.true_and, Int.emod_eq_of_lt hV0 hV1, Bool.eq_iff_iff]
        simp only [decide_eq_true_eq]
        have h3 := dg_nil 256 (val 4294967296 la) (by omega) hV0
        constructor
        · intro h4
          exact List.length_pos_iff.2 (fun h5 => h4 (h3.1 h5))
        · intro h4 h5
          rw [h3.2 h5] at h4
          simp at h4)
      have C1 := Lib.hid (bytes_calls ad nn c la w (by omega) hr da)
      have HD := Lib.hid (decide_eq_true h0)
      clear hr hV0 hV1
      go_enter Tryd.func71, Tryd.ntmps71
      go_wp2_with fail
      refine (C1.out).mono ?_
      rintro e w1 ⟨xd, m, cx, rfl, ox, b1⟩
      have hm := ox.len
      rw [show (dg 256 (val 4294967296 la)).length = m from hm] at HO hs
      clear hm ox C1
      have hmm : n / 8 ≥ (m : Int) := by omega
      go_wp2
      go_ret3
      rw [HN.out, HO.out, HD.out, dg_zero]
      refine ⟨none, 0, 0, ?_, Own.nil _ _ _ _ _, b1⟩
      first | rfl | simp
  · have HN := Lib.hid (show shrNum (val 4294967296 la) n = 0 by unfold shrNum; rw [if_neg h0])
    have HO := Lib.hid (show shrMore (val 4294967296 la) n = false by unfold shrMore; rw [decide_eq_false h0, Bool.false_and])
    have HD := Lib.hid (decide_eq_false h0)
    have hnw : n < 0 := by omega
    go_enter Tryd.func71, Tryd.ntmps71
    go_wp2
    go_ret3
    rw [HN.out, HO.out, HD.out, dg_zero]
    exact ⟨none, 0, 0, rfl, Own.nil _ _ _ _ _, Below.refl _ _⟩
end Go.Proofs.YtmnabilgpndjmaaDoor

/- RLen by worth alone. -/
namespace Go.Proofs.YtmnabilgpndjmaaDoor
open Go.RowKit

theorem num_rlen (ad : Option Addr) (n c : Nat) (V : Int) (w : World) (h : Num w ad n c V) (hn : n ≤ 1099511627776) :
    Calls Tryd.prog 70 #[.slice ad n c] w (fun e w' => e = .returned (.int .i64 (bitsOf V)) ∧ Below w.heap.size w w') := by
  obtain ⟨xs, h1, h2, rfl⟩ := h.row
  exact (rlen_calls ad n c xs w (by omega) h1 h2).mono fun e w' q => q
end Go.Proofs.YtmnabilgpndjmaaDoor

/- RAdd by worth alone. -/
namespace Go.Proofs.YtmnabilgpndjmaaDoor
open Go.RowKit

theorem num_radd (ad bd : Option Addr) (n m c d : Nat) (V U : Int) (w : World) (h : Num w ad n c V) (k : Num w bd m d U) (hn : n ≤ 1099511627776) (hm : m ≤ 1099511627776) :
    Calls Tryd.prog 72 #[.slice ad n c, .slice bd m d] w (RetC (V + U) w) := by
  obtain ⟨xs, h1, h2, rfl⟩ := h.row
  obtain ⟨zs, k1, k2, rfl⟩ := k.row
  exact (radd_calls ad bd n m c d xs zs w (by omega) (by omega) h1 k1 h2 k2).mono fun e w' q => q.can
end Go.Proofs.YtmnabilgpndjmaaDoor

/- RShr by worth alone. -/
namespace Go.Proofs.YtmnabilgpndjmaaDoor
open Go.RowKit

theorem num_rshr (ad : Option Addr) (n c : Nat) (V : Int) (r : Int) (w : World) (h : Num w ad n c V) (hn : n ≤ 1099511627776) (hr : -9223372036854775808 ≤ r ∧ r < 9223372036854775808) :
    Calls Tryd.prog 71 #[.slice ad n c, .int .i64 r] w (RetCBB (shrNum V r) (shrMore V r) (decide (0 ≤ r)) w) := by
  obtain ⟨xs, h1, h2, rfl⟩ := h.row
  exact (rshr_calls ad n c xs r w (by omega) h1 h2 hr).mono fun e w' q => q.can
end Go.Proofs.YtmnabilgpndjmaaDoor

/- Printed by ieee3.py. -/
namespace Go.Proofs.YtmnabilgpndjmaaDoor
open Go.RowKit

theorem or_sign_16 (z : Int) (hz : 0 ≤ z ∧ z < 32768) : bits .or .u64 z 32768 = 32768 + z := by
  obtain ⟨z, rfl⟩ := Int.eq_ofNat_of_zero_le hz.1
  have e : bits .or .u64 (z : Int) ((32768 : Nat) : Int) = ((z ||| 32768 : Nat) : Int) := Go.bits_or_u64_nat z _ (by omega) (by omega)
  have h := Nat.two_pow_add_eq_or_of_lt (show z < 2 ^ 15 by rw [show (2 : Nat) ^ 15 = 32768 from by decide]; omega) 1
  rw [Nat.mul_one, show (2 : Nat) ^ 15 = 32768 from by decide, Nat.or_comm] at h
  rw [← h] at e
  exact e.trans (by simp)

theorem signed_16 (w : World) (hS : Shapes w) (neg : Bool) (z : Int) (hz : 0 ≤ z ∧ z < 32768) : Calls Tryd.prog 123 #[.bool neg, .int .u64 z] w (fun e w' => e = .returned (.int .u16 ((if neg then sgnW 16 else 0) + z)) ∧ Below w.heap.size w w') := by
  have H1 := Lib.hid (of_16 w hS)
  have HO := or_sign_16 z hz
  rw [sgn16]
  cases neg
  · have W1 : IntKind.u16.wrap z = z := by rw [IntKind.wrap_u16]; omega
    have W2 : z % 65536 = z := by omega
    have W3 : 0 + z = z := by omega
    clear HO
    go_enter Tryd.func123, Tryd.ntmps123
    go_wp2
    go_ret
    exact ⟨by first | rfl | simp, Below.refl _ _⟩
  · have W1 : IntKind.u16.wrap (32768 + z) = 32768 + z := by rw [IntKind.wrap_u16]; omega
    have W2 : (32768 + z) % 65536 = 32768 + z := by omega
    go_enter Tryd.func123, Tryd.ntmps123
    go_wp2_with fail
    refine (H1.out).mono ?_
    rintro e w1 ⟨rfl, b1⟩
    go_wp2_with fail
    refine (shsign_16 w1).mono ?_
    rintro e w2 ⟨rfl, b2⟩
    go_wp2
    go_ret
    exact ⟨by first | rfl | simp, below_trans b1 b2⟩
end Go.Proofs.YtmnabilgpndjmaaDoor

/- Printed by ieee3.py. -/
namespace Go.Proofs.YtmnabilgpndjmaaDoor
open Go.RowKit

theorem or_sign_32 (z : Int) (hz : 0 ≤ z ∧ z < 2147483648) : bits .or .u64 z 2147483648 = 2147483648 + z := by
  obtain ⟨z, rfl⟩ := Int.eq_ofNat_of_zero_le hz.1
  have e : bits .or .u64 (z : Int) ((2147483648 : Nat) : Int) = ((z ||| 2147483648 : Nat) : Int) := Go.bits_or_u64_nat z _ (by omega) (by omega)
  have h := Nat.two_pow_add_eq_or_of_lt (show z < 2 ^ 31 by rw [show (2 : Nat) ^ 31 = 2147483648 from by decide]; omega) 1
  rw [Nat.mul_one, show (2 : Nat) ^ 31 = 2147483648 from by decide, Nat.or_comm] at h
  rw [← h] at e
  exact e.trans (by simp)

theorem signed_32 (w : World) (hS : Shapes w) (neg : Bool) (z : Int) (hz : 0 ≤ z ∧ z < 2147483648) : Calls Tryd.prog 128 #[.bool neg, .int .u64 z] w (fun e w' => e = .returned (.int .u32 ((if neg then sgnW 32 else 0) + z)) ∧ Below w.heap.size w w') := by
  have H1 := Lib.hid (of_32 w hS)
  have HO := or_sign_32 z hz
  rw [sgn32]
  cases neg
  · have W1 : IntKind.u32.wrap z = z := by rw [IntKind.wrap_u32]; omega
    have W2 : z % 4294967296 = z := by omega
    have W3 : 0 + z = z := by omega
    clear HO
    go_enter Tryd.func128, Tryd.ntmps128
    go_wp2
    go_ret
    exact ⟨by first | rfl | simp, Below.refl _ _⟩
  · have W1 : IntKind.u32.wrap (2147483648 + z) = 2147483648 + z := by rw [IntKind.wrap_u32]; omega
    have W2 : (2147483648 + z) % 4294967296 = 2147483648 + z := by omega
    go_enter Tryd.func128, Tryd.ntmps128
    go_wp2_with fail
    refine (H1.out).mono ?_
    rintro e w1 ⟨rfl, b1⟩
    go_wp2_with fail
    refine (shsign_32 w1).mono ?_
    rintro e w2 ⟨rfl, b2⟩
    go_wp2
    go_ret
    exact ⟨by first | rfl | simp, below_trans b1 b2⟩
end Go.Proofs.YtmnabilgpndjmaaDoor

/- Printed by ieee3.py. -/
namespace Go.Proofs.YtmnabilgpndjmaaDoor
open Go.RowKit

theorem or_sign_64 (z : Int) (hz : 0 ≤ z ∧ z < 9223372036854775808) : bits .or .u64 z 9223372036854775808 = 9223372036854775808 + z := by
  obtain ⟨z, rfl⟩ := Int.eq_ofNat_of_zero_le hz.1
  have e : bits .or .u64 (z : Int) ((9223372036854775808 : Nat) : Int) = ((z ||| 9223372036854775808 : Nat) : Int) := Go.bits_or_u64_nat z _ (by omega) (by omega)
  have h := Nat.two_pow_add_eq_or_of_lt (show z < 2 ^ 63 by rw [show (2 : Nat) ^ 63 = 9223372036854775808 from by decide]; omega) 1
  rw [Nat.mul_one, show (2 : Nat) ^ 63 = 9223372036854775808 from by decide, Nat.or_comm] at h
  rw [← h] at e
  exact e.trans (by simp)

theorem signed_64 (w : World) (hS : Shapes w) (neg : Bool) (z : Int) (hz : 0 ≤ z ∧ z < 9223372036854775808) : Calls Tryd.prog 126 #[.bool neg, .int .u64 z] w (fun e w' => e = .returned (.int .u64 ((if neg then sgnW 64 else 0) + z)) ∧ Below w.heap.size w w') := by
  have H1 := Lib.hid (of_64 w hS)
  have HO := or_sign_64 z hz
  rw [sgn64]
  cases neg
  · have W1 : IntKind.u64.wrap z = z := by rw [IntKind.wrap_u64]; omega
    have W2 : z % 18446744073709551616 = z := by omega
    have W3 : 0 + z = z := by omega
    clear HO
    go_enter Tryd.func126, Tryd.ntmps126
    go_wp2
    go_ret
    exact ⟨by first | rfl | simp, Below.refl _ _⟩
  · have W1 : IntKind.u64.wrap (9223372036854775808 + z) = 9223372036854775808 + z := by rw [IntKind.wrap_u64]; omega
    have W2 : (9223372036854775808 + z) % 18446744073709551616 = 9223372036854775808 + z := by omega
    go_enter Tryd.func126, Tryd.ntmps126
    go_wp2_with fail
    refine (H1.out).mono ?_
    rintro e w1 ⟨rfl, b1⟩
    go_wp2_with fail
    refine (shsign_64 w1).mono ?_
    rintro e w2 ⟨rfl, b2⟩
    go_wp2
    go_ret
    exact ⟨by first | rfl | simp, below_trans b1 b2⟩
end Go.Proofs.YtmnabilgpndjmaaDoor

/- Printed by ieee3.py. -/
namespace Go.Proofs.YtmnabilgpndjmaaDoor
open Go.RowKit

theorem or_sign_Own (z : Int) (hz : 0 ≤ z ∧ z < 2147483648) : bits .or .u64 z 2147483648 = 2147483648 + z := by
  obtain ⟨z, rfl⟩ := Int.eq_ofNat_of_zero_le hz.1
  have e : bits .or .u64 (z : Int) ((2147483648 : Nat) : Int) = ((z ||| 2147483648 : Nat) : Int) := Go.bits_or_u64_nat z _ (by omega) (by omega)
  have h := Nat.two_pow_add_eq_or_of_lt (show z < 2 ^ 31 by rw [show (2 : Nat) ^ 31 = 2147483648 from by decide]; omega) 1
  rw [Nat.mul_one, show (2 : Nat) ^ 31 = 2147483648 from by decide, Nat.or_comm] at h
  rw [← h] at e
  exact e.trans (by simp)

theorem signed_Own (w : World) (hS : Shapes w) (neg : Bool) (z : Int) (hz : 0 ≤ z ∧ z < 2147483648) : Calls Tryd.prog 127 #[.bool neg, .int .u64 z] w (fun e w' => e = .returned (.int .u32 ((if neg then sgnW 32 else 0) + z)) ∧ Below w.heap.size w w') := by
  have H1 := Lib.hid (of_Own w hS)
  have HO := or_sign_Own z hz
  rw [sgn32]
  cases neg
  · have W1 : IntKind.u32.wrap z = z := by rw [IntKind.wrap_u32]; omega
    have W2 : z % 4294967296 = z := by omega
    have W3 : 0 + z = z := by omega
    clear HO
    go_enter Tryd.func127, Tryd.ntmps127
    go_wp2
    go_ret
    exact ⟨by first | rfl | simp, Below.refl _ _⟩
  · have W1 : IntKind.u32.wrap (2147483648 + z) = 2147483648 + z := by rw [IntKind.wrap_u32]; omega
    have W2 : (2147483648 + z) % 4294967296 = 2147483648 + z := by omega
    go_enter Tryd.func127, Tryd.ntmps127
    go_wp2_with fail
    refine (H1.out).mono ?_
    rintro e w1 ⟨rfl, b1⟩
    go_wp2_with fail
    refine (shsign_32 w1).mono ?_
    rintro e w2 ⟨rfl, b2⟩
    go_wp2
    go_ret
    exact ⟨by first | rfl | simp, below_trans b1 b2⟩
end Go.Proofs.YtmnabilgpndjmaaDoor
