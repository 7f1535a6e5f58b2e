/- Contracts of functions, and plain facts, part 9. -/
import Derived.Deep.LoopGhost
import Derived.Deep.DeepCutAuto
import Derived.Deep.RegionWith
import Derived.Test.YtgnophflogmmaaaDoorPk2
import Derived.Test.YtgnophflogmmaaaDoorPk3
import Derived.Test.YtgnophflogmmaaaDoorPk4
import Derived.Test.YtgnophflogmmaaaDoorPk5
import Derived.Test.YtgnophflogmmaaaDoorPk6
import Derived.Test.YtgnophflogmmaaaDoorPk7
import Derived.Test.YtgnophflogmmaaaDoorPk8
set_option linter.unusedVariables false
set_option linter.unusedSimpArgs false
/- quot.Pow: a small number to a power. -/
namespace Go.Proofs.YtgnophflogmmaaaDoor
open Go.RowKit

theorem pow_none (b n : Int) (w : World) (hb : 0 ≤ b ∧ b < 4294967296) (hn : -9223372036854775808 ≤ n ∧ n < 9223372036854775808) (hno : powOk b n = false) :
    Calls Tryd.prog 16 #[.int .u32 b, .int .i64 n] w (RetLB 32 .u32 (dg 4294967296 0) false w) := by
  rw [dg_zero]
  unfold powOk at hno
  have hno := of_decide_eq_false hno
  by_cases hn0 : n < 0
  · clear hno
    go_enter Tryd.func16, Tryd.ntmps16
    go_wp2_with fail
    go_ret2
    exact ⟨_, _, _, rfl, Own.nil _ _ _ _ _, Below.refl _ _⟩
  · have hb2 : 2 ≤ b := by
      rcases Int.lt_or_le b 2 with h | h
      · exact absurd ⟨by omega, .inl h⟩ hno
      · exact h
    have hbig : (65536 : Int) / (blen b.toNat : Nat) < n := by
      rcases Int.lt_or_le ((65536 : Int) / (blen b.toNat : Nat)) n with h | h
      · exact h
      · exact absurd ⟨by omega, .inr h⟩ hno
    have L := Lib.hid (len32_calls b w hb.1 (by omega))
    have hbl : Lib.bitLen b.toNat = blen b.toNat := bitLen_blen _ (by omega)
    rw [hbl] at L
    have hp := blen_pos b.toNat (by omega)
    have hup : blen b.toNat ≤ 32 := by
      have h1 := blen_ge b.toNat (by omega)
      have : blen b.toNat - 1 < 32 := (Nat.pow_lt_pow_iff_right (a := 2) (by omega)).1 (Nat.lt_of_le_of_lt h1 (by rw [show (2 : Nat) ^ 32 = 4294967296 from by decide]; omega))
      omega
    generalize blen b.toNat = l at *
    clear hno hbl
    go_enter Tryd.func16, Tryd.ntmps16
    go_wp2_with fail
    with_reducible refine (L.out).mono ?_
    rintro e w' ⟨rfl, rfl⟩
    clear L
    go_wp2_with fail
    go_ret2
    exact ⟨_, _, _, rfl, Own.nil _ _ _ _ _, Below.refl _ _⟩

theorem pow_small (b n : Int) (w : World) (hb : 0 ≤ b ∧ b < 2) (hn : 0 ≤ n ∧ n < 9223372036854775808) :
    Calls Tryd.prog 16 #[.int .u32 b, .int .i64 n] w (RetLB 32 .u32 (dg 4294967296 (b ^ n.toNat)) true w) := by
  obtain ⟨v, hv⟩ : ∃ v, v = b ^ n.toNat := ⟨_, rfl⟩
  rw [← hv]
  have hv2 : v = (if n = 0 then 1 else b) := by
    rw [hv]
    split
    · rename_i h; subst h; simp
    · rename_i h
      obtain ⟨j, hj⟩ : ∃ j, n.toNat = j + 1 := ⟨n.toNat - 1, by omega⟩
      rw [hj]
      rcases (show b = 0 ∨ b = 1 by omega) with rfl | rfl
      · rw [Int.pow_succ, Int.mul_zero]
      · exact Int.one_pow
  have HV := Lib.hid hv2
  have F := fun (x : Int) (h0 : 0 ≤ x) (h1 : x < 2) => Lib.hid (from_calls x w h0 (by omega))
  clear hv hv2
  have m0 : min n 1 = (if n = 0 then 0 else 1) := by split <;> omega
  have A0 : bits .andNot .i64 1 0 = 1 := by decide
  have A1 : bits .andNot .i64 1 1 = 0 := by decide
  have O0 : bits .or .u64 0 0 = 0 := by decide
  have O1 : bits .or .u64 0 1 = 1 := by decide
  have O2 : bits .or .u64 1 0 = 1 := by decide
  have O3 : bits .or .u64 1 1 = 1 := by decide
  by_cases hn0 : n = 0
  · subst hn0
    obtain rfl : v = 1 := by have := HV.out; simpa using this
    have F1 := F 1 (by omega) (by omega)
    have m1 : min (0 : Int) 1 = 0 := by decide
    clear m0 A1 HV F

    rcases (show b = 0 ∨ b = 1 by omega) with rfl | rfl
    all_goals
      go_enter Tryd.func16, Tryd.ntmps16
      go_wp2_with fail
      with_reducible refine (F1.out).mono ?_
      rintro e w1 ⟨ad, k, c, rfl, o, b1⟩
      go_wp2_with fail
      go_ret2
      exact ⟨_, _, _, rfl, o, b1⟩
  · obtain rfl : v = b := by have := HV.out; simpa [hn0] using this
    rw [if_neg hn0] at m0
    have F1 := F v hb.1 hb.2
    clear A0 HV F hn0
    rcases (show v = 0 ∨ v = 1 by omega) with rfl | rfl
    all_goals
      go_enter Tryd.func16, Tryd.ntmps16
      go_wp2_with fail
      with_reducible refine (F1.out).mono ?_
      rintro e w1 ⟨ad, k, c, rfl, o, b1⟩
      go_wp2_with fail
      go_ret2
      exact ⟨_, _, _, rfl, o, b1⟩

set_option maxHeartbeats 1000000 in
set_option maxRecDepth 20000 in
theorem pow_great (b n : Int) (w : World) (hb : 2 ≤ b ∧ b < 4294967296) (hn0 : 0 ≤ n) (hn : n ≤ 65536 / (blen b.toNat : Nat)) (hT : Tab32 w) :
    Calls Tryd.prog 16 #[.int .u32 b, .int .i64 n] w (RetLB 32 .u32 (dg 4294967296 (b ^ n.toNat)) true w) := by
  have L := Lib.hid (len32_calls b w (by omega) (by omega))
  have hbl : Lib.bitLen b.toNat = blen b.toNat := bitLen_blen _ (by omega)
  rw [hbl] at L
  have HT := Lib.hid (tz32_calls b (by omega) w hT)
  have hp := blen_pos b.toNat (by omega)
  have hup : blen b.toNat ≤ 32 := by
    have h1 := blen_ge b.toNat (by omega)
    have : blen b.toNat - 1 < 32 := (Nat.pow_lt_pow_iff_right (a := 2) (by omega)).1 (Nat.lt_of_le_of_lt h1 (by rw [show (2 : Nat) ^ 32 = 4294967296 from by decide]; omega))
    omega
  have HN := Lib.hid hn
  have hn6 : n ≤ 65536 := by
    have : (65536 : Int) / (blen b.toNat : Nat) ≤ 65536 := Int.ediv_le_self _ (by omega)
    omega
  obtain ⟨l, HL⟩ : ∃ l : Int, Hid ((blen b.toNat : Int) = l) := ⟨_, rfl⟩
  have hp' : 0 < l := by rw [← HL.out]; omega
  have hup' : l ≤ 32 := by rw [← HL.out]; omega
  rw [HL.out] at L hn
  obtain ⟨zs, HZ⟩ : ∃ zs, Hid (zs = dg 4294967296 (b ^ n.toNat)) := ⟨_, rfl⟩
  rw [← HZ.out]
  clear hbl hp hup
  go_enter Tryd.func16, Tryd.ntmps16
  go_wp2_with fail
  with_reducible refine (L.out).mono ?_
  rintro e w' ⟨rfl, rfl⟩
  clear L
  go_wp2_with fail
  with_reducible refine (HT.out).mono ?_
  rintro e w' ⟨k, m, rfl, rfl, hk, hbm, hm⟩
  clear HT
  have hm0 : 0 < m := by omega
  have hkn : 0 ≤ (k : Int) * n ∧ (k : Int) * n ≤ 31 * 65536 := by
    refine ⟨Int.mul_nonneg (by omega) (by omega), Int.mul_le_mul (by omega) (by omega) (by omega) (by omega)⟩
  have hsh : b / 2 ^ k = (m : Int) := by
    rw [hbm, show ((m * 2 ^ k : Nat) : Int) = (m : Int) * 2 ^ k by simp]
    exact Int.mul_ediv_cancel _ (Int.ne_of_gt (Int.pow_pos (by omega)))
  have hmb : (m : Int) < 4294967296 := by
    have h1 : (m : Int) ≤ b := by
      rw [← hsh]; exact Int.ediv_le_self _ (by omega)
    omega
  have hmin : min k 64 = k := by omega
  obtain ⟨u, HU⟩ : ∃ u, Hid ((k : Int) * n = u) := ⟨_, rfl⟩
  rw [HU.out] at hkn
  have hu2 := HU.out
  have HB := Lib.hid hbm
  have hbN : b.toNat = m * 2 ^ k := by omega
  obtain ⟨SH1, SH2, SH3, SH4, -⟩ := pow_shl m k n.toNat 2048 rfl hm0 hk (by omega) (by
    have := HN.out
    rw [hbN] at this
    have e : ((65536 / blen (m * 2 ^ k) : Nat) : Int) = 65536 / (blen (m * 2 ^ k) : Nat) := by simp
    omega)
  rw [show ((n.toNat : Nat) : Int) = n by omega, HU.out] at SH1 SH2
  rw [← HB.out] at SH2
  have hmi0 : 0 < (m : Int) := by omega
  obtain ⟨mi, HMI⟩ : ∃ mi : Int, Hid ((m : Int) = mi) := ⟨_, rfl⟩
  rw [HMI.out] at hsh hmb hmi0 SH1 SH2 SH3 SH4
  obtain ⟨T, HT⟩ : ∃ T, Hid (mi ^ n.toNat = T) := ⟨_, rfl⟩
  rw [HT.out] at SH1 SH2 SH3 SH4
  rw [← SH2] at HZ
  have HS1 := Lib.hid SH1
  have HS3 := Lib.hid SH3
  clear SH1 SH2 SH3 hbN hbm HB HN hm0
  have F1 : Hid (∀ w1 : World, Calls Tryd.prog 30 #[.int .u64 1] w1 (RetL 32 .u32 (dg 4294967296 1) w1)) := Lib.hid fun w1 => from_calls 1 w1 (by omega) (by omega)
  have F2 : Hid (∀ w1 : World, Calls Tryd.prog 30 #[.int .u64 mi] w1 (RetL 32 .u32 (dg 4294967296 mi) w1)) := Lib.hid fun w1 => from_calls mi w1 (by omega) (by omega)
  have W1 : IntKind.u64.wrap mi = mi := IntWalk.u64_in _ (by omega)
  go_upto_region 7 with (fail)
  go_cut [8, 9] (fun s8 s9 wx => ∃ (x y : Option Addr) (i j c d : Nat), s8 = .slice x i c ∧ s9 = .slice y j d ∧ Own w.heap.size wx 32 .u32 x i c (dg 4294967296 1) ∧ Own w.heap.size wx 32 .u32 y j d (dg 4294967296 mi) ∧ Below w.heap.size w wx)
  case first =>
    go_region_with (go_at_call 30; first | ((with_reducible refine (F1.out _).mono ?_); rintro e w1 ⟨ad1, n1, c1, rfl, o1, b1⟩) | ((with_reducible refine (F2.out _).mono ?_); rintro e w2 ⟨ad2, n2, c2, rfl, o2, b2⟩))
    all_goals
      go_wp2_with fail
      go_meet
      case rel =>
        first
          | exact ⟨_, _, _, _, _, _, rfl, rfl, o1.below b2 (Nat.le_refl _), o2.mono b1.size, below_trans (below_drew (Below.refl _ _)) (below_trans b1 b2)⟩
          | exact ⟨_, _, _, _, _, _, rfl, rfl, o1.mono b2.size, o2.below b1 (Nat.le_refl _), below_trans (below_drew (Below.refl _ _)) (below_trans b2 b1)⟩
  case rest =>
    obtain ⟨x, y, i, j, c, d, rfl, rfl, ox, oy, bw⟩ := hcut
    clear F1 F2 W1 hu2
    go_upto_if 47 with (fail)
    go_cut [1] (fun s1 wx => ∃ kk : Int, s1 = .int .i64 kk ∧ 0 ≤ kk ∧ kk ≤ 65536 ∧ Hid (1 * mi ^ kk.toNat = T) ∧ wc = wx)
    case first =>
      by_cases hm1 : mi = 1
      · have HE : Hid (1 * mi ^ (0 : Int).toNat = T) := Lib.hid (by have := HT.out; rw [← this, hm1]; simp [Int.one_pow])
        subst hm1
        go_wp2_with fail
        go_meet
        case rel => exact ⟨0, rfl, by omega, by omega, HE, rfl⟩
      · have hm2 : (mi == 1) = false := by simpa using hm1
        clear hm1
        go_wp2_with fail
        go_meet
        case rel => exact ⟨n, rfl, hn0, hn6, Lib.hid (by have := HT.out; rw [Int.one_mul]; exact this), rfl⟩
    case rest =>
      obtain ⟨k0, rfl, hk0, hk1, hT0, rfl⟩ := hcut
      clear hsh
      go_wp2_with fail
      go_loopg [1, 8, 9] k0.toNat (fun g s1 s8 s9 wr => ∃ (x y : Option Addr) (i j c d : Nat) (A S : Int) (kk : Int), s1 = .int .i64 kk ∧ s8 = .slice x i c ∧ s9 = .slice y j d ∧ 0 ≤ kk ∧ kk ≤ 65536 ∧ 0 < A ∧ 0 < S ∧
        Own w.heap.size wr 32 .u32 x i c (dg 4294967296 A) ∧ Own w.heap.size wr 32 .u32 y j d (dg 4294967296 S) ∧ Below w.heap.size w wr ∧ Hid (A * S ^ kk.toNat = T) ∧ Hid (g = kk.toNat))
      case atStart => exact ⟨_, _, _, _, _, _, 1, mi, k0, rfl, rfl, rfl, hk0, hk1, by omega, by omega, ox, oy, bw, hT0, Lib.hid rfl⟩
      case round =>
        clear ox oy bw hT0 hk0 hk1 hn0 hn6
        obtain ⟨x, y, i, j, c, d, A, S, kk, rfl, rfl, rfl, hkk0, hkk, A0, S0, ox, oy, bw, hT, hme⟩ := hrel
        obtain ⟨pA, pS⟩ := pow_part A S T kk.toNat hT.out A0 S0
        have hi : i ≤ 2048 := by rw [← ox.len]; exact dg_length_le 4294967296 (by omega) 2048 A (Int.lt_of_le_of_lt pA HS3.out)
        have hic := ox.le
        have hjd := oy.le
        have eA := val_dg 4294967296 (by omega) A (by omega)
        have eS := val_dg 4294967296 (by omega) S (by omega)
        rw [show ((4294967296 : Nat) : Int) = 4294967296 from rfl] at eA eS
        have EA := Lib.hid eA
        have ES := Lib.hid eS
        clear eA eS
        by_cases hz : kk = 0
        · subst hz
          obtain rfl : A = T := by have := hT.out; simpa using this
          have SC := shl_calls x i c (dg 4294967296 A) u wr (by omega) hic ox.rds (dg_dig 4294967296 (by omega) _) (by omega)
          rw [EA.out, HS1.out, ← HZ.out] at SC
          have HSC := Lib.hid SC
          clear SC pS hT hme
          go_wp2_with fail
          with_reducible refine (HSC.out).mono ?_
          rintro e w5 ⟨rd, rn, rc, rfl, or, b5⟩
          go_wp2_with fail
          go_ret2
          exact ⟨_, _, _, rfl, or.mono bw.size, below_trans bw b5⟩
        · have hj : j ≤ 2048 := by rw [← oy.len]; exact dg_length_le 4294967296 (by omega) 2048 S (Int.lt_of_le_of_lt (pS (by omega)) HS3.out)
          have M1 := mul_calls x y i j c d (dg 4294967296 A) (dg 4294967296 S) wr (by omega) hic hjd ox.rds oy.rds (dg_dig 4294967296 (by omega) _) (dg_dig 4294967296 (by omega) _)
          have M2 := fun (wz : World) (bz : Below wr.heap.size wr wz) => mul_calls y y j j d d (dg 4294967296 S) (dg 4294967296 S) wz (by omega) hjd hjd (oy.rds.below bz (Nat.le_refl _)) (oy.rds.below bz (Nat.le_refl _)) (dg_dig 4294967296 (by omega) _) (dg_dig 4294967296 (by omega) _)
          rw [EA.out, ES.out] at M1
          rw [ES.out] at M2
          have HM1 := Lib.hid M1
          have HM2 : ∀ wz, Below wr.heap.size wr wz → Hid _ := fun wz bz => Lib.hid (M2 wz bz)
          have hk0 : 0 < kk := by omega
          obtain ⟨k2, hk2⟩ : ∃ k2, kk / 2 = k2 := ⟨_, rfl⟩
          have HK := Lib.hid hk2
          have AN := i64_and1' kk (by omega) (by omega)
          have hss : 0 < S * S := Int.mul_pos S0 S0
          have hAS : 0 < A * S := Int.mul_pos A0 S0
          have hk2b : 0 ≤ k2 ∧ k2 ≤ 65536 := by omega
          clear M1 M2 pS hz
          by_cases hodd : kk % 2 = 1
          · rw [hodd] at AN
            have hTT := pow_round_odd A S T kk.toNat hT.out (by omega)
            rw [show kk.toNat / 2 = k2.toNat by omega] at hTT
            have HTT := Lib.hid hTT
            have HO := Lib.hid hodd
            clear hTT hodd
            by_cases hk3 : k2 = 0
            · have HK3 := Lib.hid hk3
              have hTF : Hid (A * S * S ^ (0 : Int).toNat = T) := Lib.hid (by have := HTT.out; rw [HK3.out] at this; simpa using this)
              subst hk3
              go_wp2_with fail
              with_reducible refine (HM1.out).mono ?_
              rintro e w5 ⟨rd, rn, rc, rfl, or, b5⟩
              have oy5 := oy.below b5 (Nat.le_refl _)
              go_wp2_with fail
              go_roundg (0 : Nat)
              case measure => have h1 := hme.out; omega
              case rel => exact ⟨_, _, _, _, _, _, A * S, S, 0, rfl, rfl, rfl, by omega, by omega, hAS, S0, or.mono bw.size, oy5, below_trans bw b5, hTF, Lib.hid rfl⟩
            · have hle : 0 < k2 := by omega
              clear hk3
              go_wp2_with fail
              with_reducible refine (HM1.out).mono ?_
              rintro e w5 ⟨rd, rn, rc, rfl, or, b5⟩
              have HM5 := HM2 w5 b5
              clear HM2
              go_wp2_with fail
              with_reducible refine (HM5.out).mono ?_
              rintro e w6 ⟨sd, sn, sc, rfl, os, b6⟩
              go_wp2_with fail
              go_roundg k2.toNat
              case measure => have h1 := hme.out; have h2 := HK.out; omega
              case rel => exact ⟨_, _, _, _, _, _, A * S, S * S, k2, rfl, rfl, rfl, by omega, by omega, hAS, hss, (or.mono bw.size).below b6 (Nat.le_refl _), os.mono (by have := b5.size; have := bw.size; omega), below_trans bw (below_trans b5 b6), HTT, Lib.hid rfl⟩
          · have hev : kk % 2 = 0 := by omega
            rw [hev] at AN
            have hTT := pow_round_even A S T kk.toNat hT.out (by omega)
            rw [show kk.toNat / 2 = k2.toNat by omega] at hTT
            have HTT := Lib.hid hTT
            have hle : 0 < k2 := by omega
            have HM5 := HM2 wr (Below.refl _ _)
            clear hTT hev hodd HM1 HM2
            go_wp2_with fail
            with_reducible refine (HM5.out).mono ?_
            rintro e w6 ⟨sd, sn, sc, rfl, os, b6⟩
            go_wp2_with fail
            go_roundg k2.toNat
            case measure => have h1 := hme.out; have h2 := HK.out; omega
            case rel => exact ⟨_, _, _, _, _, _, A, S * S, k2, rfl, rfl, rfl, by omega, by omega, A0, hss, ox.below b6 (Nat.le_refl _), os.mono bw.size, below_trans bw b6, HTT, Lib.hid rfl⟩

theorem pow_calls (b n : Int) (w : World) (hb : 0 ≤ b ∧ b < 4294967296) (hn : -9223372036854775808 ≤ n ∧ n < 9223372036854775808) (hT : Tab32 w) :
    Calls Tryd.prog 16 #[.int .u32 b, .int .i64 n] w (RetLB 32 .u32 (dg 4294967296 (powNum b n)) (powOk b n) w) := by
  by_cases hok : powOk b n = true
  · unfold powNum
    rw [if_pos hok, hok]
    have h := of_decide_eq_true hok
    by_cases h2 : b < 2
    · exact pow_small b n w ⟨hb.1, h2⟩ ⟨h.1, hn.2⟩
    · exact pow_great b n w (by omega) h.1 (by rcases h.2 with h3 | h3
                                               · exact absurd h3 h2
                                               · exact h3) hT
  · have hok : powOk b n = false := by simpa using hok
    unfold powNum
    rw [hok, if_neg (by simp)]
    exact pow_none b n w hb hn hok
end Go.Proofs.YtgnophflogmmaaaDoor

/- Add by worth alone. -/
namespace Go.Proofs.YtgnophflogmmaaaDoor
open Go.RowKit

theorem num_add (ad bd : Option Addr) (n m c d : Nat) (V U : Int) (w : World) (h : Num w ad n c V) (k : Num w bd m d U) (hn : n ≤ 70368744177663) (hm : m ≤ 70368744177663) :
    Calls Tryd.prog 18 #[.slice ad n c, .slice bd m d] w (RetC (V + U) w) := by
  obtain ⟨xs, h1, h2, rfl⟩ := h.row
  obtain ⟨zs, k1, k2, rfl⟩ := k.row
  exact (add_calls ad bd n m c d xs zs w (by omega) (by omega) h.le k.le h1 k1 h2 k2).mono fun e w' q => q.can
end Go.Proofs.YtgnophflogmmaaaDoor

/- quot.moved: a number times 2 to the power of n, n below 32. -/
namespace Go.Proofs.YtgnophflogmmaaaDoor
open Go.RowKit

theorem or_moved (x c : Int) (r : Nat) (hr : r < 32) (hx : 0 ≤ x ∧ x < 4294967296) (hc : 0 ≤ c ∧ c < 2 ^ r) :
    bits .or .u64 (x * 2 ^ r) c = x * 2 ^ r + c ∧ 0 ≤ x * 2 ^ r + c ∧ x * 2 ^ r < 18446744073709551616 ∧ 0 ≤ x * 2 ^ r ∧ x * 2 ^ r + c < 18446744073709551616 ∧ (x * 2 ^ r + c) / 4294967296 < 2 ^ r ∧ c < 4294967296 := by
  obtain ⟨x, rfl⟩ := Int.eq_ofNat_of_zero_le hx.1
  obtain ⟨c, rfl⟩ := Int.eq_ofNat_of_zero_le hc.1
  have hp : (2 : Nat) ^ r ≤ 2147483648 := by
    have : ∀ r : Nat, r < 32 → 2 ^ r ≤ 2147483648 := by decide
    exact this r hr
  have e0 : ((2 : Int) ^ r) = ((2 ^ r : Nat) : Int) := by simp
  have e1 : (x : Int) * 2 ^ r = ((x * 2 ^ r : Nat) : Int) := by simp
  rw [e1, e0]
  rw [e0] at hc
  have hx2 : x * 2 ^ r ≤ 4294967295 * 2 ^ r := Nat.mul_le_mul_right _ (by omega)
  have hp0 := Nat.two_pow_pos r
  have hj := nat_join r (x * 2 ^ r) c (by rw [Nat.mul_mod_left]) (by omega)
  generalize 2 ^ r = R at *
  have e : bits .or .u64 ((x * R : Nat) : Int) (c : Int) = ((x * R ||| c : Nat) : Int) := Go.bits_or_u64_nat (x * R) c (by omega) (by omega)
  rw [e, hj]
  refine ⟨by simp, by omega, by omega, by omega, by omega, ?_, by omega⟩
  omega

def MovedI (w : World) (la : List Int) (n r m k : Nat) (c : Int) (wr : World) : Prop :=
  ∃ ds, App w.heap.size wr 32 .u32 (some ⟨w.heap.size, 0, none⟩) k (n + 1) ds ∧ Dig 4294967296 ds ∧ Below w.heap.size w wr ∧ w.heap.size ≤ wr.heap.size ∧ 0 ≤ c ∧ c < 2 ^ r ∧
    val 4294967296 ds + c * 4294967296 ^ k = val 4294967296 (la.take k) * 2 ^ r

/-- A list of one place more, worth the number times 2 to the power of r. -/
def MovedR (w : World) (la : List Int) (n r : Nat) (e : Ending) (w' : World) : Prop :=
  ∃ zs, zs.length = n + 1 ∧ Dig 4294967296 zs ∧ val 4294967296 zs = val 4294967296 la * 2 ^ r ∧ RetL 32 .u32 zs w e w'

theorem moved_calls (ad : Option Addr) (n c r : Nat) (la : List Int) (w : World) (hn : n ≤ 70368744177662) (hc : n ≤ c) (hr : r < 32) (ha : Rds w .u32 ad n la) (da : Dig 4294967296 la) :
    Calls Tryd.prog 41 #[.slice ad n c, .int .i64 r] w (MovedR w la n r) := by
  have HL := Lib.hid ha.len
  have hmk := make0_rule (P := Tryd.prog) 23 32 .u32 4 Tryd.underlying23 info_limb (by omega) (n + 1) (by omega) ((n : Int) + 1) (by omega)
  have hI : MovedI w la n r n 0 0 (w.alloc (.cells (madeCells #[.int .u32 0] (n + 1)) 32)) :=
    ⟨[], App.made _ _ _ _ _ (Nat.le_refl _) (by omega) _ rfl, Dig.nil _, (Below.refl _ _).alloc (Nat.le_refl _) _, by simp, by omega, Int.pow_pos (by omega), by simp [val]⟩
  go_enter Tryd.func41, Tryd.ntmps41
  go_wp2
  clear hmk
  go_loopw [16, 5, 6] (fun i v cy wr => ∃ k : Nat, ∃ c : Int, k ≤ n ∧ i = .int .i64 k ∧ cy = .int .u64 c ∧ v = .slice (some ⟨w.heap.size, 0, none⟩) k (n + 1) ∧ MovedI w la n r n k c wr) (fun i _ _ _ => n - (intOf i).toNat)
  case atStart => exact ⟨0, 0, Nat.zero_le _, rfl, rfl, rfl, hI⟩
  case round =>
    clear hI
    obtain ⟨k, cy, hk, rfl, rfl, rfl, ds, g1, g2, g3, g4, c0, c1, g5⟩ := hrel
    have H5 := Lib.hid g5
    clear g5
    by_cases hkn : k < n
    · obtain ⟨a, rfl, hx⟩ := (ha.below g3 (Nat.le_refl _)).cell k hkn
      have bx := da.get (by omega) k
      have ST := Lib.hid (moved_step 4294967296 (2 ^ r) la ds k g1.len cy _ rfl H5.out)
      clear H5
      generalize la[k]?.getD 0 = x at *
      obtain ⟨o1, o2, o3, o4, o5, o6, o7⟩ := or_moved x cy r hr bx ⟨c0, c1⟩
      have hmin : min r 64 = r := by omega
      generalize ht : x * 2 ^ r = T at *
      have HT := Lib.hid ht
      clear ht
      have W1 : IntKind.u64.wrap (x * 2 ^ r) = T := by rw [HT.out]; exact IntWalk.u64_in _ (by omega)
      go_wp2_with (at_builtin; refine app_room w.heap.size rfl (.tmp 26) (.tmp 29) 23 32 .u32 4 rfl Tryd.underlying23 info_limb w.heap.size k (n + 1) ds ((T + cy) % 4294967296) rfl rfl g1 g3 g4 (by omega) ?_; intro w3 k1 k2 k3)
      go_roundw
      case rel => exact ⟨k + 1, _, by omega, by go_num, rfl, rfl, _, k1, g2.append (Dig.cons (by omega) (by omega) (Dig.nil _)), k2, k3, by omega, o6, ST.out⟩
      case measure => simp [intOf]; omega
    · obtain rfl : k = n := by omega
      have hc4 : cy < 4294967296 := (or_moved 0 cy r hr (by omega) ⟨c0, c1⟩).2.2.2.2.2.2
      have hl := g1.len
      have HV : Hid (val 4294967296 (ds ++ [cy]) = val 4294967296 la * 2 ^ r) := by
        have := H5.out
        rw [List.take_of_length_le (by rw [HL.out]; exact Nat.le_refl _)] at this
        show _ = _
        rw [val_append, hl, ← this]
        simp only [val]
        rw [Int.mul_zero, Int.add_zero, Int.mul_comm]
      go_wp2_with (at_builtin; refine app_room w.heap.size rfl (.tmp 34) (.tmp 37) 23 32 .u32 4 rfl Tryd.underlying23 info_limb w.heap.size k (k + 1) ds cy rfl rfl g1 g3 g4 (by omega) ?_; intro w3 k1 k2 k3)
      go_ret
      exact ⟨_, by simp [hl], g2.append (Dig.cons c0 hc4 (Dig.nil _)), HV.out, _, _, _, rfl, k1.own, k2⟩
end Go.Proofs.YtgnophflogmmaaaDoor

/- Long division: how it begins and what it ends in, plain. -/
namespace Go.Proofs.YtgnophflogmmaaaDoor

theorem long_top (lb ys : List Int) (n r : Nat) (hn : 2 ≤ n) (ll : lb.length = n) (dl : Dig 4294967296 lb) (top : Int) (ht : top = lb[n - 1]?.getD 0) (hr1 : 2147483648 ≤ top * 2 ^ r) (hr2 : (top + 1) * 2 ^ r ≤ 4294967296)
    (ly : ys.length = n + 1) (dy : Dig 4294967296 ys) (hy : val 4294967296 ys = val 4294967296 lb * 2 ^ r) :
    val 4294967296 (ys.take n) = val 4294967296 ys ∧ (4294967296 : Int) ≤ 2 * (ys.take n)[n - 1]?.getD 0 ∧ 2147483648 * 4294967296 ^ (n - 1) ≤ val 4294967296 ys ∧ val 4294967296 ys < 4294967296 ^ n := by
  have h1 := val_take_succ' 4294967296 lb (n - 1)
  rw [show n - 1 + 1 = n by omega, List.take_of_length_le (by omega), ← ht] at h1
  have h2 := val_take_succ' 4294967296 ys n
  rw [List.take_of_length_le (by omega)] at h2
  have h3 := val_take_succ' 4294967296 ys (n - 1)
  rw [show n - 1 + 1 = n by omega] at h3
  have p1 : (4294967296 : Int) ^ n = 4294967296 ^ (n - 1) * 4294967296 := by rw [← Int.pow_succ]; congr 1; omega
  have l1 := val_lt (show (0 : Int) < 4294967296 by omega) (dl.take (n - 1))
  have n1 := val_nonneg (show (0 : Int) < 4294967296 by omega) (dl.take (n - 1))
  rw [show (lb.take (n - 1)).length = n - 1 by simp; omega] at l1
  have l2 := val_lt (show (0 : Int) < 4294967296 by omega) (dy.take (n - 1))
  rw [show (ys.take (n - 1)).length = n - 1 by simp; omega] at l2
  have n2 := val_nonneg (show (0 : Int) < 4294967296 by omega) (dy.take n)
  have b1 := dy.get (by omega) n
  have g1 : (ys.take n)[n - 1]?.getD 0 = ys[n - 1]?.getD 0 := by rw [List.getElem?_take_of_lt (by omega)]
  rw [g1]
  have hP : (0 : Int) < 4294967296 ^ (n - 1) := Int.pow_pos (by omega)
  have hR : (0 : Int) < 2 ^ r := Int.pow_pos (by omega)
  rw [p1] at h2 ⊢
  clear p1 g1 ht
  generalize (4294967296 : Int) ^ (n - 1) = P at *
  generalize ys[n]?.getD 0 = yn at *
  generalize ys[n - 1]?.getD 0 = hi at *
  generalize val 4294967296 (ys.take n) = T at *
  generalize val 4294967296 (ys.take (n - 1)) = T1 at *
  generalize val 4294967296 ys = Y at *
  generalize val 4294967296 (lb.take (n - 1)) = L1 at *
  generalize val 4294967296 lb = L at *
  generalize (2 : Int) ^ r = R at *
  have k1 : Y < P * 4294967296 := by
    have e1 : L * R < (top + 1) * P * R := by
      refine Int.mul_lt_mul_of_pos_right ?_ hR
      rw [Int.add_mul, Int.one_mul, Int.mul_comm top]; omega
    have e2 : (top + 1) * R * P ≤ 4294967296 * P := Int.mul_le_mul_of_nonneg_right hr2 (by omega)
    have e3 : (top + 1) * P * R = (top + 1) * R * P := by grind
    omega
  have k2 : yn = 0 := by
    rcases Int.lt_or_eq_of_le b1.1 with h | h
    · have : P * 4294967296 * 1 ≤ P * 4294967296 * yn := Int.mul_le_mul_of_nonneg_left (by omega) (by omega)
      omega
    · exact h.symm
  rw [k2, Int.mul_zero, Int.add_zero] at h2
  have k3 : 2147483648 * P ≤ Y := by
    have e1 : 2147483648 * P ≤ top * R * P := Int.mul_le_mul_of_nonneg_right hr1 (by omega)
    have e2 : top * R * P = P * top * R := by grind
    have e3 : P * top * R ≤ L * R := Int.mul_le_mul_of_nonneg_right (by omega) (by omega)
    omega
  refine ⟨h2.symm, ?_, k3, k1⟩
  have e : 2147483648 * P < (hi + 1) * P := by rw [Int.add_mul, Int.one_mul, Int.mul_comm hi]; omega
  have := Int.lt_of_mul_lt_mul_right e (by omega)
  omega

theorem long_first (la xs : List Int) (n na r : Nat) (hr : (2 : Int) ^ r ≤ 2147483648) (hn : 2 ≤ n) (hna : n ≤ na) (ll : la.length = na) (dl : Dig 4294967296 la) (lx : xs.length = na + 1) (dx : Dig 4294967296 xs)
    (hx : val 4294967296 xs = val 4294967296 la * 2 ^ r) (Y : Int) (hY : 2147483648 * 4294967296 ^ (n - 1) ≤ Y) : val 4294967296 (xs.drop (na + 1 - n)) < Y := by
  have h1 := val_split 4294967296 xs (na + 1 - n) (by omega)
  have n1 := val_nonneg (show (0 : Int) < 4294967296 by omega) (dx.take (na + 1 - n))
  have l1 := val_lt (show (0 : Int) < 4294967296 by omega) dl
  have p1 : (4294967296 : Int) ^ na = 4294967296 ^ (na + 1 - n) * 4294967296 ^ (n - 1) := by rw [← Int.pow_add]; congr 1; omega
  rw [ll, p1] at l1
  have hP : (0 : Int) < 4294967296 ^ (na + 1 - n) := Int.pow_pos (by omega)
  have hQ : (0 : Int) < 4294967296 ^ (n - 1) := Int.pow_pos (by omega)
  have hR : (0 : Int) < 2 ^ r := Int.pow_pos (by omega)
  clear p1
  generalize val 4294967296 (xs.drop (na + 1 - n)) = D at *
  generalize val 4294967296 (xs.take (na + 1 - n)) = T at *
  generalize val 4294967296 xs = X at *
  generalize val 4294967296 la = A at *
  generalize (4294967296 : Int) ^ (na + 1 - n) = P at *
  generalize (4294967296 : Int) ^ (n - 1) = Q at *
  generalize (2 : Int) ^ r = R at *
  have k1 : A * R < P * Q * R := Int.mul_lt_mul_of_pos_right l1 hR
  have k2 : P * Q * R ≤ P * Q * 2147483648 := Int.mul_le_mul_of_nonneg_left hr (by have := Int.mul_pos hP hQ; omega)
  have k3 : P * (2147483648 * Q) ≤ P * Y := Int.mul_le_mul_of_nonneg_left hY (by omega)
  have k4 : P * (2147483648 * Q) = P * Q * 2147483648 := by grind
  have k5 : P * D < P * Y := by omega
  exact Int.lt_of_mul_lt_mul_left k5 (by omega)

theorem scale_mod (A Bv R : Int) (hR : 0 < R) (hB : 0 < Bv) : (A * R) % (Bv * R) = (A % Bv) * R := by
  have h1 := Int.emod_add_mul_ediv A Bv
  have h2 := Int.emod_nonneg A (show Bv ≠ 0 by omega)
  have h3 := Int.emod_lt_of_pos A hB
  have e : A * R = (A % Bv) * R + Bv * R * (A / Bv) := by
    generalize A / Bv = q at *
    generalize A % Bv = r at *
    subst h1
    grind
  rw [e, Int.add_mul_emod_self_left, Int.emod_eq_of_lt (Int.mul_nonneg h2 (by omega)) (Int.mul_lt_mul_of_pos_right h3 hR)]
theorem scale_div (A Bv R : Int) (hR : 0 < R) (hB : 0 < Bv) : (A * R) / (Bv * R) = A / Bv := by
  have h1 := Int.emod_add_mul_ediv A Bv
  have h2 := Int.emod_nonneg A (show Bv ≠ 0 by omega)
  have h3 := Int.emod_lt_of_pos A hB
  have e : A * R = (A % Bv) * R + Bv * R * (A / Bv) := by
    generalize A / Bv = q at *
    generalize A % Bv = r at *
    subst h1
    grind
  have hy := Int.mul_pos hB hR
  rw [e, Int.add_mul_ediv_left _ _ (by omega), Int.ediv_eq_zero_of_lt (Int.mul_nonneg h2 (by omega)) (Int.mul_lt_mul_of_pos_right h3 hR), Int.zero_add]

theorem long_last (X : List Int) (n : Nat) (A Bv R : Int) (hR : 0 < R) (hB : 0 < Bv) (dX : Dig 4294967296 X) (hn : n ≤ X.length) (hX : val 4294967296 X = (A * R) % (Bv * R)) (hlt : Bv * R < 4294967296 ^ n) :
    val 4294967296 (X.take n) / R = A % Bv := by
  have h1 := val_split 4294967296 X n hn
  have n1 := val_nonneg (show (0 : Int) < 4294967296 by omega) (dX.drop n)
  have n2 := val_nonneg (show (0 : Int) < 4294967296 by omega) (dX.take n)
  have hP : (0 : Int) < 4294967296 ^ n := Int.pow_pos (by omega)
  have hY : 0 < Bv * R := Int.mul_pos hB hR
  have h2 := Int.emod_lt_of_pos (A * R) hY
  have k : val 4294967296 (X.drop n) = 0 := by
    rcases Int.lt_or_eq_of_le n1 with h | h
    · have : 4294967296 ^ n * 1 ≤ 4294967296 ^ n * val 4294967296 (X.drop n) := Int.mul_le_mul_of_nonneg_left (by omega) (by omega)
      omega
    · exact h.symm
  rw [k, Int.mul_zero, Int.add_zero] at h1
  rw [← h1, hX, scale_mod A Bv R hR hB]
  exact Int.mul_ediv_cancel _ (by omega)

variable {b P high next ylow x0 x1 x2 wlow Y W : Int}
/-- What was taken off was not too much. -/
theorem Win.kept (h : Win b P high next ylow x0 x1 x2 wlow Y W) (g X R : Int) (h1 : W / Y ≤ g) (h2 : g ≤ W / Y + 1) (hX : 0 ≤ X) (e : X + Y * g = W + (if false = true then 1 else 0) * R) : g = W / Y ∧ X = W % Y := by
  rw [if_neg (by simp), Int.zero_mul, Int.add_zero] at e
  have hm := Int.mul_comm Y g
  obtain ⟨k1, k2⟩ := (h.digit g h1 h2).1 (by omega)
  exact ⟨k1, by omega⟩
/-- It was: the divisor is put on again. -/
theorem Win.mended (h : Win b P high next ylow x0 x1 x2 wlow Y W) (g X R X2 o : Int) (h1 : W / Y ≤ g) (h2 : g ≤ W / Y + 1) (hX : 0 ≤ X ∧ X < R) (e : X + Y * g = W + (if true = true then 1 else 0) * R)
    (hY : Y < R) (hX2 : 0 ≤ X2 ∧ X2 < R) (e2 : X2 + o * R = X + Y) : g - 1 = W / Y ∧ X2 = W % Y := by
  rw [if_pos rfl, Int.one_mul] at e
  have hm := Int.mul_comm Y g
  obtain ⟨k1, k2⟩ := (h.digit g h1 h2).2 (by omega)
  obtain ⟨p1, p2, p3⟩ := h.pos
  have r1 := Int.emod_nonneg W (show Y ≠ 0 by omega)
  have r2 := Int.emod_lt_of_pos W p1
  refine ⟨k1, ?_⟩
  have e3 : X2 + o * R = W % Y + R := by omega
  rcases Int.lt_or_le o 1 with ho | ho
  · have : o * R ≤ 0 * R := Int.mul_le_mul_of_nonneg_right (by omega) (by omega)
    omega
  · rcases Int.lt_or_le 1 o with ho2 | ho2
    · have : 2 * R ≤ o * R := Int.mul_le_mul_of_nonneg_right (by omega) (by omega)
      omega
    · obtain rfl : o = 1 := by omega
      omega
end Go.Proofs.YtgnophflogmmaaaDoor

/- quot.Digits's closure: the lowest nine digits of a variable's number, which is divided. -/
namespace Go.Proofs.YtgnophflogmmaaaDoor
open Go.RowKit

/-- The variable holds the quotient now; its list is new; nothing else has turned. -/
def TakeR (rb : Nat) (R : Int) (w : World) (e : Ending) (w' : World) : Prop :=
  ∃ ad n c, e = .returned (.int .u32 (R % 1000000000)) ∧ w'.heap[rb]? = some (.cells #[.slice ad n c] 23 (0, 0)) ∧ Own w.heap.size w' 32 .u32 ad n c (dg 4294967296 (R / 1000000000)) ∧
    (∀ b, blkOf ad = some b → 0 < c → w.heap.size ≤ b) ∧ (∀ i, i < w.heap.size → i ≠ rb → w'.heap[i]? = w.heap[i]?) ∧ w.heap.size ≤ w'.heap.size ∧ w'.os = w.os ∧ w'.tape = w.tape ∧ w'.output = w.output

theorem take_calls (rb : Nat) (ad : Option Addr) (n c : Nat) (R : Int) (w : World) (hn : n ≤ 70368744177664) (hR : 0 ≤ R) (hb : w.heap[rb]? = some (.cells #[.slice ad n c] 23 (0, 0)))
    (hr : Rds w .u32 ad n (dg 4294967296 R)) :
    Calls Tryd.prog 37 #[.pointer (some ⟨rb, 0, none⟩)] w (TakeR rb R w) := by
  have S := small_calls ad n c (dg 4294967296 R) 1000000000 w hn hr (dg_dig 4294967296 (by omega) _) (by omega)
  have eV := val_dg 4294967296 (by omega) R hR
  rw [show ((4294967296 : Nat) : Int) = 4294967296 from rfl] at eV
  rw [eV] at S
  have HS := Lib.hid S
  have hc := cell_of_one hb
  have hlt := lt_of_block hb
  clear S eV
  go_enter Tryd.func37, Tryd.ntmps37
  go_wp2_with fail
  with_reducible refine (HS.out).mono ?_
  rintro e w1 ⟨qd, qn, qc, rfl, oq, b1⟩
  have hb1 : w1.heap[rb]? = some (.cells #[.slice ad n c] 23 (0, 0)) := by rw [b1.block rb hlt]; exact hb
  have hc1 := cell_of_one hb1
  have hf1 := free_of_one hb1
  clear HS hc
  go_wp2_with fail
  go_ret
  have hO := (Only.refl rb w1).set 0 (.slice qd qn qc)
  refine ⟨qd, qn, qc, rfl, one_setCell hb1, ⟨oq.len, oq.le, oq.big, fun h0 => ?_⟩, fun b hb0 h0 => ?_, fun i hi hne => by rw [hO.rest i hne, b1.block i hi], by rw [hO.size]; exact b1.size, by rw [hO.os]; exact b1.os, by rw [hO.tape]; exact b1.tape, by rw [hO.output]; exact b1.output⟩
  · obtain ⟨g, cs, e1, e2, e3, e4⟩ := oq.row h0
    exact ⟨g, cs, e1, e2, by rw [hO.rest g (by omega)]; exact e3, e4⟩
  · obtain ⟨g, cs, e1, e2, _⟩ := oq.row h0
    rw [e1] at hb0
    injection hb0 with hb0
    subst hb0
    exact e2
end Go.Proofs.YtgnophflogmmaaaDoor
