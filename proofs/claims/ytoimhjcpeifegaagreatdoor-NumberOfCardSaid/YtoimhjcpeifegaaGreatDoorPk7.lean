/- Contracts of functions, and plain facts, part 7. -/
import Derived.Deep.QuietTactic
import Derived.BigQuiet
import Derived.Test.YtoimhjcpeifegaaGreatDoorPk1
import Derived.Test.YtoimhjcpeifegaaGreatDoorPk4
import Derived.Test.YtoimhjcpeifegaaGreatDoorPk6
set_option linter.unusedVariables false
set_option linter.unusedSimpArgs false
/- Sums, differences and short division, place by place: plain facts on lists. -/
namespace Go.Proofs.YtoimhjcpeifegaaGreatDoor

theorem val_set_take (B : Int) (ys : List Int) (i : Nat) (v : Int) (h : i < ys.length) : val B ((ys.set i v).take (i + 1)) = val B (ys.take i) + B ^ i * v := by
  rw [take_set_succ ys i v h, val_append]
  simp [val, List.length_take, Nat.min_eq_left (Nat.le_of_lt h)]

theorem add_step (B : Int) (xs zs ys : List Int) (i : Nat) (hi : i < ys.length) (c T : Int) (hT : T = xs[i]?.getD 0 + zs[i]?.getD 0 + c)
    (E : val B (ys.take i) + c * B ^ i = val B (xs.take i) + val B (zs.take i)) :
    val B ((ys.set i (T % B)).take (i + 1)) + (T / B) * B ^ (i + 1) = val B (xs.take (i + 1)) + val B (zs.take (i + 1)) := by
  rw [val_set_take B ys i _ hi, val_take_succ', val_take_succ', Int.pow_succ]
  have h := Int.emod_add_mul_ediv T B
  generalize xs[i]?.getD 0 = x at *
  generalize zs[i]?.getD 0 = z at *
  generalize T / B = q at *
  generalize T % B = r at *
  generalize B ^ i = P at *
  generalize val B (ys.take i) = Y at *
  generalize val B (xs.take i) = X at *
  generalize val B (zs.take i) = Z at *
  have e : r = x + z + c - B * q := by omega
  subst e
  grind

theorem add_end (B : Int) (xs zs ys : List Int) (n : Nat) (hx : xs.length = n) (hz : zs.length ≤ n) (hy : ys.length = n + 1) (c : Int)
    (E : val B (ys.take n) + c * B ^ n = val B (xs.take n) + val B (zs.take n)) : val B (ys.set n c) = val B xs + val B zs := by
  have h := val_set_take B ys n c (by omega)
  rw [List.take_of_length_le (by rw [List.length_set]; omega)] at h
  rw [List.take_of_length_le (show xs.length ≤ n by omega), List.take_of_length_le hz] at E
  rw [h, ← E, Int.mul_comm]

theorem sub_step (B : Int) (xs zs ys : List Int) (i : Nat) (hi : i < ys.length) (c D c' : Int) (hD : D = xs[i]?.getD 0 - zs[i]?.getD 0 - c + c' * B)
    (E : val B (ys.take i) + val B (zs.take i) = val B (xs.take i) + c * B ^ i) :
    val B ((ys.set i D).take (i + 1)) + val B (zs.take (i + 1)) = val B (xs.take (i + 1)) + c' * B ^ (i + 1) := by
  rw [val_set_take B ys i _ hi, val_take_succ', val_take_succ', Int.pow_succ]
  generalize xs[i]?.getD 0 = x at *
  generalize zs[i]?.getD 0 = z at *
  generalize B ^ i = P at *
  generalize val B (ys.take i) = Y at *
  generalize val B (xs.take i) = X at *
  generalize val B (zs.take i) = Z at *
  subst hD
  grind

theorem sub_end (B : Int) (hB : 0 < B) (xs zs ys : List Int) (n : Nat) (dy : Dig B ys) (hx : xs.length = n) (hz : zs.length ≤ n) (hy : ys.length = n) (c : Int) (hc : 0 ≤ c)
    (hle : val B zs ≤ val B xs) (E : val B (ys.take n) + val B (zs.take n) = val B (xs.take n) + c * B ^ n) : val B ys = val B xs - val B zs := by
  rw [List.take_of_length_le (by omega), List.take_of_length_le (by omega), List.take_of_length_le (by omega)] at E
  have h := val_lt hB dy
  rw [hy] at h
  have hp : 0 < B ^ n := Int.pow_pos hB
  rcases Int.lt_or_eq_of_le hc with h1 | h1
  · have : 1 * B ^ n ≤ c * B ^ n := Int.mul_le_mul_of_nonneg_right (by omega) (Int.le_of_lt hp)
    omega
  · rw [← h1, Int.zero_mul] at E
    omega

theorem small_step (B : Int) (xs ys : List Int) (j : Nat) (hx : j < xs.length) (hy : j < ys.length) (d r T q r' : Int) (hT : T = r * B + xs[j]?.getD 0) (hq : T = d * q + r')
    (E : val B (xs.drop (j + 1)) = val B (ys.drop (j + 1)) * d + r) :
    val B (xs.drop j) = val B ((ys.set j q).drop j) * d + r' := by
  rw [val_drop B xs j hx, val_drop B (ys.set j q) j (by rw [List.length_set]; exact hy), List.getElem?_set_self hy, List.drop_set_of_lt (by omega), E]
  simp only [Option.getD_some]
  generalize xs[j]?.getD 0 = x at *
  generalize val B (ys.drop (j + 1)) = Y at *
  have : x = d * q + r' - r * B := by omega
  subst this
  grind
end Go.Proofs.YtoimhjcpeifegaaGreatDoor

/- nat.Cmp: -1, 0 or 1. -/
namespace Go.Proofs.YtoimhjcpeifegaaGreatDoor
open Go.RowKit

theorem cmpI_of_lists (xs zs : List Int) (dx : Dig 4294967296 xs) (dz : Dig 4294967296 zs) (nx : norm xs = xs) (nz : norm zs = zs) (h : xs.length ≠ zs.length) :
    cmpI xs.length zs.length = cmpI (val 4294967296 xs) (val 4294967296 zs) := by
  rcases Nat.lt_or_ge xs.length zs.length with h1 | h1
  · rw [cmpI_lt (by omega), cmpI_lt (lt_of_len (by omega) dx dz nz h1)]
  · rw [cmpI_gt (by omega), cmpI_gt (lt_of_len (by omega) dz dx nx (by omega))]

set_option maxHeartbeats 400000 in
theorem ncmp_calls (ad bd : Option Addr) (na nb ca cb : Nat) (la lb : List Int) (w : World) (hna : na ≤ 70368744177664) (hnb : nb ≤ 70368744177664) (hac : na ≤ ca) (hbc : nb ≤ cb)
    (ha : Rds w .u32 ad na la) (hb : Rds w .u32 bd nb lb) (da : Dig 4294967296 la) (db : Dig 4294967296 lb) :
    Calls Tryz.prog 114 #[.slice ad na ca, .slice bd nb cb] w (RetI (cmpI (val 4294967296 la) (val 4294967296 lb)) w) := by
  have rx := ha.norm
  have rz := hb.norm
  have dx := norm_dig da
  have dz := norm_dig db
  have hma := norm_length_le la
  have hnb' := norm_length_le lb
  rw [ha.len] at hma
  rw [hb.len] at hnb'
  have C1 := Lib.hid (cut_calls ad na ca la w (by omega) hac ha)
  have C2 := Lib.hid (cut_calls bd nb cb lb w (by omega) hbc hb)
  have N1 := Lib.hid (norm_norm la)
  have N2 := Lib.hid (norm_norm lb)
  rw [← val_norm 4294967296 la, ← val_norm 4294967296 lb]
  clear ha hb da db
  generalize norm la = xs at *
  generalize norm lb = zs at *
  obtain ⟨m, hm⟩ : ∃ m, xs.length = m := ⟨_, rfl⟩
  obtain ⟨n, hn⟩ : ∃ n, zs.length = n := ⟨_, rfl⟩
  rw [hm] at rx hma C1
  rw [hn] at rz hnb' C2
  have HM := Lib.hid hm
  have HN := Lib.hid hn
  clear hm hn
  by_cases hmn : m = n
  · subst hmn
    go_enter Tryz.func114, Tryz.ntmps114
    go_wp2_with fail
    refine (C1.out).mono ?_
    rintro e w' ⟨rfl, rfl⟩
    go_wp2_with fail
    refine (C2.out).mono ?_
    rintro e w' ⟨rfl, rfl⟩
    go_wp2_with fail
    go_loopw [23] (fun i wr => ∃ k : Nat, k ≤ m ∧ i = .int .i64 k ∧ Hid (val 4294967296 (xs.drop (m - k)) = val 4294967296 (zs.drop (m - k))) ∧ Hid (∃ q, wr = w.drewN q)) (fun i _ => m - (intOf i).toNat)
    case atStart => exact ⟨0, Nat.zero_le _, rfl, by rw [Nat.sub_zero, List.drop_of_length_le (by rw [HM.out]; exact Nat.le_refl _), List.drop_of_length_le (by rw [HN.out]; exact Nat.le_refl _)]; rfl, ⟨0, rfl⟩⟩
    case round =>
      obtain ⟨k, hk, rfl, hv, hq⟩ := hrel
      have rx' : Rds wr .u32 ad m xs := by obtain ⟨q, rfl⟩ := hq.out; exact rx.drewN q
      have rz' : Rds wr .u32 bd m zs := by obtain ⟨q, rfl⟩ := hq.out; exact rz.drewN q
      by_cases hkm : k < m
      · obtain ⟨a, rfl, hxl⟩ := rx'.cell (m - 1 - k) (by omega)
        obtain ⟨b, rfl, hzl⟩ := rz'.cell (m - 1 - k) (by omega)
        have L1 := Lib.hid (fun h : xs[m - 1 - k]?.getD 0 < zs[m - 1 - k]?.getD 0 => lt_at (b := 4294967296) (by omega) dx dz (m - 1 - k) (by rw [HM.out]; omega) (by rw [HN.out]; omega) (by rw [show m - 1 - k + 1 = m - k by omega]; exact hv.out) h)
        have L2 := Lib.hid (fun h : zs[m - 1 - k]?.getD 0 < xs[m - 1 - k]?.getD 0 => lt_at (b := 4294967296) (by omega) dz dx (m - 1 - k) (by rw [HN.out]; omega) (by rw [HM.out]; omega) (by rw [show m - 1 - k + 1 = m - k by omega]; exact hv.out.symm) h)
        have E := Lib.hid (fun h : xs[m - 1 - k]?.getD 0 = zs[m - 1 - k]?.getD 0 => show val 4294967296 (xs.drop (m - (k + 1))) = val 4294967296 (zs.drop (m - (k + 1))) by
          rw [show m - (k + 1) = m - 1 - k by omega, val_drop _ xs _ (by rw [HM.out]; omega), val_drop _ zs _ (by rw [HN.out]; omega), h, show m - 1 - k + 1 = m - k by omega, hv.out])
        clear hv rx rz rx' rz'
        have hi0 : (0 : Int) ≤ (m : Int) - 1 - k := by omega
        have hi1 : (m : Int) - 1 - k < m := by omega
        have hi2 : ((m : Int) - 1 - k).toNat = m - 1 - k := by omega
        generalize hgx : xs[m - 1 - k]?.getD 0 = x at *
        generalize hgz : zs[m - 1 - k]?.getD 0 = z at *
        clear hgx hgz
        rcases Int.lt_trichotomy x z with hxz | hxz | hxz
        · have HR := Lib.hid (cmpI_lt (L1.out hxz))
          have HC := Lib.hid (cmpI_lt hxz)
          have ht : (x != z) = true := by simp; omega
          go_wp2_with fail
          go_quiet (fail)
          have hxl2 : (wr.drewN nq).cell? (a.add (m - 1 - k)) = some (.int .u32 x) := hxl
          have hzl2 : (wr.drewN nq).cell? (b.add (m - 1 - k)) = some (.int .u32 z) := hzl
          have hq2 := Lib.hid (show ∃ q, wr.drewN nq = w.drewN q by obtain ⟨q, rfl⟩ := hq.out; exact ⟨_, World.drewN_drewN ..⟩)
          generalize wr.drewN nq = w2 at *
          go_wp2_with fail
          go_quiet ((go_at_call 163; exact quiet_left (compare_u32 x z _)))
          go_wp2
          go_ret
          rw [HR.out]
          obtain ⟨q, rfl⟩ := hq2.out
          exact ⟨by rw [← HC.out]; rfl, _, World.drewN_drewN ..⟩
        · subst hxz
          have ht : (x != x) = false := by simp
          go_wp2_with fail
          go_quiet (fail)
          go_wp2
          go_roundw
          case rel => exact ⟨k + 1, by omega, by go_num, E.out trivial, by obtain ⟨q, rfl⟩ := hq.out; exact ⟨_, World.drewN_drewN ..⟩⟩
          case measure => simp [intOf]; omega
        · have HR := Lib.hid (cmpI_gt (L2.out hxz))
          have HC := Lib.hid (cmpI_gt hxz)
          have ht : (x != z) = true := by simp; omega
          go_wp2_with fail
          go_quiet (fail)
          have hxl2 : (wr.drewN nq).cell? (a.add (m - 1 - k)) = some (.int .u32 x) := hxl
          have hzl2 : (wr.drewN nq).cell? (b.add (m - 1 - k)) = some (.int .u32 z) := hzl
          have hq2 := Lib.hid (show ∃ q, wr.drewN nq = w.drewN q by obtain ⟨q, rfl⟩ := hq.out; exact ⟨_, World.drewN_drewN ..⟩)
          generalize wr.drewN nq = w2 at *
          go_wp2_with fail
          go_quiet ((go_at_call 163; exact quiet_left (compare_u32 x z _)))
          go_wp2
          go_ret
          rw [HR.out]
          obtain ⟨q, rfl⟩ := hq2.out
          exact ⟨by rw [← HC.out]; rfl, _, World.drewN_drewN ..⟩
      · obtain rfl : k = m := by omega
        have HR := Lib.hid (cmpI_eq (show val 4294967296 xs = val 4294967296 zs by have := hv.out; simpa using this))
        go_wp2
        go_ret
        rw [HR.out]
        exact ⟨rfl, hq.out⟩
  · have HR := Lib.hid (cmpI_of_lists xs zs dx dz N1.out N2.out (by rw [HM.out, HN.out]; exact hmn))
    rw [HM.out, HN.out] at HR
    have ht : ((m : Int) != (n : Int)) = true := by simp; omega
    go_enter Tryz.func114, Tryz.ntmps114
    go_wp2_with fail
    refine (C1.out).mono ?_
    rintro e w' ⟨rfl, rfl⟩
    go_wp2_with fail
    refine (C2.out).mono ?_
    rintro e w' ⟨rfl, rfl⟩
    go_wp2_with fail
    refine (compare_int m n w).mono ?_
    rintro e w' ⟨rfl, rfl⟩
    go_wp2
    go_ret
    rw [← HR.out]
    exact ⟨rfl, 0, rfl⟩
end Go.Proofs.YtoimhjcpeifegaaGreatDoor

/- crucibleref01.Cmp: -1, 0 or 1. -/
namespace Go.Proofs.YtoimhjcpeifegaaGreatDoor
open Go.RowKit
set_option maxHeartbeats 1000000 in
theorem rcmp_calls (ad bd : Option Addr) (na nb ca cb : Nat) (la lb : List Int) (w : World) (hna : na ≤ 1099511627776) (hnb : nb ≤ 1099511627776)
    (ha : Rds w .u32 ad na la) (hb : Rds w .u32 bd nb lb) (da : Dig 4294967296 la) (db : Dig 4294967296 lb) :
    Calls Tryz.prog 130 #[.slice ad na ca, .slice bd nb cb] w (RetIB (cmpI (val 4294967296 la) (val 4294967296 lb)) w) := by
  have l1 := bytes_len ha.len da
  have l2 := bytes_len hb.len db
  have C1 := Lib.hid (bytes_calls ad na ca la w (by omega) ha da)
  have C2 := Lib.hid (fun (w1 : World) (h : Below w.heap.size w w1) => bytes_calls bd nb cb lb w1 (by omega) (hb.below h (Nat.le_refl _)) db)
  have vx := Lib.hid (val_dg 256 (by omega) (val 4294967296 la) (val_nonneg (by omega) da))
  have vz := Lib.hid (val_dg 256 (by omega) (val 4294967296 lb) (val_nonneg (by omega) db))
  have nx := Lib.hid (norm_dg 256 (by omega) (val 4294967296 la))
  have nz := Lib.hid (norm_dg 256 (by omega) (val 4294967296 lb))
  have dx : Dig 256 (dg 256 (val 4294967296 la)) := dg_dig 256 (by omega) _
  have dz : Dig 256 (dg 256 (val 4294967296 lb)) := dg_dig 256 (by omega) _
  clear ha hb da db
  generalize dg 256 (val 4294967296 la) = xs at *
  generalize dg 256 (val 4294967296 lb) = zs at *
  have eR : cmpI (val 4294967296 la) (val 4294967296 lb) = cmpI (val 256 xs) (val 256 zs) := by
    rw [show val 256 xs = val 4294967296 la from vx.out, show val 256 zs = val 4294967296 lb from vz.out]
  rw [eR]
  clear eR
  go_enter Tryz.func130, Tryz.ntmps130
  go_wp2_with fail
  refine (C1.out).mono ?_
  rintro e w1 ⟨xd, m, cx, rfl, ox, b1⟩
  have C2' := Lib.hid (C2.out w1 b1)
  clear C2 C1
  go_wp2_with fail
  refine (C2'.out).mono ?_
  rintro e w2 ⟨zd, n, cz, rfl, oz, b2⟩
  clear C2'
  have rx := (ox.below b2 (Nat.le_refl _)).rds
  have rz := oz.rds
  have BB := below_trans b1 b2
  have HM := Lib.hid rx.len
  have HN := Lib.hid rz.len
  rw [HM.out] at l1
  rw [HN.out] at l2
  clear ox oz b1 b2
  by_cases hmn : m = n
  · subst hmn
    go_wp2
    go_loopw [7] (fun i wr => ∃ j : Nat, j ≤ m ∧ i = .int .i64 ((j : Int) - 1) ∧ Hid (val 256 (xs.drop j) = val 256 (zs.drop j)) ∧ Hid (∃ q, wr = w2.drewN q)) (fun i _ => (intOf i + 1).toNat)
    case atStart => exact ⟨m, Nat.le_refl _, rfl, by rw [List.drop_of_length_le (by rw [HM.out]; exact Nat.le_refl _), List.drop_of_length_le (by rw [HN.out]; exact Nat.le_refl _)]; rfl, ⟨0, rfl⟩⟩
    case round =>
      obtain ⟨j, hj, rfl, hv, hq⟩ := hrel
      have rx' : Rds wr .i64 xd m xs := by obtain ⟨q, rfl⟩ := hq.out; exact rx.drewN q
      have rz' : Rds wr .i64 zd m zs := by obtain ⟨q, rfl⟩ := hq.out; exact rz.drewN q
      have BW : Below w.heap.size w wr := by obtain ⟨q, rfl⟩ := hq.out; exact below_drewN BB q
      by_cases hj0 : 0 < j
      · obtain ⟨j, rfl⟩ : ∃ i, j = i + 1 := ⟨j - 1, by omega⟩
        obtain ⟨a, rfl, hxl⟩ := rx'.cell j (by omega)
        obtain ⟨b, rfl, hzl⟩ := rz'.cell j (by omega)
        have L1 := Lib.hid (fun h : xs[j]?.getD 0 < zs[j]?.getD 0 => lt_at (b := 256) (by omega) dx dz j (by rw [HM.out]; omega) (by rw [HN.out]; omega) hv.out h)
        have L2 := Lib.hid (fun h : zs[j]?.getD 0 < xs[j]?.getD 0 => lt_at (b := 256) (by omega) dz dx j (by rw [HN.out]; omega) (by rw [HM.out]; omega) hv.out.symm h)
        have E := Lib.hid (fun h : xs[j]?.getD 0 = zs[j]?.getD 0 => show val 256 (xs.drop j) = val 256 (zs.drop j) by
          rw [val_drop _ xs _ (by rw [HM.out]; omega), val_drop _ zs _ (by rw [HN.out]; omega), h, hv.out])
        clear hv rx rz rx' rz'
        have ej : (((j + 1 : Nat) : Int) - 1) = (j : Int) := by omega
        rw [ej]
        clear ej
        have hi0 : (0 : Int) ≤ (j : Int) := by omega
        have hi1 : (j : Int) < m := by omega
        generalize hgx : xs[j]?.getD 0 = x at *
        generalize hgz : zs[j]?.getD 0 = z at *
        clear hgx hgz
        by_cases hxz : x = z
        · subst hxz
          have ht : (x != x) = false := by simp
          go_wp2_with fail
          go_quiet (fail)
          go_wp2
          go_roundw
          case rel => exact ⟨j, by omega, rfl, E.out trivial, by obtain ⟨q, rfl⟩ := hq.out; exact ⟨_, World.drewN_drewN ..⟩⟩
          case measure => simp [intOf]
        · have ht : (x != z) = true := by simp; exact hxz
          have HR := Lib.hid (show cmpI (val 256 xs) (val 256 zs) = if x < z then -1 else 1 by
            split
            · rename_i h; exact cmpI_lt (L1.out h)
            · rename_i h; exact cmpI_gt (L2.out (by omega)))
          clear hxz
          go_wp2_with fail
          go_quiet (fail)
          have hxl2 : (wr.drewN nq).cell? (a.add j) = some (.int .i64 x) := hxl
          have hzl2 : (wr.drewN nq).cell? (b.add j) = some (.int .i64 z) := hzl
          have BW2 := below_drewN BW nq
          generalize wr.drewN nq = w3 at *
          by_cases hlt : x < z
          · go_wp2_with fail
            go_quiet (fail)
            go_wp2
            go_ret
            rw [HR.out, if_pos hlt]
            exact ⟨rfl, below_drewN BW2 _⟩
          · have hlt2 : decide (x < z) = false := decide_eq_false hlt
            go_wp2_with fail
            go_quiet (fail)
            go_wp2
            go_ret
            rw [HR.out, if_neg (of_decide_eq_false (by simpa using hlt2))]
            exact ⟨rfl, below_drewN BW2 _⟩
      · obtain rfl : j = 0 := by omega
        have HR := Lib.hid (cmpI_eq (show val 256 xs = val 256 zs by have := hv.out; simpa using this))
        go_wp2
        go_ret
        rw [HR.out]
        exact ⟨rfl, BW⟩
  · have ht : ((m : Int) != (n : Int)) = true := by simp; omega
    have HR := Lib.hid (show cmpI (val 256 xs) (val 256 zs) = if (m : Int) < n then -1 else 1 by
      split
      · exact cmpI_lt (lt_of_len (by omega) dx dz nz.out (by rw [HM.out, HN.out]; omega))
      · exact cmpI_gt (lt_of_len (by omega) dz dx nx.out (by rw [HM.out, HN.out]; omega)))
    clear hmn
    by_cases hlt : (m : Int) < n
    · go_wp2
      go_ret
      rw [HR.out, if_pos (by omega)]
      exact ⟨rfl, BB⟩
    · go_wp2
      go_ret
      rw [HR.out, if_neg (by omega)]
      exact ⟨rfl, BB⟩
end Go.Proofs.YtoimhjcpeifegaaGreatDoor

/- crucibleref01.Norm: the number without noughts at its end. -/
namespace Go.Proofs.YtoimhjcpeifegaaGreatDoor
open Go.RowKit
theorem rnorm_calls (ad : Option Addr) (n c : Nat) (la : List Int) (w : World) (hn : n ≤ 1099511627776) (hr : Rds w .u32 ad n la) (da : Dig 4294967296 la) :
    Calls Tryz.prog 128 #[.slice ad n c] w (RetL 23 .u32 (dg 4294967296 (val 4294967296 la)) w) := by
  have l1 := bytes_len hr.len da
  have C1 := Lib.hid (bytes_calls ad n c la w (by omega) hr da)
  have vx := Lib.hid (val_dg 256 (by omega) (val 4294967296 la) (val_nonneg (by omega) da))
  have dx : Dig 256 (dg 256 (val 4294967296 la)) := dg_dig 256 (by omega) _
  clear hr
  generalize dg 256 (val 4294967296 la) = xs at *
  go_enter Tryz.func128, Tryz.ntmps128
  go_wp2_with fail
  refine (C1.out).mono ?_
  rintro e w1 ⟨xd, m, cx, rfl, ox, b1⟩
  have HM := Lib.hid ox.len
  rw [HM.out] at l1
  have C2 := limbs_calls xd m cx xs w1 (by omega) ox.le ox.rds dx
  rw [show val 256 xs = val 4294967296 la from vx.out] at C2
  have C2' := Lib.hid C2
  clear C1 C2
  go_wp2_with fail
  refine (C2'.out).mono ?_
  rintro e w2 hr
  obtain ⟨rd, nr, cr, rfl, or, br⟩ := hr.after b1
  go_wp2_with fail
  go_ret
  exact ⟨_, _, _, rfl, or, br⟩
end Go.Proofs.YtoimhjcpeifegaaGreatDoor

/- nat.Len: how many bits it has. -/
namespace Go.Proofs.YtoimhjcpeifegaaGreatDoor
open Go.RowKit

/-- How many bits a whole number not below 0 has, as an int. -/
def bitsOf (V : Int) : Int := blen V.toNat

theorem nlen_calls (ad : Option Addr) (n c : Nat) (la : List Int) (w : World) (hn : n ≤ 70368744177664) (hnc : n ≤ c) (hr : Rds w .u32 ad n la) (da : Dig 4294967296 la) :
    Calls Tryz.prog 86 #[.slice ad n c] w fun e w' => e = .returned (.int .i64 (bitsOf (val 4294967296 la))) ∧ w = w' := by
  have hc := Lib.hid (cut_calls ad n c la w (by omega) hnc hr)
  have rx := hr.norm
  have dx := norm_dig da
  have hN := norm_norm la
  have hma := norm_length_le la
  rw [hr.len] at hma
  rw [← val_norm 4294967296 la]
  clear hr da
  generalize norm la = xs at *
  obtain ⟨m, hm⟩ : ∃ m, xs.length = m := ⟨_, rfl⟩
  rw [hm] at hc rx hma
  by_cases h0 : m = 0
  · subst h0
    have HB := Lib.hid (show bitsOf (val 4294967296 xs) = 0 by rw [List.eq_nil_of_length_eq_zero hm]; rfl)
    clear hN hm
    go_enter Tryz.func86, Tryz.ntmps86
    go_wp2_with fail
    refine (hc.out).mono ?_
    rintro e w' ⟨rfl, rfl⟩
    go_wp2
    go_ret
    rw [HB.out]
    exact ⟨rfl, rfl⟩
  · obtain ⟨t, rfl⟩ : ∃ t, m = t + 1 := ⟨m - 1, by omega⟩
    have bx := dx.get (by omega) t
    have hl := len32_calls (xs[t]?.getD 0) w bx.1 (by omega)
    have hB := bitLen_blen (xs[t]?.getD 0).toNat (by omega)
    have hb2 := Lib.bitLen_le (xs[t]?.getD 0).toNat 32 (by omega) (by omega)
    have HB := Lib.hid (show bitsOf (val 4294967296 xs) = 32 * (t : Int) + (Lib.bitLen (xs[t]?.getD 0).toNat : Nat) by
      unfold bitsOf
      rw [blen_list 32 4294967296 (by decide) xs dx hN t hm, hB]
      simp)
    have hl' := Lib.hid hl
    clear hN hm hl hB h0
    obtain ⟨a, rfl, hxl⟩ := rx.cell t (by omega)
    generalize xs[t]?.getD 0 = x at *
    generalize Lib.bitLen x.toNat = q at *
    have hmm : ((((t + 1 : Nat) : Int)) == 0) = false := by simp; omega
    go_enter Tryz.func86, Tryz.ntmps86
    go_wp2_with fail
    refine (hc.out).mono ?_
    rintro e w' ⟨rfl, rfl⟩
    go_wp2_with fail
    refine (hl'.out).mono ?_
    rintro e w' ⟨rfl, rfl⟩
    go_wp2
    go_ret
    rw [HB.out]
    exact ⟨rfl, rfl⟩
end Go.Proofs.YtoimhjcpeifegaaGreatDoor

/- Shifts of lists of digits, place by place: plain facts. -/
namespace Go.Proofs.YtoimhjcpeifegaaGreatDoor

/-- Is there a number 2^n times V, as Shl counts? -/
def shlOk (V n : Int) : Bool := decide (0 ≤ n ∧ (V = 0 ∨ n ≤ 8388608 - (blen V.toNat : Nat)))
def shlNum (V n : Int) : Int := if shlOk V n then V * 2 ^ n.toNat else 0
/-- What Shr answers. -/
def shrNum (V n : Int) : Int := if 0 ≤ n then V / 2 ^ n.toNat else 0
def shrMore (V n : Int) : Bool := decide (0 ≤ n) && decide (V % 2 ^ n.toNat ≠ 0)

/-- What comes up from the place below. -/
def carryUp (b R : Int) (zs : List Int) (j : Nat) : Int := if j = 0 then 0 else zs[j - 1]?.getD 0 * R / b

theorem shl_step (b R : Int) (hb : 0 < b) (zs ys : List Int) (j : Nat) (hz : j < zs.length) (hy : j < ys.length)
    (E : val b (ys.drop (j + 1)) = R * val b (zs.drop (j + 1)) + carryUp b R zs (j + 1)) :
    val b ((ys.set j (zs[j]?.getD 0 * R % b + carryUp b R zs j)).drop j) = R * val b (zs.drop j) + carryUp b R zs j := by
  rw [val_drop b zs j hz, val_drop b (ys.set j _) j (by rw [List.length_set]; exact hy), List.getElem?_set_self hy, List.drop_set_of_lt (by omega), E]
  have e : carryUp b R zs (j + 1) = zs[j]?.getD 0 * R / b := by unfold carryUp; rw [if_neg (by omega)]; rfl
  rw [e]
  simp only [Option.getD_some]
  have h := Int.emod_add_mul_ediv (zs[j]?.getD 0 * R) b
  generalize zs[j]?.getD 0 * R / b = q at *
  generalize zs[j]?.getD 0 * R % b = r at *
  generalize hx : zs[j]?.getD 0 = x at *
  generalize val b (zs.drop (j + 1)) = Z at *
  generalize carryUp b R zs j = c at *
  have : r = x * R - b * q := by omega
  subst this
  grind

theorem shr_step (b R Q : Int) (hR : 0 < R) (hb : b = R * Q) (zs ys : List Int) (i : Nat) (hy : i < ys.length) (c0 : Int)
    (E : val b (ys.take i) * R + c0 = val b (zs.take i) + b ^ i * (zs[i]?.getD 0 % R)) :
    val b ((ys.set i (zs[i]?.getD 0 / R + zs[i + 1]?.getD 0 % R * Q)).take (i + 1)) * R + c0 = val b (zs.take (i + 1)) + b ^ (i + 1) * (zs[i + 1]?.getD 0 % R) := by
  rw [take_set_succ ys i _ hy, val_append, val_take_succ', Int.pow_succ, List.length_take, Nat.min_eq_left (by omega)]
  simp only [val, Int.mul_zero, Int.add_zero]
  have h := Int.emod_add_mul_ediv (zs[i]?.getD 0) R
  generalize zs[i]?.getD 0 = x at *
  generalize zs[i + 1]?.getD 0 % R = t at *
  generalize x / R = q at *
  generalize x % R = r at *
  generalize hP : b ^ i = P at *
  generalize val b (ys.take i) = Y at *
  generalize val b (zs.take i) = Z at *
  subst hb
  subst h
  grind
theorem split_div (lo P Z R : Int) (h0 : 0 ≤ lo) (h1 : lo < P) (hR : 0 < R) : (lo + P * Z) / (P * R) = Z / R ∧ (lo + P * Z) % (P * R) = lo + P * (Z % R) := by
  have hP : 0 < P := by omega
  have e : lo + P * Z = (lo + P * (Z % R)) + P * R * (Z / R) := by
    have := Int.emod_add_mul_ediv Z R
    generalize Z / R = q at *
    generalize Z % R = r at *
    subst this
    grind
  have b0 : 0 ≤ Z % R := Int.emod_nonneg _ (by omega)
  have b1 : Z % R + 1 ≤ R := Int.emod_lt_of_pos _ hR
  have c0 : 0 ≤ P * (Z % R) := Int.mul_nonneg (by omega) b0
  have c1 : P * (Z % R + 1) ≤ P * R := Int.mul_le_mul_of_nonneg_left b1 (by omega)
  rw [Int.mul_add] at c1
  have hPR : 0 < P * R := Int.mul_pos hP hR
  rw [e]
  constructor
  · rw [Int.add_mul_ediv_left _ _ (by omega), Int.ediv_eq_zero_of_lt (by omega) (by omega), Int.zero_add]
  · rw [Int.add_mul_emod_self_left, Int.emod_eq_of_lt (by omega) (by omega)]

theorem ne_parts (lo P t : Int) (h0 : 0 ≤ lo) (hP : 0 < P) (ht : 0 ≤ t) : decide (lo + P * t ≠ 0) = (decide (lo ≠ 0) || decide (t ≠ 0)) := by
  rw [Bool.eq_iff_iff]
  simp only [decide_eq_true_eq, Bool.or_eq_true]
  constructor
  · intro h
    by_cases hl : lo = 0
    · refine .inr fun ht => h ?_
      rw [hl, ht]
      simp
    · exact .inl hl
  · rintro (h | h)
    · have := Int.mul_nonneg (Int.le_of_lt hP) ht
      omega
    · have := Int.mul_pos hP (show 0 < t by omega)
      omega

theorem shr_snoc (b R Q : Int) (hR : 0 < R) (hb : b = R * Q) (zs ys : List Int) (i : Nat) (hy : ys.length = i) (c0 : Int)
    (E : val b ys * R + c0 = val b (zs.take i) + b ^ i * (zs[i]?.getD 0 % R)) :
    val b (ys ++ [zs[i]?.getD 0 / R + zs[i + 1]?.getD 0 % R * Q]) * R + c0 = val b (zs.take (i + 1)) + b ^ (i + 1) * (zs[i + 1]?.getD 0 % R) := by
  rw [val_append, val_take_succ', Int.pow_succ, hy]
  simp only [val, Int.mul_zero, Int.add_zero]
  have h := Int.emod_add_mul_ediv (zs[i]?.getD 0) R
  generalize zs[i]?.getD 0 = x at *
  generalize zs[i + 1]?.getD 0 % R = t at *
  generalize x / R = q at *
  generalize x % R = r at *
  generalize hP : b ^ i = P at *
  generalize val b ys = Y at *
  generalize val b (zs.take i) = Z at *
  subst hb
  subst h
  grind

/-- (x + b y) / R, cut to a digit. -/
theorem down_digit (b R Q x y : Int) (hR : 0 < R) (hQ : 0 < Q) (hb : b = R * Q) (hx : 0 ≤ x ∧ x < b) : (x + b * y) / R % b = x / R + y % R * Q := by
  have e : x + b * y = x + R * (Q * y) := by rw [hb, Int.mul_assoc]
  rw [e, Int.add_mul_ediv_left _ _ (by omega)]
  have h1 := Int.emod_add_mul_ediv y R
  have e2 : x / R + Q * y = (x / R + y % R * Q) + b * (y / R) := by
    generalize y / R = q at *
    generalize y % R = t at *
    subst h1 hb
    grind
  have k0 : 0 ≤ x / R := Int.ediv_nonneg hx.1 (by omega)
  have k1 : x / R + 1 ≤ Q := Int.ediv_lt_of_lt_mul hR (by rw [Int.mul_comm, ← hb]; exact hx.2)
  have t0 : 0 ≤ y % R := Int.emod_nonneg _ (by omega)
  have t1 : y % R + 1 ≤ R := Int.emod_lt_of_pos _ hR
  have t2 := Int.mul_nonneg t0 (Int.le_of_lt hQ)
  have t3 := Int.mul_le_mul_of_nonneg_right t1 (Int.le_of_lt hQ)
  rw [← hb, Int.add_mul] at t3
  rw [e2, Int.add_mul_emod_self_left, Int.emod_eq_of_lt (by omega) (by omega)]
end Go.Proofs.YtoimhjcpeifegaaGreatDoor
