/- Contracts of functions, and plain facts, part 14. -/
import Derived.Test.YtmnabilgpndjmaaDoorProg
import Derived.Test.YtmnabilgpndjmaaDoorPk1
import Derived.Test.YtmnabilgpndjmaaDoorPk2
import Derived.Test.YtmnabilgpndjmaaDoorPk3
set_option linter.unusedVariables false
set_option linter.unusedSimpArgs false
/- math/bits.Add32: the sum and what is carried. -/
namespace Go.Proofs.YtmnabilgpndjmaaDoor
open Go.RowKit
theorem add32_calls (x y c : Int) (w : World) (hx : 0 ≤ x ∧ x < 4294967296) (hy : 0 ≤ y ∧ y < 4294967296) (hc : 0 ≤ c ∧ c < 4294967296) :
    Calls Tryd.prog 93 #[.int .u32 x, .int .u32 y, .int .u32 c] w fun e w' => e = .returned (.tuple #[.int .u32 ((x + y + c) % 4294967296), .int .u32 ((x + y + c) / 4294967296)]) ∧ w = w' := by
  obtain ⟨hx0, hx1⟩ := hx
  obtain ⟨hy0, hy1⟩ := hy
  obtain ⟨hc0, hc1⟩ := hc
  go_enter Tryd.func93, Tryd.ntmps93
  go_wp2
  go_ret2
  exact ⟨rfl, rfl⟩
end Go.Proofs.YtmnabilgpndjmaaDoor

/- Sums, differences and short division, place by place: plain facts on lists. -/
namespace Go.Proofs.YtmnabilgpndjmaaDoor

theorem val_set_take (B : Int) (ys : List Int) (i : Nat) (v : Int) (h : i < ys.length) : val B ((ys.set i v).take (i + 1)) = val B (ys.take i) + B ^ i * v := by
  rw [take_set_succ ys i v h, val_append]
  simp [val, List.length_take, Nat.min_eq_left (Nat.le_of_lt h)]

theorem add_step (B : Int) (xs zs ys : List Int) (i : Nat) (hi : i < ys.length) (c T : Int) (hT : T = xs[i]?.getD 0 + zs[i]?.getD 0 + c)
    (E : val B (ys.take i) + c * B ^ i = val B (xs.take i) + val B (zs.take i)) :
    val B ((ys.set i (T % B)).take (i + 1)) + (T / B) * B ^ (i + 1) = val B (xs.take (i + 1)) + val B (zs.take (i + 1)) := by
  rw [val_set_take B ys i _ hi, val_take_succ', val_take_succ', Int.pow_succ]
  have h := Int.emod_add_mul_ediv T B
  generalize xs[i]?.getD 0 = x at *
  generalize zs[i]?.getD 0 = z at *
  generalize T / B = q at *
  generalize T % B = r at *
  generalize B ^ i = P at *
  generalize val B (ys.take i) = Y at *
  generalize val B (xs.take i) = X at *
  generalize val B (zs.take i) = Z at *
  have e : r = x + z + c - B * q := by omega
  subst e
  grind

theorem add_end (B : Int) (xs zs ys : List Int) (n : Nat) (hx : xs.length = n) (hz : zs.length ≤ n) (hy : ys.length = n + 1) (c : Int)
    (E : val B (ys.take n) + c * B ^ n = val B (xs.take n) + val B (zs.take n)) : val B (ys.set n c) = val B xs + val B zs := by
  have h := val_set_take B ys n c (by omega)
  rw [List.take_of_length_le (by rw [List.length_set]; omega)] at h
  rw [List.take_of_length_le (show xs.length ≤ n by omega), List.take_of_length_le hz] at E
  rw [h, ← E, Int.mul_comm]

theorem sub_step (B : Int) (xs zs ys : List Int) (i : Nat) (hi : i < ys.length) (c D c' : Int) (hD : D = xs[i]?.getD 0 - zs[i]?.getD 0 - c + c' * B)
    (E : val B (ys.take i) + val B (zs.take i) = val B (xs.take i) + c * B ^ i) :
    val B ((ys.set i D).take (i + 1)) + val B (zs.take (i + 1)) = val B (xs.take (i + 1)) + c' * B ^ (i + 1) := by
  rw [val_set_take B ys i _ hi, val_take_succ', val_take_succ', Int.pow_succ]
  generalize xs[i]?.getD 0 = x at *
  generalize zs[i]?.getD 0 = z at *
  generalize B ^ i = P at *
  generalize val B (ys.take i) = Y at *
  generalize val B (xs.take i) = X at *
  generalize val B (zs.take i) = Z at *
  subst hD
  grind

theorem sub_end (B : Int) (hB : 0 < B) (xs zs ys : List Int) (n : Nat) (dy : Dig B ys) (hx : xs.length = n) (hz : zs.length ≤ n) (hy : ys.length = n) (c : Int) (hc : 0 ≤ c)
    (hle : val B zs ≤ val B xs) (E : val B (ys.take n) + val B (zs.take n) = val B (xs.take n) + c * B ^ n) : val B ys = val B xs - val B zs := by
  rw [List.take_of_length_le (by omega), List.take_of_length_le (by omega), List.take_of_length_le (by omega)] at E
  have h := val_lt hB dy
  rw [hy] at h
  have hp : 0 < B ^ n := Int.pow_pos hB
  rcases Int.lt_or_eq_of_le hc with h1 | h1
  · have : 1 * B ^ n ≤ c * B ^ n := Int.mul_le_mul_of_nonneg_right (by omega) (Int.le_of_lt hp)
    omega
  · rw [← h1, Int.zero_mul] at E
    omega

theorem small_step (B : Int) (xs ys : List Int) (j : Nat) (hx : j < xs.length) (hy : j < ys.length) (d r T q r' : Int) (hT : T = r * B + xs[j]?.getD 0) (hq : T = d * q + r')
    (E : val B (xs.drop (j + 1)) = val B (ys.drop (j + 1)) * d + r) :
    val B (xs.drop j) = val B ((ys.set j q).drop j) * d + r' := by
  rw [val_drop B xs j hx, val_drop B (ys.set j q) j (by rw [List.length_set]; exact hy), List.getElem?_set_self hy, List.drop_set_of_lt (by omega), E]
  simp only [Option.getD_some]
  generalize xs[j]?.getD 0 = x at *
  generalize val B (ys.drop (j + 1)) = Y at *
  have : x = d * q + r' - r * B := by omega
  subst this
  grind
end Go.Proofs.YtmnabilgpndjmaaDoor

/- nat.Uint: the number, if it is below 2 to the 64. -/
namespace Go.Proofs.YtmnabilgpndjmaaDoor
open Go.RowKit

theorem fits_len (xs : List Int) (dx : Dig 4294967296 xs) : (norm xs).length ≤ 2 ↔ val 4294967296 xs < 18446744073709551616 := by
  have h0 := val_nonneg (b := 4294967296) (by omega) dx
  have e := norm_eq 4294967296 (by omega) dx
  rw [e]
  have := dg_len_iff 4294967296 (by omega) 2 (val 4294967296 xs) h0
  simpa using this

theorem or_up (l h : Int) (hl : 0 ≤ l ∧ l < 4294967296) (hh : 0 ≤ h ∧ h < 4294967296) : bits .or .u64 l (h * 4294967296) = l + h * 4294967296 := by
  obtain ⟨h, rfl⟩ := Int.eq_ofNat_of_zero_le hh.1
  obtain ⟨l, rfl⟩ := Int.eq_ofNat_of_zero_le hl.1
  have e : ((h : Int) * 4294967296) = ((h * 4294967296 : Nat) : Int) := by simp
  rw [e, bits_or_u64_nat _ _ (by omega) (by omega), Nat.or_comm, nat_join 32 _ _ (by omega) (by omega)]
  omega
theorem or_zero64 (l : Int) (hl : 0 ≤ l ∧ l < 4294967296) : bits .or .u64 0 l = l := by
  obtain ⟨l, rfl⟩ := Int.eq_ofNat_of_zero_le hl.1
  have := bits_or_u64_nat 0 l (by omega) (by omega)
  simpa using this

set_option maxHeartbeats 400000 in
theorem uint_calls (ad : Option Addr) (n c : Nat) (la : List Int) (w : World) (hn : n ≤ 9223372036854775807) (hnc : n ≤ c) (hr : Rds w .u32 ad n la) (da : Dig 4294967296 la) :
    Calls Tryd.prog 124 #[.slice ad n c] w fun e w' => e = .returned (.tuple #[.int .u64 (low64 (val 4294967296 la)), .bool (fits64 (val 4294967296 la))]) ∧ w = w' := by
  have hc := Lib.hid (cut_calls ad n c la w (by omega) hnc hr)
  have rx := hr.norm
  have dx := norm_dig da
  have hF := fits_len la da
  have hma := norm_length_le la
  rw [hr.len] at hma
  rw [← val_norm 4294967296 la] at hF ⊢
  clear hr da
  generalize norm la = xs at *
  obtain ⟨m, hm⟩ : ∃ m, xs.length = m := ⟨_, rfl⟩
  rw [hm] at hc rx hF hma
  have HM := Lib.hid hm
  clear hm
  by_cases h2 : m ≤ 2
  · have HV := Lib.hid (hF.1 h2)
    have HL := Lib.hid (show low64 (val 4294967296 xs) = val 4294967296 xs by unfold low64; rw [if_pos HV.out])
    have HB := Lib.hid (show fits64 (val 4294967296 xs) = true from decide_eq_true HV.out)
    clear hF
    go_enter Tryd.func124, Tryd.ntmps124
    go_wp2_with fail
    refine (hc.out).mono ?_
    rintro e w' ⟨rfl, rfl⟩
    go_wp2_with fail
    go_loop [13, 4] (fun i acc => ∃ k : Nat, k ≤ m ∧ i = .int .i64 k ∧ acc = .int .u64 (val 4294967296 (xs.take k))) (fun i _ => m - (intOf i).toNat)
    case atStart => exact ⟨0, Nat.zero_le _, rfl, by simp [val]⟩
    case round =>
      obtain ⟨k, hk, rfl, rfl⟩ := hrel
      by_cases hkm : k < m
      · obtain ⟨a, rfl, hxl⟩ := rx.cell k hkm
        have bx := dx.get (by omega) k
        have hs := Lib.hid (val_take_succ' 4294967296 xs k)
        have b0 := val_nonneg (b := 4294967296) (by omega) (dx.take k)
        have b1 := val_lt (b := 4294967296) (by omega) (dx.take k)
        rw [List.length_take, HM.out, Nat.min_eq_left (by omega)] at b1
        generalize xs[k]?.getD 0 = x at *
        rcases (show k = 0 ∨ k = 1 by omega) with rfl | rfl
        · have B := or_zero64 x bx
          have hxl' : w.cell? a = some (.int .u32 x) := by simpa [Addr.add] using hxl
          have HS := Lib.hid (show val 4294967296 (xs.take (0 + 1)) = x by rw [hs.out]; simp [val])
          rw [show val 4294967296 (xs.take 0) = 0 by simp [val]]
          clear b0 b1 hs
          go_wp2
          go_round
          case rel => exact ⟨0 + 1, by omega, rfl, by rw [HS.out]⟩
          case measure => simp [intOf]; omega
        · simp only [Int.pow_one] at b1 hs
          have B := or_up (val 4294967296 (xs.take 1)) x ⟨b0, b1⟩ bx
          have hxl' : w.cell? ⟨a.block, a.off + 1, none⟩ = some (.int .u32 x) := by simpa [Addr.add] using hxl
          have HS := Lib.hid (show val 4294967296 (xs.take (1 + 1)) = val 4294967296 (xs.take 1) + x * 4294967296 by rw [hs.out, Int.mul_comm x])
          clear hs
          generalize val 4294967296 (xs.take 1) = v at *
          go_wp2
          go_round
          case rel => exact ⟨1 + 1, by omega, rfl, by rw [HS.out]⟩
          case measure => simp [intOf]; omega
      · obtain rfl : k = m := by omega
        have HT := Lib.hid (show val 4294967296 (xs.take k) = val 4294967296 xs by rw [← HM.out, List.take_length])
        go_wp2
        go_ret2
        rw [HL.out, HB.out, ← HT.out]
        exact ⟨rfl, rfl⟩
  · have HV := Lib.hid (fun h => h2 (hF.2 h))
    have HL := Lib.hid (show low64 (val 4294967296 xs) = 0 by unfold low64; rw [if_neg HV.out])
    have HB := Lib.hid (show fits64 (val 4294967296 xs) = false from decide_eq_false HV.out)
    clear hF
    have h3 : (2 : Int) < (m : Int) := by omega
    go_enter Tryd.func124, Tryd.ntmps124
    go_wp2_with fail
    refine (hc.out).mono ?_
    rintro e w' ⟨rfl, rfl⟩
    go_wp2
    go_ret2
    rw [HL.out, HB.out]
    exact ⟨rfl, rfl⟩
end Go.Proofs.YtmnabilgpndjmaaDoor

/- crucibleref01.Cmp: -1, 0 or 1. -/
namespace Go.Proofs.YtmnabilgpndjmaaDoor
open Go.RowKit
set_option maxHeartbeats 1000000 in
theorem rcmp_calls (ad bd : Option Addr) (na nb ca cb : Nat) (la lb : List Int) (w : World) (hna : na ≤ 1099511627776) (hnb : nb ≤ 1099511627776)
    (ha : Rds w .u32 ad na la) (hb : Rds w .u32 bd nb lb) (da : Dig 4294967296 la) (db : Dig 4294967296 lb) :
    Calls Tryd.prog 109 #[.slice ad na ca, .slice bd nb cb] w (RetIB (cmpI (val 4294967296 la) (val 4294967296 lb)) w) := by
  have l1 := bytes_len ha.len da
  have l2 := bytes_len hb.len db
  have C1 := Lib.hid (bytes_calls ad na ca la w (by omega) ha da)
  have C2 := Lib.hid (fun (w1 : World) (h : Below w.heap.size w w1) => bytes_calls bd nb cb lb w1 (by omega) (hb.below h (Nat.le_refl _)) db)
  have vx := Lib.hid (val_dg 256 (by omega) (val 4294967296 la) (val_nonneg (by omega) da))
  have vz := Lib.hid (val_dg 256 (by omega) (val 4294967296 lb) (val_nonneg (by omega) db))
  have nx := Lib.hid (norm_dg 256 (by omega) (val 4294967296 la))
  have nz := Lib.hid (norm_dg 256 (by omega) (val 4294967296 lb))
  have dx : Dig 256 (dg 256 (val 4294967296 la)) := dg_dig 256 (by omega) _
  have dz : Dig 256 (dg 256 (val 4294967296 lb)) := dg_dig 256 (by omega) _
  clear ha hb da db
  generalize dg 256 (val 4294967296 la) = xs at *
  generalize dg 256 (val 4294967296 lb) = zs at *
  have eR : cmpI (val 4294967296 la) (val 4294967296 lb) = cmpI (val 256 xs) (val 256 zs) := by
    rw [show val 256 xs = val 4294967296 la from vx.out, show val 256 zs = val 4294967296 lb from vz.out]
  rw [eR]
  clear eR
  go_enter Tryd.func109, Tryd.ntmps109
  go_wp2_with fail
  refine (C1.out).mono ?_
  rintro e w1 ⟨xd, m, cx, rfl, ox, b1⟩
  have C2' := Lib.hid (C2.out w1 b1)
  clear C2 C1
  go_wp2_with fail
  refine (C2'.out).mono ?_
  rintro e w2 ⟨zd, n, cz, rfl, oz, b2⟩
  clear C2'
  have rx := (ox.below b2 (Nat.le_refl _)).rds
  have rz := oz.rds
  have BB := below_trans b1 b2
  have HM := Lib.hid rx.len
  have HN := Lib.hid rz.len
  rw [HM.out] at l1
  rw [HN.out] at l2
  clear ox oz b1 b2
  by_cases hmn : m = n
  · subst hmn
    go_wp2
    go_loopw [7] (fun i wr => ∃ j : Nat, j ≤ m ∧ i = .int .i64 ((j : Int) - 1) ∧ Hid (val 256 (xs.drop j) = val 256 (zs.drop j)) ∧ Hid (∃ q, wr = w2.drewN q)) (fun i _ => (intOf i + 1).toNat)
    case atStart => exact ⟨m, Nat.le_refl _, rfl, by rw [List.drop_of_length_le (by rw [HM.out]; exact Nat.le_refl _), List.drop_of_length_le (by rw [HN.out]; exact Nat.le_refl _)]; rfl, ⟨0, rfl⟩⟩
    case round =>
      obtain ⟨j, hj, rfl, hv, hq⟩ := hrel
      have rx' : Rds wr .i64 xd m xs := by obtain ⟨q, rfl⟩ := hq.out; exact rx.drewN q
      have rz' : Rds wr .i64 zd m zs := by obtain ⟨q, rfl⟩ := hq.out; exact rz.drewN q
      have BW : Below w.heap.size w wr := by obtain ⟨q, rfl⟩ := hq.out; exact below_drewN BB q
      by_cases hj0 : 0 < j
      · obtain ⟨j, rfl⟩ : ∃ i, j = i + 1 := ⟨j - 1, by omega⟩
        obtain ⟨a, rfl, hxl⟩ := rx'.cell j (by omega)
        obtain ⟨b, rfl, hzl⟩ := rz'.cell j (by omega)
        have L1 := Lib.hid (fun h : xs[j]?.getD 0 < zs[j]?.getD 0 => lt_at (b := 256) (by omega) dx dz j (by rw [HM.out]; omega) (by rw [HN.out]; omega) hv.out h)
        have L2 := Lib.hid (fun h : zs[j]?.getD 0 < xs[j]?.getD 0 => lt_at (b := 256) (by omega) dz dx j (by rw [HN.out]; omega) (by rw [HM.out]; omega) hv.out.symm h)
        have E := Lib.hid (fun h : xs[j]?.getD 0 = zs[j]?.getD 0 => show val 256 (xs.drop j) = val 256 (zs.drop j) by
          rw [val_drop _ xs _ (by rw [HM.out]; omega), val_drop _ zs _ (by rw [HN.out]; omega), h, hv.out])
        clear hv rx rz rx' rz'
        have ej : (((j + 1 : Nat) : Int) - 1) = (j : Int) := by omega
        rw [ej]
        clear ej
        have hi0 : (0 : Int) ≤ (j : Int) := by omega
        have hi1 : (j : Int) < m := by omega
        generalize hgx : xs[j]?.getD 0 = x at *
        generalize hgz : zs[j]?.getD 0 = z at *
        clear hgx hgz
        by_cases hxz : x = z
        · subst hxz
          have ht : (x != x) = false := by simp
          go_wp2_with fail
          go_quiet (fail)
          go_wp2
          go_roundw
          case rel => exact ⟨j, by omega, rfl, E.out trivial, by obtain ⟨q, rfl⟩ := hq.out; exact ⟨_, World.drewN_drewN ..⟩⟩
          case measure => simp [intOf]
        · have ht : (x != z) = true := by simp; exact hxz
          have HR := Lib.hid (show cmpI (val 256 xs) (val 256 zs) = if x < z then -1 else 1 by
            split
            · rename_i h; exact cmpI_lt (L1.out h)
            · rename_i h; exact cmpI_gt (L2.out (by omega)))
          clear hxz
          go_wp2_with fail
          go_quiet (fail)
          have hxl2 : (wr.drewN nq).cell? (a.add j) = some (.int .i64 x) := hxl
          have hzl2 : (wr.drewN nq).cell? (b.add j) = some (.int .i64 z) := hzl
          have BW2 := below_drewN BW nq
          generalize wr.drewN nq = w3 at *
          by_cases hlt : x < z
          · go_wp2_with fail
            go_quiet (fail)
            go_wp2
            go_ret
            rw [HR.out, if_pos hlt]
            exact ⟨rfl, below_drewN BW2 _⟩
          · have hlt2 : decide (x < z) = false := decide_eq_false hlt
            go_wp2_with fail
            go_quiet (fail)
            go_wp2
            go_ret
            rw [HR.out, if_neg (of_decide_eq_false (by simpa using hlt2))]
            exact ⟨rfl, below_drewN BW2 _⟩
      · obtain rfl : j = 0 := by omega
        have HR := Lib.hid (cmpI_eq (show val 256 xs = val 256 zs by have := hv.out; simpa using this))
        go_wp2
        go_ret
        rw [HR.out]
        exact ⟨rfl, BW⟩
  · have ht : ((m : Int) != (n : Int)) = true := by simp; omega
    have HR := Lib.hid (show cmpI (val 256 xs) (val 256 zs) = if (m : Int) < n then -1 else 1 by
      split
      · exact cmpI_lt (lt_of_len (by omega) dx dz nz.out (by rw [HM.out, HN.out]; omega))
      · exact cmpI_gt (lt_of_len (by omega) dz dx nx.out (by rw [HM.out, HN.out]; omega)))
    clear hmn
    by_cases hlt : (m : Int) < n
    · go_wp2
      go_ret
      rw [HR.out, if_pos (by omega)]
      exact ⟨rfl, BB⟩
    · go_wp2
      go_ret
      rw [HR.out, if_neg (by omega)]
      exact ⟨rfl, BB⟩
end Go.Proofs.YtmnabilgpndjmaaDoor

/- nat.Add: the sum. -/
namespace Go.Proofs.YtmnabilgpndjmaaDoor
open Go.RowKit

def AddR (w : World) (xs zs : List Int) (n i : Nat) (c : Int) (wr : World) : Prop :=
  ∃ ys, Blk wr w.heap.size 76 .u32 ys ∧ ys.length = n + 1 ∧ Dig 4294967296 ys ∧ Below w.heap.size w wr ∧ 0 ≤ c ∧ c ≤ 1 ∧
    val 4294967296 (ys.take i) + c * 4294967296 ^ i = val 4294967296 (xs.take i) + val 4294967296 (zs.take i)

set_option maxHeartbeats 1000000 in
/-- The longer one may stand behind the shorter one. -/
theorem add_core (sw : Bool) (xd zd : Option Addr) (n m cx cz : Nat) (xs zs : List Int) (w : World) (hn : n ≤ 70368744177663) (hm : m ≤ n) (hsw : sw = true → m < n) (hxc : n ≤ cx) (hzc : m ≤ cz)
    (hx : Rds w .u32 xd n xs) (hz : Rds w .u32 zd m zs) (dx : Dig 4294967296 xs) (dz : Dig 4294967296 zs) :
    Calls Tryd.prog 35 (if sw then #[.slice zd m cz, .slice xd n cx] else #[.slice xd n cx, .slice zd m cz]) w (RetL 76 .u32 (dg 4294967296 (val 4294967296 xs + val 4294967296 zs)) w) := by
  have HX := Lib.hid hx.len
  have HZ := Lib.hid hz.len
  have hmk := make_rule (P := Tryd.prog) 33 76 .u32 4 Tryd.underlying33 info_limb (by omega) (n + 1) (by omega) ((n : Int) + 1) (by omega)
  have hr0 : AddR w xs zs n 0 0 (w.alloc (.cells (nums .u32 (List.replicate (n + 1) 0)).toArray 76)) :=
    ⟨_, Blk.made _ _ _ _ _ rfl, by simp, Dig.replicate _ (by omega) _, (Below.refl _ _).alloc (Nat.le_refl _) _, by omega, by omega, by simp [val]⟩
  cases sw
  all_goals
    have hlt := hsw
    clear hsw
    simp only [if_true, if_false, Bool.false_eq_true]
    first
      | (have hlt2 := hlt rfl; clear hlt)
      | (have hlt2 : ¬ n < m := by omega)
    go_enter Tryd.func35, Tryd.ntmps35
    go_wp2
    clear hmk
    go_loopw [22, 6] (fun i cy wr => ∃ k : Nat, ∃ c : Int, k ≤ n ∧ i = .int .i64 k ∧ cy = .int .u32 c ∧ AddR w xs zs n k c wr) (fun i _ _ => n - (intOf i).toNat)
    case atStart => exact ⟨0, 0, Nat.zero_le _, rfl, rfl, hr0⟩
    case round =>
      clear hr0
      obtain ⟨k, c, hk, rfl, rfl, ys, h1, h2, h3, h4, hc0, hc1, h5⟩ := hrel
      have H2 := Lib.hid h2
      have H5 := Lib.hid h5
      clear h2 h5
      by_cases hkn : k < n
      · obtain ⟨a, rfl, hxl⟩ := (hx.below h4 (Nat.le_refl _)).cell k hkn
        have hf := h1.free k
        have hy := h1.cell k (by rw [H2.out]; omega)
        have HS := Lib.hid (add_step 4294967296 xs zs ys k (by rw [H2.out]; omega) c _ rfl H5.out)
        clear H5
        have bx := dx.get (by omega) k
        have bz := dz.get (by omega) k
        by_cases hkm : k < m
        · obtain ⟨b, rfl, hzl⟩ := (hz.below h4 (Nat.le_refl _)).cell k hkm
          have ha := Lib.hid (add32_calls (xs[k]?.getD 0) (zs[k]?.getD 0) c wr bx bz (by omega))
          generalize xs[k]?.getD 0 = x at *
          generalize zs[k]?.getD 0 = z at *
          go_wp2_with fail
          refine (ha.out).mono ?_
          rintro e w' ⟨rfl, rfl⟩
          clear ha
          go_wp2
          go_roundw
          case rel => exact ⟨k + 1, _, by omega, by go_num, rfl, _, h1.set k _, by simp [H2.out], h3.set (by omega) (by omega) _, below_set h4 _ _ _ (Nat.le_refl _), by omega, by omega, HS.out⟩
          case measure => simp [intOf]; omega
        · have hz0 : zs[k]?.getD 0 = 0 := by rw [List.getElem?_eq_none (by rw [HZ.out]; omega)]; rfl
          have ha := Lib.hid (add32_calls (xs[k]?.getD 0) 0 c wr bx (by omega) (by omega))
          rw [hz0, Int.add_zero] at HS
          clear hz0 bz
          generalize xs[k]?.getD 0 = x at *
          go_wp2_with fail
          refine (ha.out).mono ?_
          rintro e w' ⟨rfl, rfl⟩
          clear ha
          go_wp2
          go_roundw
          case rel => exact ⟨k + 1, _, by omega, by go_num, rfl, _, h1.set k _, by simp [H2.out], h3.set (by omega) (by omega) _, below_set h4 _ _ _ (Nat.le_refl _), by omega, by omega, HS.out⟩
          case measure => simp [intOf]; omega
      · obtain rfl : k = n := by omega
        have hf := h1.free k
        have hy := h1.cell k (by rw [H2.out]; omega)
        have k2 := h1.set k c
        have b2 := below_set h4 w.heap.size k (.int .u32 c) (Nat.le_refl _)
        have d2 := h3.set hc0 (show c < 4294967296 by omega) k
        have HV := Lib.hid (add_end 4294967296 xs zs ys k HX.out (by rw [HZ.out]; exact hm) H2.out c H5.out)
        have hcut := Lib.hid (cut_calls (some ⟨w.heap.size, 0, none⟩) (k + 1) (k + 1) _ _ (by omega) (Nat.le_refl _) (by have := k2.rds; rwa [List.length_set, H2.out] at this))
        have R := Lib.hid (k2.ret (Nat.le_refl _) (by rw [List.length_set, H2.out]; omega) d2 _ HV.out b2)
        go_wp2_with fail
        refine (hcut.out).mono ?_
        rintro e w' ⟨rfl, rfl⟩
        go_wp2_with fail
        go_ret
        exact R.out

theorem add_calls (ad bd : Option Addr) (na nb ca cb : Nat) (la lb : List Int) (w : World) (hna : na ≤ 70368744177663) (hnb : nb ≤ 70368744177663) (hac : na ≤ ca) (hbc : nb ≤ cb)
    (ha : Rds w .u32 ad na la) (hb : Rds w .u32 bd nb lb) (da : Dig 4294967296 la) (db : Dig 4294967296 lb) :
    Calls Tryd.prog 35 #[.slice ad na ca, .slice bd nb cb] w (RetL 76 .u32 (dg 4294967296 (val 4294967296 la + val 4294967296 lb)) w) := by
  by_cases h : na < nb
  · rw [Int.add_comm]
    exact add_core true bd ad nb na cb ca lb la w hnb (by omega) (fun _ => h) hbc hac hb ha db da
  · exact add_core false ad bd na nb ca cb la lb w hna (by omega) (fun h => by cases h) hac hbc ha hb da db
end Go.Proofs.YtmnabilgpndjmaaDoor
