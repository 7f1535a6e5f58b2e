/- crucibleref01.Cmp: -1, 0 or 1. -/
import Derived.Test.YtemllpbpnndgeaaBytes
import Derived.Test.YtemllpbpnndgeaaDigLen
import Derived.Test.YtemllpbpnndgeaaCmpI
import Derived.Test.YtemllpbpnndgeaaRetLB
set_option linter.unusedVariables false
set_option linter.unusedSimpArgs false
namespace Go.Proofs.Ytemllpbpnndgeaa
open Go.RowKit
set_option maxHeartbeats 1000000 in
theorem rcmp_calls (ad bd : Option Addr) (na nb ca cb : Nat) (la lb : List Int) (w : World) (hna : na ≤ 1099511627776) (hnb : nb ≤ 1099511627776)
    (ha : Rds w .u32 ad na la) (hb : Rds w .u32 bd nb lb) (da : Dig 4294967296 la) (db : Dig 4294967296 lb) :
    Calls Try.prog 35 #[.slice ad na ca, .slice bd nb cb] w (RetIB (cmpI (val 4294967296 la) (val 4294967296 lb)) w) := by
  have l1 := bytes_len ha.len da
  have l2 := bytes_len hb.len db
  have C1 := Lib.hid (bytes_calls ad na ca la w (by omega) ha da)
  have C2 := Lib.hid (fun (w1 : World) (h : Below w.heap.size w w1) => bytes_calls bd nb cb lb w1 (by omega) (hb.below h (Nat.le_refl _)) db)
  have vx := Lib.hid (val_dg 256 (by omega) (val 4294967296 la) (val_nonneg (by omega) da))
  have vz := Lib.hid (val_dg 256 (by omega) (val 4294967296 lb) (val_nonneg (by omega) db))
  have nx := Lib.hid (norm_dg 256 (by omega) (val 4294967296 la))
  have nz := Lib.hid (norm_dg 256 (by omega) (val 4294967296 lb))
  have dx : Dig 256 (dg 256 (val 4294967296 la)) := dg_dig 256 (by omega) _
  have dz : Dig 256 (dg 256 (val 4294967296 lb)) := dg_dig 256 (by omega) _
  clear ha hb da db
  generalize dg 256 (val 4294967296 la) = xs at *
  generalize dg 256 (val 4294967296 lb) = zs at *
  have eR : cmpI (val 4294967296 la) (val 4294967296 lb) = cmpI (val 256 xs) (val 256 zs) := by
    rw [show val 256 xs = val 4294967296 la from vx.out, show val 256 zs = val 4294967296 lb from vz.out]
  rw [eR]
  clear eR
  go_enter Try.func35, Try.ntmps35
  go_wp2_with fail
  refine (C1.out).mono ?_
  rintro e w1 ⟨xd, m, cx, rfl, ox, b1⟩
  have C2' := Lib.hid (C2.out w1 b1)
  clear C2 C1
  go_wp2_with fail
  refine (C2'.out).mono ?_
  rintro e w2 ⟨zd, n, cz, rfl, oz, b2⟩
  clear C2'
  have rx := (ox.below b2 (Nat.le_refl _)).rds
  have rz := oz.rds
  have BB := below_trans b1 b2
  have HM := Lib.hid rx.len
  have HN := Lib.hid rz.len
  rw [HM.out] at l1
  rw [HN.out] at l2
  clear ox oz b1 b2
  by_cases hmn : m = n
  · subst hmn
    go_wp2
    go_loopw [7] (fun i wr => ∃ j : Nat, j ≤ m ∧ i = .int .i64 ((j : Int) - 1) ∧ Hid (val 256 (xs.drop j) = val 256 (zs.drop j)) ∧ Hid (∃ q, wr = w2.drewN q)) (fun i _ => (intOf i + 1).toNat)
    case atStart => exact ⟨m, Nat.le_refl _, rfl, by rw [List.drop_of_length_le (by rw [HM.out]; exact Nat.le_refl _), List.drop_of_length_le (by rw [HN.out]; exact Nat.le_refl _)]; rfl, ⟨0, rfl⟩⟩
    case round =>
      obtain ⟨j, hj, rfl, hv, hq⟩ := hrel
      have rx' : Rds wr .i64 xd m xs := by obtain ⟨q, rfl⟩ := hq.out; exact rx.drewN q
      have rz' : Rds wr .i64 zd m zs := by obtain ⟨q, rfl⟩ := hq.out; exact rz.drewN q
      have BW : Below w.heap.size w wr := by obtain ⟨q, rfl⟩ := hq.out; exact below_drewN BB q
      by_cases hj0 : 0 < j
      · obtain ⟨j, rfl⟩ : ∃ i, j = i + 1 := ⟨j - 1, by omega⟩
        obtain ⟨a, rfl, hxl⟩ := rx'.cell j (by omega)
        obtain ⟨b, rfl, hzl⟩ := rz'.cell j (by omega)
        have L1 := Lib.hid (fun h : xs[j]?.getD 0 < zs[j]?.getD 0 => lt_at (b := 256) (by omega) dx dz j (by rw [HM.out]; omega) (by rw [HN.out]; omega) hv.out h)
        have L2 := Lib.hid (fun h : zs[j]?.getD 0 < xs[j]?.getD 0 => lt_at (b := 256) (by omega) dz dx j (by rw [HN.out]; omega) (by rw [HM.out]; omega) hv.out.symm h)
        have E := Lib.hid (fun h : xs[j]?.getD 0 = zs[j]?.getD 0 => show val 256 (xs.drop j) = val 256 (zs.drop j) by
          rw [val_drop _ xs _ (by rw [HM.out]; omega), val_drop _ zs _ (by rw [HN.out]; omega), h, hv.out])
        clear hv rx rz rx' rz'
        have ej : (((j + 1 : Nat) : Int) - 1) = (j : Int) := by omega
        rw [ej]
        clear ej
        have hi0 : (0 : Int) ≤ (j : Int) := by omega
        have hi1 : (j : Int) < m := by omega
        generalize hgx : xs[j]?.getD 0 = x at *
        generalize hgz : zs[j]?.getD 0 = z at *
        clear hgx hgz
        by_cases hxz : x = z
        · subst hxz
          have ht : (x != x) = false := by simp
          go_wp2_with fail
          go_quiet (fail)
          go_wp2
          go_roundw
          case rel => exact ⟨j, by omega, rfl, E.out trivial, by obtain ⟨q, rfl⟩ := hq.out; exact ⟨_, World.drewN_drewN ..⟩⟩
          case measure => simp [intOf]
        · have ht : (x != z) = true := by simp; exact hxz
          have HR := Lib.hid (show cmpI (val 256 xs) (val 256 zs) = if x < z then -1 else 1 by
            split
            · rename_i h; exact cmpI_lt (L1.out h)
            · rename_i h; exact cmpI_gt (L2.out (by omega)))
          clear hxz
          go_wp2_with fail
          go_quiet (fail)
          have hxl2 : (wr.drewN nq).cell? (a.add j) = some (.int .i64 x) := hxl
          have hzl2 : (wr.drewN nq).cell? (b.add j) = some (.int .i64 z) := hzl
          have BW2 := below_drewN BW nq
          generalize wr.drewN nq = w3 at *
          by_cases hlt : x < z
          · go_wp2_with fail
            go_quiet (fail)
            go_wp2
            go_ret
            rw [HR.out, if_pos hlt]
            exact ⟨rfl, below_drewN BW2 _⟩
          · have hlt2 : decide (x < z) = false := decide_eq_false hlt
            go_wp2_with fail
            go_quiet (fail)
            go_wp2
            go_ret
            rw [HR.out, if_neg (of_decide_eq_false (by simpa using hlt2))]
            exact ⟨rfl, below_drewN BW2 _⟩
      · obtain rfl : j = 0 := by omega
        have HR := Lib.hid (cmpI_eq (show val 256 xs = val 256 zs by have := hv.out; simpa using this))
        go_wp2
        go_ret
        rw [HR.out]
        exact ⟨rfl, BW⟩
  · have ht : ((m : Int) != (n : Int)) = true := by simp; omega
    have HR := Lib.hid (show cmpI (val 256 xs) (val 256 zs) = if (m : Int) < n then -1 else 1 by
      split
      · exact cmpI_lt (lt_of_len (by omega) dx dz nz.out (by rw [HM.out, HN.out]; omega))
      · exact cmpI_gt (lt_of_len (by omega) dz dx nx.out (by rw [HM.out, HN.out]; omega)))
    clear hmn
    by_cases hlt : (m : Int) < n
    · go_wp2
      go_ret
      rw [HR.out, if_pos (by omega)]
      exact ⟨rfl, BB⟩
    · go_wp2
      go_ret
      rw [HR.out, if_neg (by omega)]
      exact ⟨rfl, BB⟩
end Go.Proofs.Ytemllpbpnndgeaa
