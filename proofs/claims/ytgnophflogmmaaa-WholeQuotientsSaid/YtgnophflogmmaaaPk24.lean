/- Contracts of functions, and plain facts, part 24. -/
import Derived.Test.YtgnophflogmmaaaProg
import Derived.BigRegion
import Derived.Test.YtgnophflogmmaaaPk1
import Derived.Test.YtgnophflogmmaaaPk2
import Derived.Test.YtgnophflogmmaaaPk3
import Derived.Test.YtgnophflogmmaaaPk4
import Derived.Test.YtgnophflogmmaaaPk21
set_option linter.unusedVariables false
set_option linter.unusedSimpArgs false
/- crucibleref01.power: 2 to the n. -/
namespace Go.Proofs.Ytgnophflogmmaaa
open Go.RowKit

theorem power_calls (n : Nat) (h : n < 8) (w : World) :
    Calls Try.prog 108 #[.int .i64 n] w fun e w' => e = .returned (.int .i64 (2 ^ n)) ∧ w = w' := by
  have hix : ∀ w, (Instr.index 116 (.agg #[.int .i64 1, .int .i64 2, .int .i64 4, .int .i64 8, .int .i64 16, .int .i64 32, .int .i64 64, .int .i64 128]) (.int .i64 n)).run Try.prog w = .ok (.int .i64 (2 ^ n)) w := by
    intro w
    rcases (show n = 0 ∨ n = 1 ∨ n = 2 ∨ n = 3 ∨ n = 4 ∨ n = 5 ∨ n = 6 ∨ n = 7 by omega) with rfl | rfl | rfl | rfl | rfl | rfl | rfl | rfl <;> kernel_rfl
  go_enter Try.func108, Try.ntmps108
  go_wp2
  go_ret
  exact ⟨rfl, rfl⟩
end Go.Proofs.Ytgnophflogmmaaa

/- crucibleref01.Cmp: -1, 0 or 1. -/
namespace Go.Proofs.Ytgnophflogmmaaa
open Go.RowKit
set_option maxHeartbeats 1000000 in
theorem rcmp_calls (ad bd : Option Addr) (na nb ca cb : Nat) (la lb : List Int) (w : World) (hna : na ≤ 1099511627776) (hnb : nb ≤ 1099511627776)
    (ha : Rds w .u32 ad na la) (hb : Rds w .u32 bd nb lb) (da : Dig 4294967296 la) (db : Dig 4294967296 lb) :
    Calls Try.prog 76 #[.slice ad na ca, .slice bd nb cb] w (RetIB (cmpI (val 4294967296 la) (val 4294967296 lb)) w) := by
  have l1 := bytes_len ha.len da
  have l2 := bytes_len hb.len db
  have C1 := Lib.hid (bytes_calls ad na ca la w (by omega) ha da)
  have C2 := Lib.hid (fun (w1 : World) (h : Below w.heap.size w w1) => bytes_calls bd nb cb lb w1 (by omega) (hb.below h (Nat.le_refl _)) db)
  have vx := Lib.hid (val_dg 256 (by omega) (val 4294967296 la) (val_nonneg (by omega) da))
  have vz := Lib.hid (val_dg 256 (by omega) (val 4294967296 lb) (val_nonneg (by omega) db))
  have nx := Lib.hid (norm_dg 256 (by omega) (val 4294967296 la))
  have nz := Lib.hid (norm_dg 256 (by omega) (val 4294967296 lb))
  have dx : Dig 256 (dg 256 (val 4294967296 la)) := dg_dig 256 (by omega) _
  have dz : Dig 256 (dg 256 (val 4294967296 lb)) := dg_dig 256 (by omega) _
  clear ha hb da db
  generalize dg 256 (val 4294967296 la) = xs at *
  generalize dg 256 (val 4294967296 lb) = zs at *
  have eR : cmpI (val 4294967296 la) (val 4294967296 lb) = cmpI (val 256 xs) (val 256 zs) := by
    rw [show val 256 xs = val 4294967296 la from vx.out, show val 256 zs = val 4294967296 lb from vz.out]
  rw [eR]
  clear eR
  go_enter Try.func76, Try.ntmps76
  go_wp2_with fail
  refine (C1.out).mono ?_
  rintro e w1 ⟨xd, m, cx, rfl, ox, b1⟩
  have C2' := Lib.hid (C2.out w1 b1)
  clear C2 C1
  go_wp2_with fail
  refine (C2'.out).mono ?_
  rintro e w2 ⟨zd, n, cz, rfl, oz, b2⟩
  clear C2'
  have rx := (ox.below b2 (Nat.le_refl _)).rds
  have rz := oz.rds
  have BB := below_trans b1 b2
  have HM := Lib.hid rx.len
  have HN := Lib.hid rz.len
  rw [HM.out] at l1
  rw [HN.out] at l2
  clear ox oz b1 b2
  by_cases hmn : m = n
  · subst hmn
    go_wp2
    go_loopw [7] (fun i wr => ∃ j : Nat, j ≤ m ∧ i = .int .i64 ((j : Int) - 1) ∧ Hid (val 256 (xs.drop j) = val 256 (zs.drop j)) ∧ Hid (∃ q, wr = w2.drewN q)) (fun i _ => (intOf i + 1).toNat)
    case atStart => exact ⟨m, Nat.le_refl _, rfl, by rw [List.drop_of_length_le (by rw [HM.out]; exact Nat.le_refl _), List.drop_of_length_le (by rw [HN.out]; exact Nat.le_refl _)]; rfl, ⟨0, rfl⟩⟩
    case round =>
      obtain ⟨j, hj, rfl, hv, hq⟩ := hrel
      have rx' : Rds wr .i64 xd m xs := by obtain ⟨q, rfl⟩ := hq.out; exact rx.drewN q
      have rz' : Rds wr .i64 zd m zs := by obtain ⟨q, rfl⟩ := hq.out; exact rz.drewN q
      have BW : Below w.heap.size w wr := by obtain ⟨q, rfl⟩ := hq.out; exact below_drewN BB q
      by_cases hj0 : 0 < j
      · obtain ⟨j, rfl⟩ : ∃ i, j = i + 1 := ⟨j - 1, by omega⟩
        obtain ⟨a, rfl, hxl⟩ := rx'.cell j (by omega)
        obtain ⟨b, rfl, hzl⟩ := rz'.cell j (by omega)
        have L1 := Lib.hid (fun h : xs[j]?.getD 0 < zs[j]?.getD 0 => lt_at (b := 256) (by omega) dx dz j (by rw [HM.out]; omega) (by rw [HN.out]; omega) hv.out h)
        have L2 := Lib.hid (fun h : zs[j]?.getD 0 < xs[j]?.getD 0 => lt_at (b := 256) (by omega) dz dx j (by rw [HN.out]; omega) (by rw [HM.out]; omega) hv.out.symm h)
        have E := Lib.hid (fun h : xs[j]?.getD 0 = zs[j]?.getD 0 => show val 256 (xs.drop j) = val 256 (zs.drop j) by
          rw [val_drop _ xs _ (by rw [HM.out]; omega), val_drop _ zs _ (by rw [HN.out]; omega), h, hv.out])
        clear hv rx rz rx' rz'
        have ej : (((j + 1 : Nat) : Int) - 1) = (j : Int) := by omega
        rw [ej]
        clear ej
        have hi0 : (0 : Int) ≤ (j : Int) := by omega
        have hi1 : (j : Int) < m := by omega
        generalize hgx : xs[j]?.getD 0 = x at *
        generalize hgz : zs[j]?.getD 0 = z at *
        clear hgx hgz
        by_cases hxz : x = z
        · subst hxz
          have ht : (x != x) = false := by simp
          go_wp2_with fail
          go_quiet (fail)
          go_wp2
          go_roundw
          case rel => exact ⟨j, by omega, rfl, E.out trivial, by obtain ⟨q, rfl⟩ := hq.out; exact ⟨_, World.drewN_drewN ..⟩⟩
          case measure => simp [intOf]
        · have ht : (x != z) = true := by simp; exact hxz
          have HR := Lib.hid (show cmpI (val 256 xs) (val 256 zs) = if x < z then -1 else 1 by
            split
            · rename_i h; exact cmpI_lt (L1.out h)
            · rename_i h; exact cmpI_gt (L2.out (by omega)))
          clear hxz
          go_wp2_with fail
          go_quiet (fail)
          have hxl2 : (wr.drewN nq).cell? (a.add j) = some (.int .i64 x) := hxl
          have hzl2 : (wr.drewN nq).cell? (b.add j) = some (.int .i64 z) := hzl
          have BW2 := below_drewN BW nq
          generalize wr.drewN nq = w3 at *
          by_cases hlt : x < z
          · go_wp2_with fail
            go_quiet (fail)
            go_wp2
            go_ret
            rw [HR.out, if_pos hlt]
            exact ⟨rfl, below_drewN BW2 _⟩
          · have hlt2 : decide (x < z) = false := decide_eq_false hlt
            go_wp2_with fail
            go_quiet (fail)
            go_wp2
            go_ret
            rw [HR.out, if_neg (of_decide_eq_false (by simpa using hlt2))]
            exact ⟨rfl, below_drewN BW2 _⟩
      · obtain rfl : j = 0 := by omega
        have HR := Lib.hid (cmpI_eq (show val 256 xs = val 256 zs by have := hv.out; simpa using this))
        go_wp2
        go_ret
        rw [HR.out]
        exact ⟨rfl, BW⟩
  · have ht : ((m : Int) != (n : Int)) = true := by simp; omega
    have HR := Lib.hid (show cmpI (val 256 xs) (val 256 zs) = if (m : Int) < n then -1 else 1 by
      split
      · exact cmpI_lt (lt_of_len (by omega) dx dz nz.out (by rw [HM.out, HN.out]; omega))
      · exact cmpI_gt (lt_of_len (by omega) dz dx nx.out (by rw [HM.out, HN.out]; omega)))
    clear hmn
    by_cases hlt : (m : Int) < n
    · go_wp2
      go_ret
      rw [HR.out, if_pos (by omega)]
      exact ⟨rfl, BB⟩
    · go_wp2
      go_ret
      rw [HR.out, if_neg (by omega)]
      exact ⟨rfl, BB⟩
end Go.Proofs.Ytgnophflogmmaaa

/- crucibleref01.Mul: what the call answers. -/
namespace Go.Proofs.Ytgnophflogmmaaa
open Go.RowKit

def RMulR (w : World) (xs zs : List Int) (i : Nat) (wr : World) : Prop :=
  ∃ ys, Blk wr w.heap.size 3 .i64 ys ∧ ys.length = xs.length + zs.length + 1 ∧ Dig 256 ys ∧ Below w.heap.size w wr ∧ val 256 ys = val 256 (xs.take i) * val 256 zs
def RMulI (w : World) (xs zs : List Int) (i k : Nat) (c : Int) (wr : World) : Prop :=
  ∃ ys, Blk wr w.heap.size 3 .i64 ys ∧ ys.length = xs.length + zs.length + 1 ∧ Dig 256 ys ∧ Below w.heap.size w wr ∧ 0 ≤ c ∧ c < 256 ∧
    val 256 ys + c * 256 ^ (i + k) = val 256 (xs.take i) * val 256 zs + xs[i]?.getD 0 * 256 ^ i * val 256 (zs.take k)
def RMulC (w : World) (xs zs : List Int) (i p : Nat) (c : Int) (wr : World) : Prop :=
  ∃ ys, Blk wr w.heap.size 3 .i64 ys ∧ ys.length = xs.length + zs.length + 1 ∧ Dig 256 ys ∧ Below w.heap.size w wr ∧ 0 ≤ c ∧ c < 256 ∧
    val 256 ys + c * 256 ^ p = val 256 (xs.take (i + 1)) * val 256 zs

theorem mul_bound8 {x z o c : Int} (hx0 : 0 ≤ x) (hx1 : x < 256) (hz0 : 0 ≤ z) (hz1 : z < 256) (ho0 : 0 ≤ o) (ho1 : o < 256) (hc0 : 0 ≤ c) (hc1 : c < 256) :
    0 ≤ x * z ∧ x * z ≤ 65025 := by
  have h1 := Int.mul_nonneg hx0 hz0
  have h2 : x * z ≤ 255 * 255 := Int.mul_le_mul (by omega) (by omega) hz0 (by omega)
  omega

set_option maxHeartbeats 1000000 in
/-- crucibleref01.Mul: the product. -/
theorem rmul_calls (ad bd : Option Addr) (na nb ca cb : Nat) (la lb : List Int) (w : World) (hl : na + nb ≤ 1099511627776) 
    (ha : Rds w .u32 ad na la) (hb : Rds w .u32 bd nb lb) (da : Dig 4294967296 la) (db : Dig 4294967296 lb) :
    Calls Try.prog 79 #[.slice ad na ca, .slice bd nb cb] w (RetL 78 .u32 (dg 4294967296 (val 4294967296 la * val 4294967296 lb)) w) := by
  have l1 := bytes_len ha.len da
  have l2 := bytes_len hb.len db
  have C1 := Lib.hid (bytes_calls ad na ca la w (by omega) ha da)
  have C2 := Lib.hid (fun (w1 : World) (h : Below w.heap.size w w1) => bytes_calls bd nb cb lb w1 (by omega) (hb.below h (Nat.le_refl _)) db)
  have vx := Lib.hid (val_dg 256 (by omega) (val 4294967296 la) (val_nonneg (by omega) da))
  have vz := Lib.hid (val_dg 256 (by omega) (val 4294967296 lb) (val_nonneg (by omega) db))
  have dx : Dig 256 (dg 256 (val 4294967296 la)) := dg_dig 256 (by omega) _
  have dz : Dig 256 (dg 256 (val 4294967296 lb)) := dg_dig 256 (by omega) _
  clear ha hb da db
  generalize dg 256 (val 4294967296 la) = xs at *
  generalize dg 256 (val 4294967296 lb) = zs at *
  go_enter Try.func79, Try.ntmps79
  go_wp2_with fail
  refine (C1.out).mono ?_
  rintro e w1 ⟨xd, m, cx, rfl, ox, b1⟩
  have C2' := Lib.hid (C2.out w1 b1)
  clear C2 C1
  go_wp2_with fail
  refine (C2'.out).mono ?_
  rintro e w2 ⟨zd, n, cz, rfl, oz, b2⟩
  clear C2'
  have rx := (ox.below b2 (Nat.le_refl _)).rds
  have rz := oz.rds
  have BB := below_trans b1 b2
  have HM := Lib.hid rx.len
  have HN := Lib.hid rz.len
  rw [HM.out] at l1
  rw [HN.out] at l2
  clear ox oz b1 b2
  have hmk := make_rule (P := Try.prog) 94 3 .i64 8 Try.underlying94 info_int (by omega) (m + n + 1) (by omega) ((m : Int) + n + 1) (by omega)
  go_wp2_with fail
  clear hmk
  have hr0 : RMulR w2 xs zs 0 (w2.alloc (.cells (nums .i64 (List.replicate (m + n + 1) 0)).toArray 3)) :=
    ⟨_, Blk.made _ _ _ _ _ rfl, by rw [HM.out, HN.out]; simp, Dig.replicate _ (by omega) _, (Below.refl _ _).alloc (Nat.le_refl _) _, by simp [val, val_replicate]⟩
  go_loopw [8] (fun i wr => ∃ k : Nat, k ≤ m ∧ i = .int .i64 k ∧ RMulR w2 xs zs k wr) (fun i _ => m - (intOf i).toNat)
  case atStart => exact ⟨0, Nat.zero_le _, rfl, hr0⟩
  case round =>
    obtain ⟨i, hi, rfl, hR⟩ := hrel
    clear hr0
    by_cases him : i < m
    · have hI0 : RMulI w2 xs zs i 0 0 wr := by
        obtain ⟨ys, h1, h2, h3, h4, h5⟩ := hR
        exact ⟨ys, h1, h2, h3, h4, by omega, by omega, by simp [h5, val]⟩
      clear hR
      go_wp2
      go_loopw [10, 9] (fun j cy wr => ∃ k : Nat, ∃ c : Int, k ≤ n ∧ j = .int .i64 k ∧ cy = .int .i64 c ∧ RMulI w2 xs zs i k c wr) (fun j _ _ => n - (intOf j).toNat)
      case atStart => exact ⟨0, 0, Nat.zero_le _, rfl, rfl, hI0⟩
      case round =>
        clear hI0
        obtain ⟨k, c, hk, rfl, rfl, ys, h1, h2, h3, h4, hc0, hc1, h5⟩ := hrel
        have H2 := Lib.hid h2
        have H5 := Lib.hid h5
        have hlen : ys.length = m + n + 1 := by rw [h2, HM.out, HN.out]
        have HL := Lib.hid hlen
        clear h2 h5 hlen
        by_cases hkn : k < n
        · obtain ⟨a, rfl, hxl⟩ := (rx.below h4 (Nat.le_refl _)).cell i him
          obtain ⟨b, rfl, hzl⟩ := (rz.below h4 (Nat.le_refl _)).cell k hkn
          have hy := h1.cell (i + k) (by rw [HL.out]; omega)
          have hf := h1.free (i + k)
          have S := mul_step 256 ys (i + k) (by rw [HL.out]; omega) _ c (xs[i]?.getD 0 * zs[k]?.getD 0) rfl
          have bx := dx.get (by omega) i
          have bz := dz.get (by omega) k
          have bo := h3.get (by omega) (i + k)
          have bb := mul_bound8 (o := ys[i + k]?.getD 0) bx.1 bx.2 bz.1 bz.2 bo.1 bo.2 hc0 hc1
          have N := mul_inner 256 _ _ zs ys _ i k (by rw [HN.out]; exact hkn) c _ H5.out S
          have HS := Lib.hid N
          clear S N H5
          generalize hgx : xs[i]?.getD 0 = x at *
          have HX := Lib.hid hgx
          clear hgx
          generalize zs[k]?.getD 0 = z at *
          generalize hgy : ys[i + k]?.getD 0 = y at *
          have HY := Lib.hid hgy
          clear hgy
          generalize ht : x * z = t at *
          have HT := Lib.hid ht
          clear ht
          obtain ⟨bt0, bt1⟩ := bb
          have W1 : IntKind.i64.wrap ((i : Int) + k) = (i : Int) + k := IntWalk.i64_in _ (by omega)
          have W2 : IntKind.i64.wrap (x * z) = t := by rw [HT.out]; exact IntWalk.i64_in _ (by omega)
          have W3 : IntKind.i64.wrap (y + t) = y + t := IntWalk.i64_in _ (by omega)
          have W4 : IntKind.i64.wrap (y + t + c) = c + (t + y) := by rw [show y + t + c = c + (t + y) by omega]; exact IntWalk.i64_in _ (by omega)
          have W5 : ((i : Int) + k).toNat = i + k := by omega
          have W6 : (0 : Int) ≤ (i : Int) + k := by omega
          go_wp2_with fail
          go_quiet (fail)
          clear W1 W2 W3 W4 W5 W6
          go_wp2
          go_roundw
          case rel =>
            refine ⟨k + 1, _, by omega, by go_num, rfl, _, (h1.drewN nq).set (i + k) _, by simp [H2.out], h3.set (by omega) (by omega) _, below_set (below_drewN h4 nq) _ _ _ (Nat.le_refl _), by omega, by omega, by rw [HX.out]; exact HS.out⟩
          case measure => simp [intOf]; omega
        · obtain rfl : k = n := by omega
          have hC0 : RMulC w2 xs zs i (i + k) c wr := ⟨ys, h1, H2.out, h3, h4, hc0, hc1, mul_outer_carry 256 xs zs ys i k (by rw [HM.out]; exact him) HN.out.symm c H5.out⟩
          clear h1 h3 h4 H5 H2 HL hc0 hc1
          go_wp2
          go_loopw [12, 9] (fun j cy wr => ∃ p : Nat, ∃ c : Int, p ≤ m + k + 1 ∧ j = .int .i64 p ∧ cy = .int .i64 c ∧ RMulC w2 xs zs i p c wr) (fun j _ _ => m + k + 1 - (intOf j).toNat)
          case atStart => exact ⟨i + k, c, by omega, by go_num, rfl, hC0⟩
          case round =>
            clear hC0
            obtain ⟨p, c2, hp, rfl, rfl, es, g1, g2, g3, g4, gc0, gc1, g5⟩ := hrel
            have G2 := Lib.hid g2
            have hlen : es.length = m + k + 1 := by rw [g2, HM.out, HN.out]
            have HL := Lib.hid hlen
            by_cases hc : 0 < c2
            · have hpl := carry_place 256 (by omega) xs zs es i p c2 dx dz g3 hc (by rw [HM.out]; exact him) g5
              rw [HN.out] at hpl
              have hy := g1.cell p (by rw [HL.out]; omega)
              have hf := g1.free p
              have bo := g3.get (by omega) p
              have S := mul_step 256 es p (by rw [HL.out]; omega) (es[p]?.getD 0 + c2) c2 0 (by omega)
              rw [Int.zero_mul, Int.add_zero, g5] at S
              have HS := Lib.hid S
              clear S g2 g5 hlen
              generalize es[p]?.getD 0 = y at *
              go_wp2
              go_roundw
              case rel =>
                exact ⟨p + 1, _, by omega, by go_num, rfl, _, g1.set p _, by simp [G2.out], g3.set (by omega) (by omega) _, below_set g4 _ _ _ (Nat.le_refl _), by omega, by omega, HS.out⟩
              case measure => simp [intOf]; omega
            · obtain rfl : c2 = 0 := by omega
              have G5 := Lib.hid (show val 256 es = val 256 (xs.take (i + 1)) * val 256 zs by rw [← g5]; simp)
              clear g2 g5 hlen
              go_wp2
              go_roundw
              case rel => exact ⟨i + 1, by omega, by go_num, es, g1, G2.out, g3, g4, G5.out⟩
              case measure => simp [intOf]; omega
    · obtain rfl : i = m := by omega
      obtain ⟨ys, h1, h2, h3, h4, h5⟩ := hR
      have hlen : ys.length = i + n + 1 := by rw [h2, HM.out, HN.out]
      have hv : val 256 ys = val 4294967296 la * val 4294967296 lb := by rw [h5, ← HM.out, List.take_length]; exact congr (congrArg _ vx.out) vz.out
      have HV := Lib.hid hv
      have hk := limbs_calls (some ⟨w2.heap.size, 0, none⟩) (i + n + 1) (i + n + 1) ys wr (by omega) (Nat.le_refl _) (by have := h1.rds; rwa [hlen] at this) h3
      clear h2 h5 hlen hv
      rw [HV.out] at hk
      go_wp2_with fail
      refine hk.mono ?_
      rintro e w' hr
      have hr' := hr.after (below_trans BB h4)
      obtain ⟨rd, nr, cr, rfl, or, br⟩ := hr'
      go_wp2_with fail
      go_ret
      exact ⟨_, _, _, rfl, or, br⟩
end Go.Proofs.Ytgnophflogmmaaa

/- crucibleref01.at, Add: the sum. -/
namespace Go.Proofs.Ytgnophflogmmaaa
open Go.RowKit

theorem at_calls (ad : Option Addr) (n c : Nat) (xs : List Int) (j : Nat) (w : World) (hn : n ≤ 9223372036854775807) (hr : Rds w .i64 ad n xs) :
    Calls Try.prog 98 #[.slice ad n c, .int .i64 j] w fun e w' => e = .returned (.int .i64 (xs[j]?.getD 0)) ∧ w = w' := by
  by_cases hj : j < n
  · obtain ⟨a, rfl, hxl⟩ := hr.cell j hj
    clear hr
    generalize xs[j]?.getD 0 = x at *
    go_enter Try.func98, Try.ntmps98
    go_wp2
    go_ret
    exact ⟨rfl, rfl⟩
  · have h0 := Lib.hid (show xs[j]?.getD 0 = 0 by rw [List.getElem?_eq_none (by rw [hr.len]; omega)]; rfl)
    clear hr
    go_enter Try.func98, Try.ntmps98
    go_wp2
    go_ret
    rw [h0.out]
    exact ⟨rfl, rfl⟩

def RAddR (w : World) (xs zs : List Int) (k : Nat) (c : Int) (v : Value) (wr : World) : Prop :=
  ∃ ad cp ds, v = .slice ad k cp ∧ App w.heap.size wr 3 .i64 ad k cp ds ∧ Dig 256 ds ∧ Below w.heap.size w wr ∧ w.heap.size ≤ wr.heap.size ∧ 0 ≤ c ∧ c ≤ 1 ∧
    val 256 ds + c * 256 ^ k = val 256 (xs.take k) + val 256 (zs.take k)

theorem radd_step (xs zs ds : List Int) (k : Nat) (hk : ds.length = k) (c T : Int) (hT : T = xs[k]?.getD 0 + zs[k]?.getD 0 + c)
    (E : val 256 ds + c * 256 ^ k = val 256 (xs.take k) + val 256 (zs.take k)) :
    val 256 (ds ++ [T % 256]) + (T / 256) * 256 ^ (k + 1) = val 256 (xs.take (k + 1)) + val 256 (zs.take (k + 1)) := by
  rw [val_snoc, hk, val_take_succ', val_take_succ', Int.pow_succ]
  have h := Int.emod_add_mul_ediv T 256
  generalize xs[k]?.getD 0 = x at *
  generalize zs[k]?.getD 0 = z at *
  generalize T / 256 = q at *
  generalize T % 256 = r at *
  generalize (256 : Int) ^ k = P at *
  generalize val 256 ds = Y at *
  generalize val 256 (xs.take k) = X at *
  generalize val 256 (zs.take k) = Z at *
  have e : r = x + z + c - 256 * q := by omega
  subst e
  grind

set_option maxHeartbeats 1000000 in
theorem radd_calls (ad bd : Option Addr) (na nb ca cb : Nat) (la lb : List Int) (w : World) (hna : na ≤ 1099511627776) (hnb : nb ≤ 1099511627776)
    (ha : Rds w .u32 ad na la) (hb : Rds w .u32 bd nb lb) (da : Dig 4294967296 la) (db : Dig 4294967296 lb) :
    Calls Try.prog 77 #[.slice ad na ca, .slice bd nb cb] w (RetL 78 .u32 (dg 4294967296 (val 4294967296 la + val 4294967296 lb)) w) := by
  have l1 := bytes_len ha.len da
  have l2 := bytes_len hb.len db
  have C1 := Lib.hid (bytes_calls ad na ca la w (by omega) ha da)
  have C2 := Lib.hid (fun (w1 : World) (h : Below w.heap.size w w1) => bytes_calls bd nb cb lb w1 (by omega) (hb.below h (Nat.le_refl _)) db)
  have vx := Lib.hid (val_dg 256 (by omega) (val 4294967296 la) (val_nonneg (by omega) da))
  have vz := Lib.hid (val_dg 256 (by omega) (val 4294967296 lb) (val_nonneg (by omega) db))
  have dx : Dig 256 (dg 256 (val 4294967296 la)) := dg_dig 256 (by omega) _
  have dz : Dig 256 (dg 256 (val 4294967296 lb)) := dg_dig 256 (by omega) _
  clear ha hb da db
  generalize dg 256 (val 4294967296 la) = xs at *
  generalize dg 256 (val 4294967296 lb) = zs at *
  go_enter Try.func77, Try.ntmps77
  go_wp2_with fail
  refine (C1.out).mono ?_
  rintro e w1 ⟨xd, m, cx, rfl, ox, b1⟩
  have C2' := Lib.hid (C2.out w1 b1)
  clear C2 C1
  go_wp2_with fail
  refine (C2'.out).mono ?_
  rintro e w2 ⟨zd, n, cz, rfl, oz, b2⟩
  clear C2'
  have rx := (ox.below b2 (Nat.le_refl _)).rds
  have rz := oz.rds
  have BB := below_trans b1 b2
  have HM := Lib.hid rx.len
  have HN := Lib.hid rz.len
  rw [HM.out] at l1
  rw [HN.out] at l2
  clear ox oz b1 b2
  obtain ⟨M, hM1, hM2, hM3⟩ : ∃ M, m ≤ M ∧ n ≤ M ∧ M ≤ 4398046511104 := ⟨max m n, Nat.le_max_left _ _, Nat.le_max_right _ _, by omega⟩
  have hr0 : RAddR w2 xs zs 0 0 (.slice none 0 0) w2 := ⟨none, 0, [], rfl, App.nil _ _ _ _, Dig.nil _, Below.refl _ _, Nat.le_refl _, by omega, by omega, by simp [val]⟩
  go_wp2_with fail
  go_loopw [9, 8, 7] (fun i cy v wr => ∃ k : Nat, ∃ c : Int, k ≤ M + 1 ∧ (k ≤ M ∨ c = 0) ∧ i = .int .i64 k ∧ cy = .int .i64 c ∧ RAddR w2 xs zs k c v wr) (fun i _ _ _ => M + 1 - (intOf i).toNat)
  case atStart => exact ⟨0, 0, by omega, .inr rfl, rfl, rfl, hr0⟩
  case round =>
    clear hr0
    obtain ⟨k, c, hk, hkc, rfl, rfl, ad3, c3, ds, rfl, g1, g2, g3, g4, g5, g6, g7⟩ := hrel
    have H7 := Lib.hid g7
    have HKC := Lib.hid hkc
    clear g7 hkc
    by_cases hgo : k < m ∨ k < n ∨ 0 < c
    · have hkM : k ≤ M := by rcases HKC.out with h | h <;> omega
      have rx' := rx.below g3 (Nat.le_refl _)
      have rz' := rz.below g3 (Nat.le_refl _)
      have a1 := Lib.hid (at_calls xd m cx xs k wr (by omega) rx')
      have a2 := Lib.hid (at_calls zd n cz zs k wr (by omega) rz')
      have bx := dx.get (by omega) k
      have bz := dz.get (by omega) k
      have HE := Lib.hid (radd_step xs zs ds k g1.len c (xs[k]?.getD 0 + zs[k]?.getD 0 + c) rfl H7.out)
      have HC := Lib.hid (show (k + 1 ≤ M ∨ (xs[k]?.getD 0 + zs[k]?.getD 0 + c) / 256 = 0) by
        rcases Nat.lt_or_ge k M with h | h
        · exact .inl h
        · refine .inr ?_
          rw [List.getElem?_eq_none (by rw [HM.out]; omega), List.getElem?_eq_none (by rw [HN.out]; omega)]
          simp
          omega)
      clear rx' rz' H7 HKC
      generalize xs[k]?.getD 0 = x at *
      generalize zs[k]?.getD 0 = z at *
      have fin : ∀ w3 ad4 c4, App w2.heap.size w3 3 .i64 ad4 (k + 1) c4 (ds ++ [(x + z + c) % 256]) → Below w2.heap.size w2 w3 → w2.heap.size ≤ w3.heap.size → RAddR w2 xs zs (k + 1) ((x + z + c) / 256) (.slice ad4 (k + 1) c4) w3 :=
        fun w3 ad4 c4 h1 h2 h3 => ⟨ad4, c4, _, rfl, h1, g2.append (Dig.cons (by omega) (by omega) (Dig.nil _)), h2, h3, by omega, by omega, HE.out⟩
      have FIN := Lib.hid fin
      clear fin
      by_cases t1 : k < m
      case pos =>
        clear hgo
        go_wp2_with fail
        refine (a1.out).mono ?_
        rintro e w' ⟨rfl, rfl⟩
        go_wp2_with fail
        refine (a2.out).mono ?_
        rintro e w' ⟨rfl, rfl⟩
        go_wp2_with (at_builtin; refine app_one w2.heap.size rfl (.tmp 40) (.tmp 43) 94 3 .i64 8 rfl Try.underlying94 info_int (by omega) ad3 k c3 ds ((x + z + c) % 256) rfl rfl g1 g3 g4 (by omega) ?_; intro ad4 c4 w4 k1 k2 k3)
        go_roundw
        case rel => exact ⟨k + 1, _, by omega, HC.out, by go_num, rfl, FIN.out _ _ _ k1 k2 k3⟩
        case measure => simp [intOf]; omega
      case neg =>
        by_cases t2 : k < n
        case pos =>
          clear hgo
          go_wp2_with fail
          refine (a1.out).mono ?_
          rintro e w' ⟨rfl, rfl⟩
          go_wp2_with fail
          refine (a2.out).mono ?_
          rintro e w' ⟨rfl, rfl⟩
          go_wp2_with (at_builtin; refine app_one w2.heap.size rfl (.tmp 40) (.tmp 43) 94 3 .i64 8 rfl Try.underlying94 info_int (by omega) ad3 k c3 ds ((x + z + c) % 256) rfl rfl g1 g3 g4 (by omega) ?_; intro ad4 c4 w4 k1 k2 k3)
          go_roundw
          case rel => exact ⟨k + 1, _, by omega, HC.out, by go_num, rfl, FIN.out _ _ _ k1 k2 k3⟩
          case measure => simp [intOf]; omega
        case neg =>
          have t3 : 0 < c := by omega
          clear hgo
          go_wp2_with fail
          refine (a1.out).mono ?_
          rintro e w' ⟨rfl, rfl⟩
          go_wp2_with fail
          refine (a2.out).mono ?_
          rintro e w' ⟨rfl, rfl⟩
          go_wp2_with (at_builtin; refine app_one w2.heap.size rfl (.tmp 40) (.tmp 43) 94 3 .i64 8 rfl Try.underlying94 info_int (by omega) ad3 k c3 ds ((x + z + c) % 256) rfl rfl g1 g3 g4 (by omega) ?_; intro ad4 c4 w4 k1 k2 k3)
          go_roundw
          case rel => exact ⟨k + 1, _, by omega, HC.out, by go_num, rfl, FIN.out _ _ _ k1 k2 k3⟩
          case measure => simp [intOf]; omega
    · have t1 : ¬ k < m := by omega
      have t2 : ¬ k < n := by omega
      obtain rfl : c = 0 := by omega
      clear hgo
      have hv : val 256 ds = val 4294967296 la + val 4294967296 lb := by
        have := H7.out
        rw [List.take_of_length_le (by rw [HM.out]; omega), List.take_of_length_le (by rw [HN.out]; omega)] at this
        rw [show val 256 xs = val 4294967296 la from vx.out, show val 256 zs = val 4294967296 lb from vz.out] at this
        simpa using this
      have hl := limbs_calls ad3 k c3 ds wr (by omega) g1.own.le g1.rds g2
      rw [hv] at hl
      have HL := Lib.hid hl
      clear hv hl
      go_wp2_with fail
      refine (HL.out).mono ?_
      rintro e w' hr
      obtain ⟨rd, nr, cr, rfl, or, br⟩ := hr.after (below_trans BB g3)
      go_wp2_with fail
      go_ret
      exact ⟨_, _, _, rfl, or, br⟩
end Go.Proofs.Ytgnophflogmmaaa

/- RMul by worth alone. -/
namespace Go.Proofs.Ytgnophflogmmaaa
open Go.RowKit

theorem num_rmul (ad bd : Option Addr) (n m c d : Nat) (V U : Int) (w : World) (h : Num w ad n c V) (k : Num w bd m d U) (hn : n ≤ 549755813888) (hm : m ≤ 549755813888) :
    Calls Try.prog 79 #[.slice ad n c, .slice bd m d] w (RetC (V * U) w) := by
  obtain ⟨xs, h1, h2, rfl⟩ := h.row
  obtain ⟨zs, k1, k2, rfl⟩ := k.row
  exact (rmul_calls ad bd n m c d xs zs w (by omega) h1 k1 h2 k2).mono fun e w' q => q.can
end Go.Proofs.Ytgnophflogmmaaa

/- RCmp by worth alone. -/
namespace Go.Proofs.Ytgnophflogmmaaa
open Go.RowKit

theorem num_rcmp (ad bd : Option Addr) (n m c d : Nat) (V U : Int) (w : World) (h : Num w ad n c V) (k : Num w bd m d U) (hn : n ≤ 1099511627776) (hm : m ≤ 1099511627776) :
    Calls Try.prog 76 #[.slice ad n c, .slice bd m d] w (RetIB (cmpI V U) w) := by
  obtain ⟨xs, h1, h2, rfl⟩ := h.row
  obtain ⟨zs, k1, k2, rfl⟩ := k.row
  exact (rcmp_calls ad bd n m c d xs zs w (by omega) (by omega) h1 k1 h2 k2).mono fun e w' q => q
end Go.Proofs.Ytgnophflogmmaaa

/- crucibleref01.Len: how many bits it has. -/
namespace Go.Proofs.Ytgnophflogmmaaa
open Go.RowKit
theorem rlen_calls (ad : Option Addr) (n c : Nat) (la : List Int) (w : World) (hn : n ≤ 1099511627776) (hr : Rds w .u32 ad n la) (da : Dig 4294967296 la) :
    Calls Try.prog 64 #[.slice ad n c] w fun e w' => e = .returned (.int .i64 (bitsOf (val 4294967296 la))) ∧ Below w.heap.size w w' := by
  have l1 := bytes_len hr.len da
  have C1 := Lib.hid (bytes_calls ad n c la w (by omega) hr da)
  have V0 := val_nonneg (b := 4294967296) (by omega) da
  have vx := Lib.hid (val_dg 256 (by omega) (val 4294967296 la) V0)
  have nx := Lib.hid (norm_dg 256 (by omega) (val 4294967296 la))
  have dx : Dig 256 (dg 256 (val 4294967296 la)) := dg_dig 256 (by omega) _
  clear hr da
  generalize dg 256 (val 4294967296 la) = xs at *
  generalize val 4294967296 la = V at *
  go_enter Try.func64, Try.ntmps64
  go_wp2_with fail
  refine (C1.out).mono ?_
  rintro e w1 ⟨xd, m, cx, rfl, ox, b1⟩
  have rx := ox.rds
  have HM := Lib.hid ox.len
  rw [HM.out] at l1
  clear C1 ox
  by_cases h0 : m = 0
  · subst h0
    have HB := Lib.hid (show bitsOf V = 0 by
      have e : xs = [] := List.eq_nil_of_length_eq_zero HM.out
      have e0 : val 256 xs = V := vx.out
      rw [← e0, e]
      rfl)
    go_wp2
    go_ret
    rw [HB.out]
    exact ⟨rfl, b1⟩
  · obtain ⟨t, rfl⟩ : ∃ t, m = t + 1 := ⟨m - 1, by omega⟩
    have bx := dx.get (by omega) t
    have HB := Lib.hid (show bitsOf V = 8 * (t : Int) + (blen (xs[t]?.getD 0).toNat : Nat) by
      have e0 : val 256 xs = V := vx.out
      unfold bitsOf
      rw [← e0, blen_list 8 256 (by decide) xs dx nx.out t HM.out]
      simp)
    clear h0
    obtain ⟨a, rfl, hxl⟩ := rx.cell t (by omega)
    generalize xs[t]?.getD 0 = x at *
    have hmm : ((((t + 1 : Nat) : Int)) == 0) = false := by simp; omega
    go_wp2
    go_loop [4, 5] (fun s p => ∃ q : Int, ∃ y : Int, 0 ≤ y ∧ y ≤ x ∧ 0 ≤ q ∧ q ≤ 8 * (t : Int) + x ∧ s = .int .i64 q ∧ p = .int .i64 y ∧ Hid (q + (blen y.toNat : Nat) = bitsOf V) ∧ Hid (q + y ≤ 8 * (t : Int) + x)) (fun _ p => (intOf p).toNat)
    case atStart => exact ⟨8 * (t : Int), x, by omega, by omega, by omega, by omega, rfl, rfl, HB.out.symm, Int.le_refl _⟩
    case round =>
      obtain ⟨q, y, hy0, hy1, hq0, hq1, rfl, rfl, hs, hs2⟩ := hrel
      by_cases hy : 0 < y
      · have HS := Lib.hid (show (q + 1) + (blen (y / 2).toNat : Nat) = bitsOf V by
          have := hs.out
          rw [blen_half y.toNat (by omega)] at this
          rw [show (y / 2).toNat = y.toNat / 2 by omega]
          omega)
        have h3 := hs2.out
        go_wp2
        go_round
        case rel => exact ⟨q + 1, y / 2, by omega, by omega, by omega, by omega, rfl, rfl, HS.out, by show q + 1 + y / 2 ≤ _; omega⟩
        case measure => simp [intOf]; omega
      · obtain rfl : y = 0 := by omega
        have HS := Lib.hid (show q = bitsOf V by have := hs.out; simpa [blen] using this)
        clear HB hs
        go_wp2
        go_ret
        rw [← HS.out]
        exact ⟨rfl, b1⟩
end Go.Proofs.Ytgnophflogmmaaa

/- RAdd by worth alone. -/
namespace Go.Proofs.Ytgnophflogmmaaa
open Go.RowKit

theorem num_radd (ad bd : Option Addr) (n m c d : Nat) (V U : Int) (w : World) (h : Num w ad n c V) (k : Num w bd m d U) (hn : n ≤ 1099511627776) (hm : m ≤ 1099511627776) :
    Calls Try.prog 77 #[.slice ad n c, .slice bd m d] w (RetC (V + U) w) := by
  obtain ⟨xs, h1, h2, rfl⟩ := h.row
  obtain ⟨zs, k1, k2, rfl⟩ := k.row
  exact (radd_calls ad bd n m c d xs zs w (by omega) (by omega) h1 k1 h2 k2).mono fun e w' q => q.can
end Go.Proofs.Ytgnophflogmmaaa

/- crucibleref01.Sub: the difference, or that there is none. -/
namespace Go.Proofs.Ytgnophflogmmaaa
open Go.RowKit

def RSubR (w : World) (xs zs : List Int) (k : Nat) (c : Int) (v : Value) (wr : World) : Prop :=
  ∃ ad cp ds, v = .slice ad k cp ∧ App w.heap.size wr 3 .i64 ad k cp ds ∧ Dig 256 ds ∧ Below w.heap.size w wr ∧ w.heap.size ≤ wr.heap.size ∧ 0 ≤ c ∧ c ≤ 1 ∧
    val 256 ds + val 256 (zs.take k) = val 256 (xs.take k) + c * 256 ^ k

theorem rsub_step (xs zs ds : List Int) (k : Nat) (hk : ds.length = k) (c D c' : Int) (hD : D = xs[k]?.getD 0 - zs[k]?.getD 0 - c + c' * 256)
    (E : val 256 ds + val 256 (zs.take k) = val 256 (xs.take k) + c * 256 ^ k) :
    val 256 (ds ++ [D]) + val 256 (zs.take (k + 1)) = val 256 (xs.take (k + 1)) + c' * 256 ^ (k + 1) := by
  rw [val_snoc, hk, val_take_succ', val_take_succ', Int.pow_succ]
  generalize xs[k]?.getD 0 = x at *
  generalize zs[k]?.getD 0 = z at *
  generalize (256 : Int) ^ k = P at *
  generalize val 256 ds = Y at *
  generalize val 256 (xs.take k) = X at *
  generalize val 256 (zs.take k) = Z at *
  subst hD
  grind

set_option maxHeartbeats 1000000 in
theorem rsub_calls (ad bd : Option Addr) (na nb ca cb : Nat) (la lb : List Int) (w : World) (hna : na ≤ 1099511627776) (hnb : nb ≤ 1099511627776)
    (ha : Rds w .u32 ad na la) (hb : Rds w .u32 bd nb lb) (da : Dig 4294967296 la) (db : Dig 4294967296 lb) :
    Calls Try.prog 78 #[.slice ad na ca, .slice bd nb cb] w (RetLB 78 .u32 (dg 4294967296 (val 4294967296 la - val 4294967296 lb)) (decide (val 4294967296 lb ≤ val 4294967296 la)) w) := by
  have hc := Lib.hid (rcmp_calls ad bd na nb ca cb la lb w hna hnb ha hb da db)
  by_cases hle : val 4294967296 lb ≤ val 4294967296 la
  · have hcn : ¬ (cmpI (val 4294967296 la) (val 4294967296 lb)) < 0 := by unfold cmpI; split <;> (try split) <;> omega
    have HD := Lib.hid (decide_eq_true hle)
    have HLE := Lib.hid hle
    generalize cmpI (val 4294967296 la) (val 4294967296 lb) = cc at *
    have l1 := bytes_len ha.len da
    have l2 := bytes_len hb.len db
    have C1 := Lib.hid (fun (w1 : World) (h : Below w.heap.size w w1) => bytes_calls ad na ca la w1 (by omega) (ha.below h (Nat.le_refl _)) da)
    have C2 := Lib.hid (fun (w1 : World) (h : Below w.heap.size w w1) => bytes_calls bd nb cb lb w1 (by omega) (hb.below h (Nat.le_refl _)) db)
    have vx := Lib.hid (val_dg 256 (by omega) (val 4294967296 la) (val_nonneg (by omega) da))
    have vz := Lib.hid (val_dg 256 (by omega) (val 4294967296 lb) (val_nonneg (by omega) db))
    have nz := Lib.hid (norm_dg 256 (by omega) (val 4294967296 lb))
    have dx : Dig 256 (dg 256 (val 4294967296 la)) := dg_dig 256 (by omega) _
    have dz : Dig 256 (dg 256 (val 4294967296 lb)) := dg_dig 256 (by omega) _
    clear ha hb da db hle
    generalize dg 256 (val 4294967296 la) = xs at *
    generalize dg 256 (val 4294967296 lb) = zs at *
    have hle2 : zs.length ≤ xs.length := by
      rcases Nat.lt_or_ge xs.length zs.length with h | h
      · have := lt_of_len (b := 256) (by omega) dx dz nz.out h
        rw [show val 256 xs = val 4294967296 la from vx.out, show val 256 zs = val 4294967296 lb from vz.out] at this
        have := HLE.out
        omega
      · exact h
    go_enter Try.func78, Try.ntmps78
    go_wp2_with fail
    refine (hc.out).mono ?_
    rintro e w0 ⟨rfl, b0⟩
    have C1' := Lib.hid (C1.out w0 b0)
    clear C1 hc
    go_wp2_with fail
    refine (C1'.out).mono ?_
    rintro e w1 ⟨xd, m, cx, rfl, ox, b1⟩
    have b01 := below_trans b0 b1
    have C2' := Lib.hid (C2.out w1 b01)
    clear C2 C1'
    go_wp2_with fail
    refine (C2'.out).mono ?_
    rintro e w2 ⟨zd, n, cz, rfl, oz, b2⟩
    clear C2'
    have rx := (ox.below b2 (Nat.le_refl _)).rds
    have rz := oz.rds
    have BB := below_trans b01 b2
    have HM := Lib.hid rx.len
    have HN := Lib.hid rz.len
    rw [HM.out] at l1 hle2
    rw [HN.out] at l2 hle2
    clear ox oz b1 b2 b0 b01
    have hr0 : RSubR w2 xs zs 0 0 (.slice none 0 0) w2 := ⟨none, 0, [], rfl, App.nil _ _ _ _, Dig.nil _, Below.refl _ _, Nat.le_refl _, by omega, by omega, by simp [val]⟩
    go_wp2_with fail
    go_loopw [10, 9, 8] (fun i cy v wr => ∃ k : Nat, ∃ c : Int, k ≤ m ∧ i = .int .i64 k ∧ cy = .int .i64 c ∧ RSubR w2 xs zs k c v wr) (fun i _ _ _ => m - (intOf i).toNat)
    case atStart => exact ⟨0, 0, by omega, rfl, rfl, hr0⟩
    case round =>
      clear hr0
      obtain ⟨k, c, hk, rfl, rfl, ad3, c3, ds, rfl, g1, g2, g3, g4, g5, g6, g7⟩ := hrel
      have H7 := Lib.hid g7
      clear g7
      by_cases hkm : k < m
      · obtain ⟨a, rfl, hxl⟩ := (rx.below g3 (Nat.le_refl _)).cell k hkm
        have a2 := Lib.hid (fun w3 (h : Rds w3 .i64 zd n zs) => at_calls zd n cz zs k w3 (by omega) h)
        have rz' := rz.below g3 (Nat.le_refl _)
        have bx := dx.get (by omega) k
        have bz := dz.get (by omega) k
        have HE := Lib.hid (fun D c' hD => rsub_step xs zs ds k g1.len c D c' hD H7.out)
        clear H7
        generalize xs[k]?.getD 0 = x at *
        generalize zs[k]?.getD 0 = z at *
        have W1 : IntKind.i64.wrap (x - z) = x - z := IntWalk.i64_in _ (by omega)
        have W2 : IntKind.i64.wrap (x - z - c) = x - z - c := IntWalk.i64_in _ (by omega)
        go_wp2_with fail
        go_quiet ((go_at_call 98; exact quiet_left (a2.out _ (rz'.drewN _))))
        clear W1 W2
        have g1' := g1.drewN nq
        have g3' := below_drewN g3 nq
        have g4' : w2.heap.size ≤ (wr.drewN nq).heap.size := g4
        clear g1 g3 g4 a2 rz' hxl
        generalize wr.drewN nq = w3 at *
        by_cases hs : x - z - c < 0
        · go_wp2_with (at_builtin; refine app_one w2.heap.size rfl (.tmp 40) (.tmp 42) 94 3 .i64 8 rfl Try.underlying94 info_int (by omega) ad3 k c3 ds (x - z - c + 256) rfl rfl g1' g3' g4' (by omega) ?_; intro ad4 c4 w4 k1 k2 k3)
          go_roundw
          case rel => exact ⟨k + 1, 1, by omega, by go_num, rfl, ad4, c4, _, rfl, k1, g2.append (Dig.cons (by omega) (by omega) (Dig.nil _)), k2, k3, by omega, by omega, HE.out _ 1 (by omega)⟩
          case measure => simp [intOf]; omega
        · go_wp2_with (at_builtin; refine app_one w2.heap.size rfl (.tmp 40) (.tmp 42) 94 3 .i64 8 rfl Try.underlying94 info_int (by omega) ad3 k c3 ds (x - z - c) rfl rfl g1' g3' g4' (by omega) ?_; intro ad4 c4 w4 k1 k2 k3)
          go_roundw
          case rel => exact ⟨k + 1, 0, by omega, by go_num, rfl, ad4, c4, _, rfl, k1, g2.append (Dig.cons (by omega) (by omega) (Dig.nil _)), k2, k3, by omega, by omega, HE.out _ 0 (by omega)⟩
          case measure => simp [intOf]; omega
      · obtain rfl : k = m := by omega
        have hv : val 256 ds = val 4294967296 la - val 4294967296 lb := by
          have h1 := sub_end 256 (by omega) xs zs ds k g2 HM.out (by rw [HN.out]; exact hle2) g1.len c g5 (by rw [show val 256 xs = val 4294967296 la from vx.out, show val 256 zs = val 4294967296 lb from vz.out]; exact HLE.out)
            (by rw [List.take_of_length_le (show ds.length ≤ k by rw [g1.len]; exact Nat.le_refl _)]; exact H7.out)
          rw [show val 256 xs = val 4294967296 la from vx.out, show val 256 zs = val 4294967296 lb from vz.out] at h1
          exact h1
        have hl := limbs_calls ad3 k c3 ds wr (by omega) g1.own.le g1.rds g2
        rw [hv] at hl
        have HL := Lib.hid hl
        clear hv hl
        go_wp2_with fail
        refine (HL.out).mono ?_
        rintro e w' hr
        obtain ⟨rd, nr, cr, rfl, or, br⟩ := hr.after (below_trans BB g3)
        go_wp2_with fail
        go_ret2
        rw [HD.out]
        exact ⟨_, _, _, rfl, or, br⟩
  · have hcn : (cmpI (val 4294967296 la) (val 4294967296 lb)) < 0 := by unfold cmpI; split <;> omega
    have HD := Lib.hid (decide_eq_false hle)
    have HZ := Lib.hid (show dg 4294967296 (val 4294967296 la - val 4294967296 lb) = [] by
      unfold dg
      rw [digs_nil _ _ (by omega)]
      omega)
    generalize cmpI (val 4294967296 la) (val 4294967296 lb) = cc at *
    clear hle
    go_enter Try.func78, Try.ntmps78
    go_wp2_with fail
    refine (hc.out).mono ?_
    rintro e w' ⟨rfl, b0⟩
    go_wp2
    go_ret2
    rw [HD.out, HZ.out]
    exact ⟨none, 0, 0, rfl, Own.nil _ _ _ _ _, b0⟩
end Go.Proofs.Ytgnophflogmmaaa
