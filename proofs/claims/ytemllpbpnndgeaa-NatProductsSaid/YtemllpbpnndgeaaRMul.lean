/- crucibleref01.Mul: what the call answers. -/
import Derived.Test.YtemllpbpnndgeaaBytes
import Derived.BigRegion
set_option linter.unusedVariables false
set_option linter.unusedSimpArgs false
namespace Go.Proofs.Ytemllpbpnndgeaa
open Go.RowKit

def RMulR (w : World) (xs zs : List Int) (i : Nat) (wr : World) : Prop :=
  ∃ ys, Blk wr w.heap.size 3 .i64 ys ∧ ys.length = xs.length + zs.length + 1 ∧ Dig 256 ys ∧ Below w.heap.size w wr ∧ val 256 ys = val 256 (xs.take i) * val 256 zs
def RMulI (w : World) (xs zs : List Int) (i k : Nat) (c : Int) (wr : World) : Prop :=
  ∃ ys, Blk wr w.heap.size 3 .i64 ys ∧ ys.length = xs.length + zs.length + 1 ∧ Dig 256 ys ∧ Below w.heap.size w wr ∧ 0 ≤ c ∧ c < 256 ∧
    val 256 ys + c * 256 ^ (i + k) = val 256 (xs.take i) * val 256 zs + xs[i]?.getD 0 * 256 ^ i * val 256 (zs.take k)
def RMulC (w : World) (xs zs : List Int) (i p : Nat) (c : Int) (wr : World) : Prop :=
  ∃ ys, Blk wr w.heap.size 3 .i64 ys ∧ ys.length = xs.length + zs.length + 1 ∧ Dig 256 ys ∧ Below w.heap.size w wr ∧ 0 ≤ c ∧ c < 256 ∧
    val 256 ys + c * 256 ^ p = val 256 (xs.take (i + 1)) * val 256 zs

theorem mul_bound8 {x z o c : Int} (hx0 : 0 ≤ x) (hx1 : x < 256) (hz0 : 0 ≤ z) (hz1 : z < 256) (ho0 : 0 ≤ o) (ho1 : o < 256) (hc0 : 0 ≤ c) (hc1 : c < 256) :
    0 ≤ x * z ∧ x * z ≤ 65025 := by
  have h1 := Int.mul_nonneg hx0 hz0
  have h2 : x * z ≤ 255 * 255 := Int.mul_le_mul (by omega) (by omega) hz0 (by omega)
  omega

set_option maxHeartbeats 1000000 in
/-- crucibleref01.Mul: the product. -/
theorem rmul_calls (ad bd : Option Addr) (na nb ca cb : Nat) (la lb : List Int) (w : World) (hl : na + nb ≤ 1099511627776) 
    (ha : Rds w .u32 ad na la) (hb : Rds w .u32 bd nb lb) (da : Dig 4294967296 la) (db : Dig 4294967296 lb) :
    Calls Try.prog 16 #[.slice ad na ca, .slice bd nb cb] w (RetL 28 .u32 (dg 4294967296 (val 4294967296 la * val 4294967296 lb)) w) := by
  have l1 := bytes_len ha.len da
  have l2 := bytes_len hb.len db
  have C1 := Lib.hid (bytes_calls ad na ca la w (by omega) ha da)
  have C2 := Lib.hid (fun (w1 : World) (h : Below w.heap.size w w1) => bytes_calls bd nb cb lb w1 (by omega) (hb.below h (Nat.le_refl _)) db)
  have vx := Lib.hid (val_dg 256 (by omega) (val 4294967296 la) (val_nonneg (by omega) da))
  have vz := Lib.hid (val_dg 256 (by omega) (val 4294967296 lb) (val_nonneg (by omega) db))
  have dx : Dig 256 (dg 256 (val 4294967296 la)) := dg_dig 256 (by omega) _
  have dz : Dig 256 (dg 256 (val 4294967296 lb)) := dg_dig 256 (by omega) _
  clear ha hb da db
  generalize dg 256 (val 4294967296 la) = xs at *
  generalize dg 256 (val 4294967296 lb) = zs at *
  go_enter Try.func16, Try.ntmps16
  go_wp2_with fail
  refine (C1.out).mono ?_
  rintro e w1 ⟨xd, m, cx, rfl, ox, b1⟩
  have C2' := Lib.hid (C2.out w1 b1)
  clear C2 C1
  go_wp2_with fail
  refine (C2'.out).mono ?_
  rintro e w2 ⟨zd, n, cz, rfl, oz, b2⟩
  clear C2'
  have rx := (ox.below b2 (Nat.le_refl _)).rds
  have rz := oz.rds
  have BB := below_trans b1 b2
  have HM := Lib.hid rx.len
  have HN := Lib.hid rz.len
  rw [HM.out] at l1
  rw [HN.out] at l2
  clear ox oz b1 b2
  have hmk := make_rule (P := Try.prog) 53 3 .i64 8 Try.underlying53 info_int (by omega) (m + n + 1) (by omega) ((m : Int) + n + 1) (by omega)
  go_wp2_with fail
  clear hmk
  have hr0 : RMulR w2 xs zs 0 (w2.alloc (.cells (nums .i64 (List.replicate (m + n + 1) 0)).toArray 3)) :=
    ⟨_, Blk.made _ _ _ _ _ rfl, by rw [HM.out, HN.out]; simp, Dig.replicate _ (by omega) _, (Below.refl _ _).alloc (Nat.le_refl _) _, by simp [val, val_replicate]⟩
  go_loopw [8] (fun i wr => ∃ k : Nat, k ≤ m ∧ i = .int .i64 k ∧ RMulR w2 xs zs k wr) (fun i _ => m - (intOf i).toNat)
  case atStart => exact ⟨0, Nat.zero_le _, rfl, hr0⟩
  case round =>
    obtain ⟨i, hi, rfl, hR⟩ := hrel
    clear hr0
    by_cases him : i < m
    · have hI0 : RMulI w2 xs zs i 0 0 wr := by
        obtain ⟨ys, h1, h2, h3, h4, h5⟩ := hR
        exact ⟨ys, h1, h2, h3, h4, by omega, by omega, by simp [h5, val]⟩
      clear hR
      go_wp2
      go_loopw [10, 9] (fun j cy wr => ∃ k : Nat, ∃ c : Int, k ≤ n ∧ j = .int .i64 k ∧ cy = .int .i64 c ∧ RMulI w2 xs zs i k c wr) (fun j _ _ => n - (intOf j).toNat)
      case atStart => exact ⟨0, 0, Nat.zero_le _, rfl, rfl, hI0⟩
      case round =>
        clear hI0
        obtain ⟨k, c, hk, rfl, rfl, ys, h1, h2, h3, h4, hc0, hc1, h5⟩ := hrel
        have H2 := Lib.hid h2
        have H5 := Lib.hid h5
        have hlen : ys.length = m + n + 1 := by rw [h2, HM.out, HN.out]
        have HL := Lib.hid hlen
        clear h2 h5 hlen
        by_cases hkn : k < n
        · obtain ⟨a, rfl, hxl⟩ := (rx.below h4 (Nat.le_refl _)).cell i him
          obtain ⟨b, rfl, hzl⟩ := (rz.below h4 (Nat.le_refl _)).cell k hkn
          have hy := h1.cell (i + k) (by rw [HL.out]; omega)
          have hf := h1.free (i + k)
          have S := mul_step 256 ys (i + k) (by rw [HL.out]; omega) _ c (xs[i]?.getD 0 * zs[k]?.getD 0) rfl
          have bx := dx.get (by omega) i
          have bz := dz.get (by omega) k
          have bo := h3.get (by omega) (i + k)
          have bb := mul_bound8 (o := ys[i + k]?.getD 0) bx.1 bx.2 bz.1 bz.2 bo.1 bo.2 hc0 hc1
          have N := mul_inner 256 _ _ zs ys _ i k (by rw [HN.out]; exact hkn) c _ H5.out S
          have HS := Lib.hid N
          clear S N H5
          generalize hgx : xs[i]?.getD 0 = x at *
          have HX := Lib.hid hgx
          clear hgx
          generalize zs[k]?.getD 0 = z at *
          generalize hgy : ys[i + k]?.getD 0 = y at *
          have HY := Lib.hid hgy
          clear hgy
          generalize ht : x * z = t at *
          have HT := Lib.hid ht
          clear ht
          obtain ⟨bt0, bt1⟩ := bb
          have W1 : IntKind.i64.wrap ((i : Int) + k) = (i : Int) + k := IntWalk.i64_in _ (by omega)
          have W2 : IntKind.i64.wrap (x * z) = t := by rw [HT.out]; exact IntWalk.i64_in _ (by omega)
          have W3 : IntKind.i64.wrap (y + t) = y + t := IntWalk.i64_in _ (by omega)
          have W4 : IntKind.i64.wrap (y + t + c) = c + (t + y) := by rw [show y + t + c = c + (t + y) by omega]; exact IntWalk.i64_in _ (by omega)
          have W5 : ((i : Int) + k).toNat = i + k := by omega
          have W6 : (0 : Int) ≤ (i : Int) + k := by omega
          go_wp2_with fail
          go_quiet (fail)
          clear W1 W2 W3 W4 W5 W6
          go_wp2
          go_roundw
          case rel =>
            refine ⟨k + 1, _, by omega, by go_num, rfl, _, (h1.drewN nq).set (i + k) _, by simp [H2.out], h3.set (by omega) (by omega) _, below_set (below_drewN h4 nq) _ _ _ (Nat.le_refl _), by omega, by omega, by rw [HX.out]; exact HS.out⟩
          case measure => simp [intOf]; omega
        · obtain rfl : k = n := by omega
          have hC0 : RMulC w2 xs zs i (i + k) c wr := ⟨ys, h1, H2.out, h3, h4, hc0, hc1, mul_outer_carry 256 xs zs ys i k (by rw [HM.out]; exact him) HN.out.symm c H5.out⟩
          clear h1 h3 h4 H5 H2 HL hc0 hc1
          go_wp2
          go_loopw [12, 9] (fun j cy wr => ∃ p : Nat, ∃ c : Int, p ≤ m + k + 1 ∧ j = .int .i64 p ∧ cy = .int .i64 c ∧ RMulC w2 xs zs i p c wr) (fun j _ _ => m + k + 1 - (intOf j).toNat)
          case atStart => exact ⟨i + k, c, by omega, by go_num, rfl, hC0⟩
          case round =>
            clear hC0
            obtain ⟨p, c2, hp, rfl, rfl, es, g1, g2, g3, g4, gc0, gc1, g5⟩ := hrel
            have G2 := Lib.hid g2
            have hlen : es.length = m + k + 1 := by rw [g2, HM.out, HN.out]
            have HL := Lib.hid hlen
            by_cases hc : 0 < c2
            · have hpl := carry_place 256 (by omega) xs zs es i p c2 dx dz g3 hc (by rw [HM.out]; exact him) g5
              rw [HN.out] at hpl
              have hy := g1.cell p (by rw [HL.out]; omega)
              have hf := g1.free p
              have bo := g3.get (by omega) p
              have S := mul_step 256 es p (by rw [HL.out]; omega) (es[p]?.getD 0 + c2) c2 0 (by omega)
              rw [Int.zero_mul, Int.add_zero, g5] at S
              have HS := Lib.hid S
              clear S g2 g5 hlen
              generalize es[p]?.getD 0 = y at *
              go_wp2
              go_roundw
              case rel =>
                exact ⟨p + 1, _, by omega, by go_num, rfl, _, g1.set p _, by simp [G2.out], g3.set (by omega) (by omega) _, below_set g4 _ _ _ (Nat.le_refl _), by omega, by omega, HS.out⟩
              case measure => simp [intOf]; omega
            · obtain rfl : c2 = 0 := by omega
              have G5 := Lib.hid (show val 256 es = val 256 (xs.take (i + 1)) * val 256 zs by rw [← g5]; simp)
              clear g2 g5 hlen
              go_wp2
              go_roundw
              case rel => exact ⟨i + 1, by omega, by go_num, es, g1, G2.out, g3, g4, G5.out⟩
              case measure => simp [intOf]; omega
    · obtain rfl : i = m := by omega
      obtain ⟨ys, h1, h2, h3, h4, h5⟩ := hR
      have hlen : ys.length = i + n + 1 := by rw [h2, HM.out, HN.out]
      have hv : val 256 ys = val 4294967296 la * val 4294967296 lb := by rw [h5, ← HM.out, List.take_length]; exact congr (congrArg _ vx.out) vz.out
      have HV := Lib.hid hv
      have hk := limbs_calls (some ⟨w2.heap.size, 0, none⟩) (i + n + 1) (i + n + 1) ys wr (by omega) (Nat.le_refl _) (by have := h1.rds; rwa [hlen] at this) h3
      clear h2 h5 hlen hv
      rw [HV.out] at hk
      go_wp2_with fail
      refine hk.mono ?_
      rintro e w' hr
      have hr' := hr.after (below_trans BB h4)
      obtain ⟨rd, nr, cr, rfl, or, br⟩ := hr'
      go_wp2_with fail
      go_ret
      exact ⟨_, _, _, rfl, or, br⟩
end Go.Proofs.Ytemllpbpnndgeaa
