/- Contracts of functions, and plain facts, part 16. -/
import Derived.WalkMore
import Derived.Deep.LoopGhost
import Derived.Deep.DeepCutAuto
import Derived.Deep.CutBlock
import Derived.BigRegion
import Derived.Test.YtbcbmkeeoognpaaGreatDoorPk5
import Derived.Test.YtbcbmkeeoognpaaGreatDoorPk6
import Derived.Test.YtbcbmkeeoognpaaGreatDoorPk10
import Derived.Test.YtbcbmkeeoognpaaGreatDoorPk12
import Derived.Test.YtbcbmkeeoognpaaGreatDoorPk13
import Derived.Test.YtbcbmkeeoognpaaGreatDoorPk14
set_option linter.unusedVariables false
set_option linter.unusedSimpArgs false
/- quot.long: long division. -/
namespace Go.Proofs.YtbcbmkeeoognpaaGreatDoor
open Go.RowKit

theorem or_two (x y : Int) (hx : 0 ≤ x ∧ x < 4294967296) (hy : 0 ≤ y ∧ y < 4294967296) : bits .or .u64 (x * 4294967296) y = x * 4294967296 + y := by
  obtain ⟨x, rfl⟩ := Int.eq_ofNat_of_zero_le hx.1
  obtain ⟨y, rfl⟩ := Int.eq_ofNat_of_zero_le hy.1
  have e : (x : Int) * 4294967296 = ((x * 4294967296 : Nat) : Int) := by simp
  rw [e, bits_or_u64_nat _ _ (by omega) (by omega), nat_join 32 _ _ (by omega) (by omega)]
  simp

def LongR (w : World) (bx bq n L : Nat) (V Y : Int) (yd : Option Addr) (ys : List Int) (k : Nat) (wr : World) : Prop :=
  ∃ X q, RowAt wr bx 44 .u32 X ∧ Blk wr bq 44 .u32 q ∧ Below w.heap.size w wr ∧ w.heap.size ≤ wr.heap.size ∧ Rds wr .u32 yd n ys ∧ LongI 4294967296 V Y n L X q k

set_option maxHeartbeats 4000000 in
set_option maxRecDepth 100000 in
theorem long_calls (ad bd : Option Addr) (na n ca cb : Nat) (la lb : List Int) (w : World) (hna : na ≤ 70368744177662) (hn : 2 ≤ n) (hle : n ≤ na) (hac : na ≤ ca) (hbc : n ≤ cb)
    (ha : Rds w .u32 ad na la) (hb : Rds w .u32 bd n lb) (da : Dig 4294967296 la) (db : Dig 4294967296 lb) (htop : lb[n - 1]?.getD 0 ≠ 0) :
    Calls Tryz.prog 201 #[.slice ad na ca, .slice bd n cb] w (RetLLB 44 .u32 (dg 4294967296 (val 4294967296 la / val 4294967296 lb)) (dg 4294967296 (val 4294967296 la % val 4294967296 lb)) true w) := by
  have HA := Lib.hid ha.len
  have HB := Lib.hid hb.len
  obtain ⟨t, rfl⟩ : ∃ t, n = t + 2 := ⟨n - 2, by omega⟩
  have E1 : t + 2 - 1 = t + 1 := rfl
  have E2 : t + 2 - 2 = t := rfl
  rw [E1] at htop
  have bt := db.get (by omega) (t + 1)
  obtain ⟨b0, rfl, hct⟩ := hb.cell (t + 1) (by omega)
  obtain ⟨top, HT⟩ : ∃ top, Hid (top = lb[t + 1]?.getD 0) := ⟨_, rfl⟩
  rw [← HT.out] at bt htop hct
  obtain ⟨r, hr, hre, hr1, hr2, hr3⟩ := lz32_top top (by omega) bt.2
  have hz := lz32_calls top w bt.1 (by omega)
  rw [hre] at hz
  have HZ := Lib.hid hz
  clear hz
  have M1 := Lib.hid (moved_calls ad na ca r la w hna hac hr ha da)
  have M2 := fun w1 hb1 => Lib.hid (moved_calls (some b0) (t + 2) cb r lb w1 (by omega) hbc hr hb1 db)
  have HR1 := Lib.hid hr1
  have HR2 := Lib.hid hr2
  have HR3 := Lib.hid hr3
  clear hre hr1 hr2 hr3 E1 E2
  have hct2 : w.cell? { block := b0.block, off := b0.off + (t + 1) } = some (.int .u32 top) := by
    have h := hct
    unfold Addr.add at h
    rwa [if_neg (by omega)] at h
  have W1 : IntKind.i64.wrap ((t : Int) + 2 - 1) = (t : Int) + 1 := (IntWalk.i64_in _ (by omega)).trans (by omega)
  have W2 : ((t : Int) + 1).toNat = t + 1 := by omega
  go_enter Tryz.func201, Tryz.ntmps201
  go_wp2
  go_step3
  go_wp2_with fail
  refine (HZ.out).mono ?_
  rintro e w' ⟨rfl, rfl⟩
  clear HZ
  go_wp2_with fail
  refine (M1.out).mono ?_
  rintro e w1 ⟨xs, lx, dx, vx, xad, xn, xc, rfl, ox, bx1⟩
  obtain rfl : xn = na + 1 := by have := ox.len; omega
  have M2' := M2 w1 (hb.below bx1 (Nat.le_refl _))
  clear M1 M2
  go_wp2_with fail
  refine (M2'.out).mono ?_
  rintro e w2 ⟨ys, ly, dy, vy, yad, yn, yc, rfl, oy, by1⟩
  obtain rfl : yn = (t + 2) + 1 := by have := oy.len; omega
  clear M2'
  obtain ⟨xb, rfl, hxb, rx1⟩ := ox.rowAt (by omega)
  obtain ⟨yb, rfl, hyb, ry⟩ := oy.rowAt (by omega)
  have rx := rx1.below by1 rx1.lt
  have hxy : xb < yb := by have := rx1.lt; omega
  have hyw := ry.lt
  have hyc := oy.le
  have hxc := ox.le
  have hs1 := bx1.size
  have bw2 : Below w.heap.size w w2 := below_trans bx1 by1
  have hs2 : w.heap.size ≤ w2.heap.size := bw2.size
  obtain ⟨t1, t2, t3, t4⟩ := long_top lb ys (t + 2) r hn HB.out db top HT.out HR1.out HR2.out ly dy vy
  rw [show t + 2 - 1 = t + 1 from rfl] at t2
  have t5 := long_first la xs (t + 2) na r HR3.out hn hle HA.out da lx dx vx _ t3
  have ryd : Rds w2 .u32 (some ⟨yb, 0, none⟩) (t + 2) (ys.take (t + 2)) := by
    have := (ry.first (t + 2) (by omega)).rds
    rwa [show (ys.take (t + 2)).length = (t + 2) by rw [List.length_take]; omega] at this
  have VX := Lib.hid vx
  have VY := Lib.hid vy
  have hBv : 0 < val 4294967296 lb := by
    have h1 := val_take_succ' 4294967296 lb (t + 1)
    rw [show t + 1 + 1 = t + 2 from rfl, List.take_of_length_le (by rw [HB.out]; omega), ← HT.out] at h1
    have h2 := val_nonneg (show (0 : Int) < 4294967296 by omega) (db.take (t + 1))
    have h3 := Int.mul_pos (show (0 : Int) < 4294967296 ^ (t + 1) from Int.pow_pos (by omega)) (show 0 < top by omega)
    omega
  have hY0 : 0 < val 4294967296 ys := by
    rw [vy]; exact Int.mul_pos hBv (Int.pow_pos (by omega))
  have dyt := dy.take (t + 2)
  have lyt : (ys.take (t + 2)).length = (t + 2) := by rw [List.length_take]; omega
  have hI := LongI.start (B := 4294967296) (by omega) (show (t + 2) < na + 1 by omega) lx dx VX.out t5
  have T4 := Lib.hid t4
  have T1 := Lib.hid t1
  clear vx vy t5 t3 t4 t1 HT bt hct htop HB ox oy ry rx1 ly dy
  generalize hYv : val 4294967296 ys = Y at *
  clear hYv
  generalize ys.take (t + 2) = yt at *
  clear ys
  obtain ⟨D, hD⟩ : ∃ D, na + 1 - (t + 2) = D := ⟨_, rfl⟩
  rw [hD] at hI
  have hDn : na = D + t + 1 := by omega
  have hD1 : 1 ≤ D := by omega
  have HD := Lib.hid hDn
  have hmk := make_rule (P := Tryz.prog) 23 44 .u32 4 Tryz.underlying23 info_limb (by omega) D (by omega) (D : Int) rfl
  have E6 : (na : Int) + 1 - ((t : Int) + 2) = D := by omega
  have W5 : IntKind.i64.wrap ((na : Int) + 1) = (na : Int) + 1 := IntWalk.i64_in _ (by omega)
  have W6 : IntKind.i64.wrap ((na : Int) + 1 - (t + 2)) = (D : Int) := (IntWalk.i64_in _ (by omega)).trans (by omega)
  have Q0 := Blk.made w2 44 .u32 (List.replicate D 0) w2.heap.size rfl
  have bw3 := bw2.alloc hs2 (.cells (nums .u32 (List.replicate D 0)).toArray 44)
  have rx3 := rx.below ((Below.refl w2.heap.size w2).alloc (Nat.le_refl _) (.cells (nums .u32 (List.replicate D 0)).toArray 44)) rx.lt
  have ry3 := ryd.below ((Below.refl w2.heap.size w2).alloc (Nat.le_refl _) (.cells (nums .u32 (List.replicate D 0)).toArray 44)) (Nat.le_refl _)
  have hs3 : w.heap.size ≤ (w2.alloc (.cells (nums .u32 (List.replicate D 0)).toArray 44)).heap.size := by simp; omega
  obtain ⟨bq, hbq⟩ : ∃ bq, bq = w2.heap.size := ⟨_, rfl⟩
  rw [← hbq] at Q0
  have hxq : xb ≠ bq := by omega
  have hyq : yb ≠ bq := by omega
  have hBq : w.heap.size ≤ bq := by omega
  have y0 := ry3.cell t (by omega)
  have y1 := ry3.cell (t + 1) (by omega)
  obtain ⟨_, hq0, y0⟩ := y0
  injection hq0 with hq0
  subst hq0
  obtain ⟨_, hq1, y1⟩ := y1
  injection hq1 with hq1
  subst hq1
  rw [plain_add] at y0 y1
  have bhi := dyt.get (by omega) (t + 1)
  have bnx := dyt.get (by omega) t
  obtain ⟨hi, HI⟩ : ∃ hi, Hid (hi = yt[t + 1]?.getD 0) := ⟨_, rfl⟩
  obtain ⟨nx, NX⟩ : ∃ nx, Hid (nx = yt[t]?.getD 0) := ⟨_, rfl⟩
  rw [← HI.out] at y1 bhi t2
  rw [← NX.out] at y0 bnx
  have W7 : IntKind.i64.wrap ((t : Int) + 2 - 2) = (t : Int) := (IntWalk.i64_in _ (by omega)).trans (by omega)
  have hmk2 := hmk w2
  rw [← hbq] at hmk2
  clear hmk
  generalize w2.alloc (.cells (nums .u32 (List.replicate D 0)).toArray 44) = w3 at *
  clear hDn hD hbq
  go_wp2_with (fail)
  go_quiet (fail)
  go_wp2
  go_step3
  go_wp2
  have hL0 : LongR w xb bq (t + 2) (na + 1) (val 4294967296 la * 2 ^ r) Y (some ⟨yb, 0, none⟩) yt D (w3.drewN nq) :=
    ⟨xs, _, rx3.drewN nq, Q0.drewN nq, below_drewN bw3 nq, hs3, ry3.drewN nq, hI⟩
  go_loopw [13] (fun j wr => ∃ k : Nat, k ≤ D ∧ j = .int .i64 ((k : Int) - 1) ∧ LongR w xb bq (t + 2) (na + 1) (val 4294967296 la * 2 ^ r) Y (some ⟨yb, 0, none⟩) yt k wr) (fun j _ => (intOf j + 1).toNat)
  case atStart => exact ⟨D, Nat.le_refl _, rfl, hL0⟩
  case round =>
    clear hL0
    obtain ⟨k, hk, rfl, X, q, gx, gq, gb, gs, gy, gI⟩ := hrel
    by_cases hk0 : k = 0
    · subst hk0
      have dn := gI.done (by omega) hY0
      have hR0 : (0 : Int) < 2 ^ r := Int.pow_pos (by omega)
      have hqv : val 4294967296 q = val 4294967296 la / val 4294967296 lb := by rw [dn.1, VY.out]; exact scale_div _ _ _ hR0 hBv
      have hxl : t + 2 ≤ X.length := by rw [gI.lx]; omega
      have hxv : val 4294967296 (X.take (t + 2)) / 2 ^ r = val 4294967296 la % val 4294967296 lb := long_last X (t + 2) _ _ _ hR0 hBv gI.dx hxl (by rw [dn.2, VY.out]) (by rw [← VY.out]; exact T4.out)
      have rxf : Rds wr .u32 (some ⟨xb, 0, none⟩) (t + 2) (X.take (t + 2)) := by
        have := (gx.first (t + 2) hxl).rds
        rwa [show (X.take (t + 2)).length = t + 2 by rw [List.length_take]; omega] at this
      have hs := shr_calls (some ⟨xb, 0, none⟩) (t + 2) xc (X.take (t + 2)) r wr (by omega) (by omega) rxf (gI.dx.take _) (by omega)
      rw [show shrNum (val 4294967296 (X.take (t + 2))) (r : Int) = val 4294967296 la % val 4294967296 lb by unfold shrNum; rw [if_pos (by omega), Int.toNat_natCast]; exact hxv] at hs
      have HS := Lib.hid hs
      have hlq : q.length = D := by rw [gI.lq]; have := HD.out; omega
      have HN := fun (w4 : World) (b4 : Below wr.heap.size wr w4) => Lib.hid (norm_calls (some ⟨bq, 0, none⟩) D D q w4 (by omega) (Nat.le_refl _) (by have h := (gq.below (B := wr.heap.size) b4 gq.lt).rds; rw [hlq] at h; exact h) gI.dq)
      rw [hqv] at HN
      clear hs dn hqv hxv hxl rxf gI gx hlq hR0
      go_wp2_with fail
      with_reducible refine (HS.out).mono ?_
      rintro e w4 ⟨rad, rn, rc, rfl, ro, rb⟩
      have HN4 := HN w4 rb
      clear HN HS
      go_wp2_with fail
      with_reducible refine (HN4.out).mono ?_
      rintro e w5 ⟨nad, nn, nc, rfl, no, nb⟩
      go_wp2
      rw [Exit.noGoto_ret]
      go_ret3
      refine ⟨_, _, _, _, _, _, rfl, no.mono (by have := rb.size; omega), (ro.mono gs).below nb (Nat.le_refl _), below_trans gb (below_trans rb nb), fun c1 c2 a a2 e1 e2 => ?_⟩
      obtain ⟨b1, _, f1, f2, _⟩ := no.row c1
      obtain ⟨b2, _, k1, k2, k3, _⟩ := ro.row c2
      rw [f1] at e1
      rw [k1] at e2
      injection e1 with e1
      injection e2 with e2
      subst e1 e2
      have := (Array.getElem?_eq_some_iff.1 k3).1
      show b1 ≠ b2
      omega
    · obtain ⟨j, rfl⟩ : ∃ j, k = j + 1 := ⟨k - 1, by omega⟩
      clear hk0
      rw [show (((j + 1 : Nat) : Int) - 1) = (j : Int) by omega]
      have hjL : j + (t + 2) + 1 ≤ na + 1 := by have := HD.out; omega
      have WN := gI.win (ys := yt) (by omega) (by omega) hjL lyt dyt T1.out (by rw [show t + 2 - 1 = t + 1 by omega, ← HI.out]; omega)
      rw [show t + 2 - 1 = t + 1 by omega, show t + 2 - 2 = t by omega, ← HI.out, ← NX.out] at WN
      obtain ⟨e2, E2⟩ : ∃ e2, Hid (e2 = j + (t + 2)) := ⟨_, rfl⟩
      obtain ⟨e1, E1⟩ : ∃ e1, Hid (e1 = e2 - 1) := ⟨_, rfl⟩
      obtain ⟨e0, E0⟩ : ∃ e0, Hid (e0 = e2 - 2) := ⟨_, rfl⟩
      rw [← E2.out, ← E1.out, ← E0.out] at WN
      have lX := gI.lx
      have c2 := gx.cell e2 (by have := E2.out; omega)
      have c1 := gx.cell e1 (by have := E1.out; have := E2.out; omega)
      have c0 := gx.cell e0 (by have := E0.out; have := E2.out; omega)

      have LX := Lib.hid lX
      clear lX
      generalize X[e2]?.getD 0 = x0 at *
      generalize X[e1]?.getD 0 = x1 at *
      generalize X[e0]?.getD 0 = x2 at *
      have le2 : e2 < na + 1 := by have := E2.out; omega
      have V1 : IntKind.i64.wrap ((j : Int) + ((t : Int) + 2)) = (e2 : Int) := (IntWalk.i64_in _ (by omega)).trans (by have := E2.out; omega)
      have V2 : IntKind.i64.wrap ((e2 : Int) - 1) = (e1 : Int) := (IntWalk.i64_in _ (by omega)).trans (by have := E1.out; have := E2.out; omega)
      have V3 : IntKind.i64.wrap ((e2 : Int) - 2) = (e0 : Int) := (IntWalk.i64_in _ (by omega)).trans (by have := E0.out; have := E2.out; omega)
      have le1 : e1 < na + 1 := by have := E1.out; omega
      have le0 : e0 < na + 1 := by have := E0.out; omega
      obtain ⟨q1, q2, q3, q4⟩ := WN.quot
      obtain ⟨f1, f2, f3, f4, f5⟩ := WN.first
      obtain ⟨tp1, tp2⟩ := WN.top
      have d0 := WN.d0
      have d1 := WN.d1
      have d2 := WN.d2
      have OR := or_two x0 x1 d0 d1
      obtain ⟨u, hu⟩ : ∃ u, u = x0 * 4294967296 + x1 := ⟨_, rfl⟩
      rw [← hu] at OR f1 f2 f3 f4 f5 tp1 tp2
      have hY := gI.window (by omega) hjL T4.out
      have LESS := Lib.hid (fun g r he hq hg => WN.less g r he hq hg)
      have REST := Lib.hid (fun g r he hr hg => WN.rest g r he hr hg)
      have NEAR := Lib.hid (fun g r he h0 hg hn => WN.near g r he h0 hg hn)
      rw [← hu] at LESS REST NEAR
      have hhi := WN.hi
      have hnx := WN.nx
      have HWN := Lib.hid WN
      have HGI := Lib.hid gI
      have HU := Lib.hid hu
      have HF1 := Lib.hid f1
      obtain ⟨Qd, hQ⟩ : ∃ Qd, Qd = val 4294967296 (List.take (t + 2 + 1) (List.drop j X)) / Y := ⟨_, rfl⟩
      rw [← hQ] at LESS NEAR f2 q1 q2
      have HQ := Lib.hid hQ
      have hhi0 : 0 < hi := by omega
      have HS1 := Lib.hid hY
      clear WN gI hu f1 hQ q3 q4 hY
      have f0 : 0 ≤ u / hi := Int.ediv_nonneg tp1 (by omega)
      go_wp2_with fail
      go_quiet (fail)
      clear c2 c1 V2 OR
      have c0n : (wr.drewN nq).cell? ⟨xb, e0, none⟩ = some (.int .u32 x2) := c0
      have gs1 : w.heap.size ≤ (wr.drewN nq).heap.size := gs
      replace gx := gx.drewN nq
      replace gq := gq.drewN nq
      replace gy := gy.drewN nq
      replace gb := below_drewN gb nq
      clear c0 gs
      generalize wr.drewN nq = wr1 at *
      go_wp2_with fail
      go_quiet (fail)
      have c0 : (wr1.drewN nq).cell? ⟨xb, e0, none⟩ = some (.int .u32 x2) := c0n
      have gs : w.heap.size ≤ (wr1.drewN nq).heap.size := gs1
      replace gx := gx.drewN nq
      replace gq := gq.drewN nq
      replace gy := gy.drewN nq
      replace gb := below_drewN gb nq
      clear c0n gs1
      generalize wr1.drewN nq = w4 at *
      go_upto_block 2 with fail
      go_cut [15] (fun s15 wx => ∃ g : Int, s15 = .int .u64 g ∧ w4 = wx ∧ 0 ≤ g ∧ g < 4294967296 ∧ Qd ≤ g ∧ g ≤ Qd + 1)
      case first =>
        go_wp2_with fail
        go_loop [15, 16] (fun s15 s16 => ∃ g r' : Int, s15 = .int .u64 g ∧ s16 = .int .u64 r' ∧ 0 ≤ g ∧ g ≤ 4294967297 ∧ 0 ≤ r' ∧ r' < 4294967296 ∧ Hid (g * hi + r' = u) ∧ Qd ≤ g) (fun s15 _ => (intOf s15).toNat)
        case atStart => exact ⟨_, _, rfl, rfl, f0, f3, f4, by omega, HF1, f2⟩
        case round =>
          obtain ⟨g, r', rfl, rfl, g0, g1, p0, p1, he, hq⟩ := hrel
          clear f0 f2 f3 f4 f5 HF1
          have hm0 : 0 ≤ g * nx := Int.mul_nonneg g0 hnx.1
          have hm1 : g * nx ≤ 4294967297 * 4294967295 := Int.mul_le_mul g1 (by omega) hnx.1 (by omega)
          have LS := LESS.out g r' he.out hq
          have he2 : (g - 1) * hi + (r' + hi) = u := by have := he.out; rw [Int.sub_mul]; omega
          have NR := NEAR.out g r' he.out g0
          have NR2 := NEAR.out (g - 1) (r' + hi) he2
          have RS := REST.out (g - 1) (r' + hi) he2
          obtain ⟨m, HM⟩ : ∃ m, Hid (m = g * nx) := ⟨_, rfl⟩
          rw [← HM.out] at LS NR hm0 hm1
          have M1 : IntKind.u64.wrap (g * nx) = m := by rw [← HM.out]; exact IntWalk.u64_in _ (by omega)
          have OR2 := or_two r' x2 ⟨p0, p1⟩ d2
          have HE := Lib.hid he2
          have HLS := Lib.hid LS
          have HNR := Lib.hid NR
          have HNR2 := Lib.hid NR2
          have HRS := Lib.hid RS
          clear LS he2 NR NR2 RS
          by_cases hb : 4294967296 ≤ g
          · have hl := HLS.out (.inl hb)
            by_cases hr : 4294967296 ≤ r' + hi
            · have h6 := HRS.out hr (by omega)
              have h7 := HNR2.out (by omega) h6.1 h6.2
              go_wp2_with fail
              go_meet
              case rel => exact ⟨g - 1, rfl, rfl, by omega, h6.1, hl, h7⟩
            · go_wp2_with fail
              go_round
              case rel => exact ⟨g - 1, r' + hi, rfl, rfl, by omega, by omega, by omega, by omega, HE, hl⟩
              case measure => simp [intOf]; omega
          · by_cases ht : r' * 4294967296 + x2 < m
            · have hl := HLS.out (.inr ht)
              by_cases hr : 4294967296 ≤ r' + hi
              · have h6 := HRS.out hr (by omega)
                have h7 := HNR2.out (by omega) h6.1 h6.2
                go_wp2_with fail
                go_meet
                case rel => exact ⟨g - 1, rfl, rfl, by omega, h6.1, hl, h7⟩
              · go_wp2_with fail
                go_round
                case rel => exact ⟨g - 1, r' + hi, rfl, rfl, by omega, by omega, by omega, by omega, HE, hl⟩
                case measure => simp [intOf]; omega
            · have h7 := HNR.out (by omega) (by omega)
              go_wp2_with fail
              go_meet
              case rel => exact ⟨g, rfl, rfl, by omega, by omega, hq, h7⟩
      case rest =>
        clear c0 V3 f0 f2 f3 f4 f5 HF1
        obtain ⟨g, rfl, rfl, k0, k1, k2, k3⟩ := hcut
        by_cases hg0 : g = 0
        · subst hg0
          have hSK := HGI.out.skip (by omega) hjL ⟨hY0, T4.out⟩ (by rw [← HQ.out]; omega)
          go_wp2_with fail
          go_roundw
          case rel => exact ⟨j, by omega, rfl, X, q, gx, gq, gb, gs, gy, hSK⟩
          case measure => simp [intOf]
        · have hg1 : (g == 0) = false := by simpa using hg0
          have hje : j ≤ e2 + 1 := by have := E2.out; omega
          have hxe : e2 + 1 ≤ xc := by omega
          obtain ⟨cx, HCX⟩ : ∃ cx, Hid (cx = xc - j) := ⟨_, rfl⟩
          have SL : e2 + 1 - j = t + 2 + 1 := by have := E2.out; omega
          have hBC := below_calls xb j (t + 2) cx yc 44 X yt (some ⟨yb, 0, none⟩) g w4 (by have := LX.out; omega) (by omega) (by have := HCX.out; omega) (by omega) gx gy (by intro a ha; injection ha with ha; subst ha; exact Ne.symm (Nat.ne_of_lt hxy)) HGI.out.dx dyt k0 k1
          have HBC := Lib.hid hBC
          have hxcj : xc - j = cx := HCX.out.symm
          have hney : ∀ a, (some ⟨yb, 0, none⟩ : Option Addr) = some a → a.block ≠ xb := by intro a ha; injection ha with ha; subst ha; exact Ne.symm (Nat.ne_of_lt hxy)
          have hnyq : ∀ a, (some ⟨yb, 0, none⟩ : Option Addr) = some a → a.block ≠ bq := by intro a ha; injection ha with ha; subst ha; exact hyq
          have HN1 := Lib.hid hney
          have HN2 := Lib.hid hnyq
          clear hBC hney hnyq
          go_wp2_with fail
          with_reducible refine (HBC.out).mono ?_
          rintro e w6 ⟨X1, ok, rfl, r1, l1, dx1, o1, v1⟩
          have gq6 := gq.only o1 (Ne.symm hxq)
          have gy6 := gy.only o1 HN1.out
          have gb6 := Only.below gb hxb o1
          have gs6 : w.heap.size ≤ w6.heap.size := by rw [o1.size]; exact gs
          rw [T1.out] at v1
          have HL1 := Lib.hid l1
          have HV1 := Lib.hid v1
          have hjD : j < D := by omega
          have x1lt := val_lt (show (0 : Int) < 4294967296 by omega) dx1
          have x1nn := val_nonneg (show (0 : Int) < 4294967296 by omega) dx1
          rw [l1] at x1lt
          clear l1 v1 HBC gq gy gb gs o1 gx
          cases ok
          · obtain ⟨kg, kx⟩ := HWN.out.kept g _ _ (by rw [← HQ.out]; exact k2) (by rw [← HQ.out]; exact k3) x1nn HV1.out
            have hST := HGI.out.step (by omega) hjL ⟨hY0, T4.out⟩ g kg ⟨k0, k1⟩ X1 HL1.out dx1 kx
            have cq := gq6.cell j (by have := HGI.out.lq; have := HD.out; omega)
            have fq := gq6.free j
            have oq := (Only.refl bq w6).set j (.int .u32 g)
            have KS := Lib.hid (show ∃ X' q', RowAt (w6.setCell ⟨bq, j, none⟩ (.int .u32 g)) xb 44 .u32 X' ∧ Blk (w6.setCell ⟨bq, j, none⟩ (.int .u32 g)) bq 44 .u32 q' ∧ Below w.heap.size w (w6.setCell ⟨bq, j, none⟩ (.int .u32 g)) ∧ w.heap.size ≤ (w6.setCell ⟨bq, j, none⟩ (.int .u32 g)).heap.size ∧ Rds (w6.setCell ⟨bq, j, none⟩ (.int .u32 g)) .u32 (some ⟨yb, 0, none⟩) (t + 2) yt ∧ LongI 4294967296 (val 4294967296 la * 2 ^ r) Y (t + 2) (na + 1) X' q' j from
              ⟨_, _, r1.only oq hxq, gq6.set j g, Only.below gb6 hBq oq, by rw [oq.size]; exact gs6, gy6.only oq HN2.out, hST⟩)
            clear kg kx hST r1 gy6 gb6 x1lt x1nn gq6 oq
            go_wp2_with fail
            go_roundw
            case rel => exact ⟨j, by omega, rfl, KS.out⟩
            case measure => simp [intOf]
          · have hpl := putAt_length X j X1 (by rw [HL1.out, LX.out]; omega)
            have hBK := back_calls xb j (t + 2) cx yc 44 (putAt X j X1) yt (some ⟨yb, 0, none⟩) w6 (by rw [hpl, LX.out]; omega) (by omega) (by have := HCX.out; omega) (by omega) r1 gy6 HN1.out (putAt_dig HGI.out.dx dx1 j) dyt
            have HBK := Lib.hid hBK
            clear hpl hBK
            go_wp2_with fail
            with_reducible refine (HBK.out).mono ?_
            rintro e w7 ⟨X2, o, rfl, r2, l2, dx2, o2, v2⟩
            rw [← HL1.out, putAt_part X j X1 (by have := LX.out; omega), T1.out] at v2
            rw [putAt_put X j X1 X2 (by have := LX.out; have := HL1.out; omega) (by rw [l2, HL1.out])] at r2
            have x2lt := val_lt (show (0 : Int) < 4294967296 by omega) dx2
            have x2nn := val_nonneg (show (0 : Int) < 4294967296 by omega) dx2
            rw [l2] at x2lt
            rw [HL1.out] at v2
            have hYR : Y < 4294967296 ^ (t + 2 + 1) := by
              have := Int.pow_lt_pow_of_lt (a := 4294967296) (by omega) (show t + 2 < t + 2 + 1 by omega)
              have := T4.out
              omega
            obtain ⟨kg, kx⟩ := HWN.out.mended g _ _ _ _ (by rw [← HQ.out]; exact k2) (by rw [← HQ.out]; exact k3) ⟨x1nn, x1lt⟩ HV1.out hYR ⟨x2nn, x2lt⟩ v2
            have hg1p : 0 ≤ g - 1 ∧ g - 1 < 4294967296 := by omega
            have hST := HGI.out.step (by omega) hjL ⟨hY0, T4.out⟩ (g - 1) kg hg1p X2 l2 dx2 kx
            have gq7 := gq6.only o2 (Ne.symm hxq)
            have gy7 := gy6.only o2 HN1.out
            have gb7 := Only.below gb6 hxb o2
            have gs7 : w.heap.size ≤ w7.heap.size := by rw [o2.size]; exact gs6
            have cq := gq7.cell j (by have := HGI.out.lq; have := HD.out; omega)
            have fq := gq7.free j
            have oq := (Only.refl bq w7).set j (.int .u32 (g - 1))
            have KS := Lib.hid (show ∃ X' q', RowAt (w7.setCell ⟨bq, j, none⟩ (.int .u32 (g - 1))) xb 44 .u32 X' ∧ Blk (w7.setCell ⟨bq, j, none⟩ (.int .u32 (g - 1))) bq 44 .u32 q' ∧ Below w.heap.size w (w7.setCell ⟨bq, j, none⟩ (.int .u32 (g - 1))) ∧ w.heap.size ≤ (w7.setCell ⟨bq, j, none⟩ (.int .u32 (g - 1))).heap.size ∧ Rds (w7.setCell ⟨bq, j, none⟩ (.int .u32 (g - 1))) .u32 (some ⟨yb, 0, none⟩) (t + 2) yt ∧ LongI 4294967296 (val 4294967296 la * 2 ^ r) Y (t + 2) (na + 1) X' q' j from
              ⟨_, _, r2.only oq hxq, gq7.set j (g - 1), Only.below gb7 hBq oq, by rw [oq.size]; exact gs7, gy7.only oq HN2.out, hST⟩)
            clear kg kx hST r1 r2 gy6 gb6 gy7 gb7 x1lt x1nn gq6 gq7 oq HBK l2 v2 x2lt x2nn hYR o2
            go_wp2_with fail
            go_roundw
            case rel => exact ⟨j, by omega, rfl, KS.out⟩
            case measure => simp [intOf]


end Go.Proofs.YtbcbmkeeoognpaaGreatDoor


/- whole: From. (Printed by whole.py.) -/
namespace Go.Proofs.YtbcbmkeeoognpaaGreatDoor
open Go.RowKit

end Go.Proofs.YtbcbmkeeoognpaaGreatDoor

