/- Contracts of functions, and plain facts, part 29. -/
import Derived.Test.YtmnabilgpndjmaaDoorProg
import Derived.Deep.QuietTactic
import Derived.BigQuiet
import Derived.Lib.SmallJoins
import Derived.Deep.Fields
import Derived.KernelRfl
import Derived.Deep.DeepCutAuto
import Derived.Test.YtmnabilgpndjmaaDoorPk1
import Derived.Test.YtmnabilgpndjmaaDoorPk2
import Derived.Test.YtmnabilgpndjmaaDoorPk3
import Derived.Test.YtmnabilgpndjmaaDoorPk8
import Derived.Test.YtmnabilgpndjmaaDoorPk11
import Derived.Test.YtmnabilgpndjmaaDoorPk12
import Derived.Test.YtmnabilgpndjmaaDoorPk15
import Derived.Test.YtmnabilgpndjmaaDoorPk17
import Derived.Test.YtmnabilgpndjmaaDoorPk18
import Derived.Test.YtmnabilgpndjmaaDoorPk23
set_option linter.unusedVariables false
set_option linter.unusedSimpArgs false
/- cmp.Compare of ints and of limbs. -/
namespace Go.Proofs.YtmnabilgpndjmaaDoor
open Go.RowKit
theorem compare_int (x y : Int) (w : World) :
    Calls Tryd.prog 161 #[.int .i64 x, .int .i64 y] w fun e w' => e = .returned (.int .i64 (cmpI x y)) ∧ w = w' := by
  rcases Int.lt_trichotomy x y with h | h | h
  · have H := Lib.hid (cmpI_lt h)
    go_enter Tryd.func161, Tryd.ntmps161
    go_wp2
    go_ret
    rw [H.out]
    exact ⟨rfl, rfl⟩
  · have H := Lib.hid (cmpI_eq h)
    subst h
    go_enter Tryd.func161, Tryd.ntmps161
    go_wp2
    go_ret
    rw [H.out]
    exact ⟨rfl, rfl⟩
  · have H := Lib.hid (cmpI_gt h)
    have h2 : ¬ x < y := by omega
    go_enter Tryd.func161, Tryd.ntmps161
    go_wp2
    go_ret
    rw [H.out]
    exact ⟨rfl, rfl⟩
theorem compare_u32 (x y : Int) (w : World) :
    Calls Tryd.prog 117 #[.int .u32 x, .int .u32 y] w fun e w' => e = .returned (.int .i64 (cmpI x y)) ∧ w = w' := by
  rcases Int.lt_trichotomy x y with h | h | h
  · have H := Lib.hid (cmpI_lt h)
    go_enter Tryd.func117, Tryd.ntmps117
    go_wp2
    go_ret
    rw [H.out]
    exact ⟨rfl, rfl⟩
  · have H := Lib.hid (cmpI_eq h)
    subst h
    go_enter Tryd.func117, Tryd.ntmps117
    go_wp2
    go_ret
    rw [H.out]
    exact ⟨rfl, rfl⟩
  · have H := Lib.hid (cmpI_gt h)
    have h2 : ¬ x < y := by omega
    go_enter Tryd.func117, Tryd.ntmps117
    go_wp2
    go_ret
    rw [H.out]
    exact ⟨rfl, rfl⟩
end Go.Proofs.YtmnabilgpndjmaaDoor

/- nat.Cmp: -1, 0 or 1. -/
namespace Go.Proofs.YtmnabilgpndjmaaDoor
open Go.RowKit

theorem cmpI_of_lists (xs zs : List Int) (dx : Dig 4294967296 xs) (dz : Dig 4294967296 zs) (nx : norm xs = xs) (nz : norm zs = zs) (h : xs.length ≠ zs.length) :
    cmpI xs.length zs.length = cmpI (val 4294967296 xs) (val 4294967296 zs) := by
  rcases Nat.lt_or_ge xs.length zs.length with h1 | h1
  · rw [cmpI_lt (by omega), cmpI_lt (lt_of_len (by omega) dx dz nz h1)]
  · rw [cmpI_gt (by omega), cmpI_gt (lt_of_len (by omega) dz dx nx (by omega))]

set_option maxHeartbeats 400000 in
theorem ncmp_calls (ad bd : Option Addr) (na nb ca cb : Nat) (la lb : List Int) (w : World) (hna : na ≤ 70368744177664) (hnb : nb ≤ 70368744177664) (hac : na ≤ ca) (hbc : nb ≤ cb)
    (ha : Rds w .u32 ad na la) (hb : Rds w .u32 bd nb lb) (da : Dig 4294967296 la) (db : Dig 4294967296 lb) :
    Calls Tryd.prog 151 #[.slice ad na ca, .slice bd nb cb] w (RetI (cmpI (val 4294967296 la) (val 4294967296 lb)) w) := by
  have rx := ha.norm
  have rz := hb.norm
  have dx := norm_dig da
  have dz := norm_dig db
  have hma := norm_length_le la
  have hnb' := norm_length_le lb
  rw [ha.len] at hma
  rw [hb.len] at hnb'
  have C1 := Lib.hid (cut_calls ad na ca la w (by omega) hac ha)
  have C2 := Lib.hid (cut_calls bd nb cb lb w (by omega) hbc hb)
  have N1 := Lib.hid (norm_norm la)
  have N2 := Lib.hid (norm_norm lb)
  rw [← val_norm 4294967296 la, ← val_norm 4294967296 lb]
  clear ha hb da db
  generalize norm la = xs at *
  generalize norm lb = zs at *
  obtain ⟨m, hm⟩ : ∃ m, xs.length = m := ⟨_, rfl⟩
  obtain ⟨n, hn⟩ : ∃ n, zs.length = n := ⟨_, rfl⟩
  rw [hm] at rx hma C1
  rw [hn] at rz hnb' C2
  have HM := Lib.hid hm
  have HN := Lib.hid hn
  clear hm hn
  by_cases hmn : m = n
  · subst hmn
    go_enter Tryd.func151, Tryd.ntmps151
    go_wp2_with fail
    refine (C1.out).mono ?_
    rintro e w' ⟨rfl, rfl⟩
    go_wp2_with fail
    refine (C2.out).mono ?_
    rintro e w' ⟨rfl, rfl⟩
    go_wp2_with fail
    go_loopw [23] (fun i wr => ∃ k : Nat, k ≤ m ∧ i = .int .i64 k ∧ Hid (val 4294967296 (xs.drop (m - k)) = val 4294967296 (zs.drop (m - k))) ∧ Hid (∃ q, wr = w.drewN q)) (fun i _ => m - (intOf i).toNat)
    case atStart => exact ⟨0, Nat.zero_le _, rfl, by rw [Nat.sub_zero, List.drop_of_length_le (by rw [HM.out]; exact Nat.le_refl _), List.drop_of_length_le (by rw [HN.out]; exact Nat.le_refl _)]; rfl, ⟨0, rfl⟩⟩
    case round =>
      obtain ⟨k, hk, rfl, hv, hq⟩ := hrel
      have rx' : Rds wr .u32 ad m xs := by obtain ⟨q, rfl⟩ := hq.out; exact rx.drewN q
      have rz' : Rds wr .u32 bd m zs := by obtain ⟨q, rfl⟩ := hq.out; exact rz.drewN q
      by_cases hkm : k < m
      · obtain ⟨a, rfl, hxl⟩ := rx'.cell (m - 1 - k) (by omega)
        obtain ⟨b, rfl, hzl⟩ := rz'.cell (m - 1 - k) (by omega)
        have L1 := Lib.hid (fun h : xs[m - 1 - k]?.getD 0 < zs[m - 1 - k]?.getD 0 => lt_at (b := 4294967296) (by omega) dx dz (m - 1 - k) (by rw [HM.out]; omega) (by rw [HN.out]; omega) (by rw [show m - 1 - k + 1 = m - k by omega]; exact hv.out) h)
        have L2 := Lib.hid (fun h : zs[m - 1 - k]?.getD 0 < xs[m - 1 - k]?.getD 0 => lt_at (b := 4294967296) (by omega) dz dx (m - 1 - k) (by rw [HN.out]; omega) (by rw [HM.out]; omega) (by rw [show m - 1 - k + 1 = m - k by omega]; exact hv.out.symm) h)
        have E := Lib.hid (fun h : xs[m - 1 - k]?.getD 0 = zs[m - 1 - k]?.getD 0 => show val 4294967296 (xs.drop (m - (k + 1))) = val 4294967296 (zs.drop (m - (k + 1))) by
          rw [show m - (k + 1) = m - 1 - k by omega, val_drop _ xs _ (by rw [HM.out]; omega), val_drop _ zs _ (by rw [HN.out]; omega), h, show m - 1 - k + 1 = m - k by omega, hv.out])
        clear hv rx rz rx' rz'
        have hi0 : (0 : Int) ≤ (m : Int) - 1 - k := by omega
        have hi1 : (m : Int) - 1 - k < m := by omega
        have hi2 : ((m : Int) - 1 - k).toNat = m - 1 - k := by omega
        generalize hgx : xs[m - 1 - k]?.getD 0 = x at *
        generalize hgz : zs[m - 1 - k]?.getD 0 = z at *
        clear hgx hgz
        rcases Int.lt_trichotomy x z with hxz | hxz | hxz
        · have HR := Lib.hid (cmpI_lt (L1.out hxz))
          have HC := Lib.hid (cmpI_lt hxz)
          have ht : (x != z) = true := by simp; omega
          go_wp2_with fail
          go_quiet (fail)
          have hxl2 : (wr.drewN nq).cell? (a.add (m - 1 - k)) = some (.int .u32 x) := hxl
          have hzl2 : (wr.drewN nq).cell? (b.add (m - 1 - k)) = some (.int .u32 z) := hzl
          have hq2 := Lib.hid (show ∃ q, wr.drewN nq = w.drewN q by obtain ⟨q, rfl⟩ := hq.out; exact ⟨_, World.drewN_drewN ..⟩)
          generalize wr.drewN nq = w2 at *
          go_wp2_with fail
          go_quiet ((go_at_call 117; exact quiet_left (compare_u32 x z _)))
          go_wp2
          go_ret
          rw [HR.out]
          obtain ⟨q, rfl⟩ := hq2.out
          exact ⟨by rw [← HC.out]; rfl, _, World.drewN_drewN ..⟩
        · subst hxz
          have ht : (x != x) = false := by simp
          go_wp2_with fail
          go_quiet (fail)
          go_wp2
          go_roundw
          case rel => exact ⟨k + 1, by omega, by go_num, E.out trivial, by obtain ⟨q, rfl⟩ := hq.out; exact ⟨_, World.drewN_drewN ..⟩⟩
          case measure => simp [intOf]; omega
        · have HR := Lib.hid (cmpI_gt (L2.out hxz))
          have HC := Lib.hid (cmpI_gt hxz)
          have ht : (x != z) = true := by simp; omega
          go_wp2_with fail
          go_quiet (fail)
          have hxl2 : (wr.drewN nq).cell? (a.add (m - 1 - k)) = some (.int .u32 x) := hxl
          have hzl2 : (wr.drewN nq).cell? (b.add (m - 1 - k)) = some (.int .u32 z) := hzl
          have hq2 := Lib.hid (show ∃ q, wr.drewN nq = w.drewN q by obtain ⟨q, rfl⟩ := hq.out; exact ⟨_, World.drewN_drewN ..⟩)
          generalize wr.drewN nq = w2 at *
          go_wp2_with fail
          go_quiet ((go_at_call 117; exact quiet_left (compare_u32 x z _)))
          go_wp2
          go_ret
          rw [HR.out]
          obtain ⟨q, rfl⟩ := hq2.out
          exact ⟨by rw [← HC.out]; rfl, _, World.drewN_drewN ..⟩
      · obtain rfl : k = m := by omega
        have HR := Lib.hid (cmpI_eq (show val 4294967296 xs = val 4294967296 zs by have := hv.out; simpa using this))
        go_wp2
        go_ret
        rw [HR.out]
        exact ⟨rfl, hq.out⟩
  · have HR := Lib.hid (cmpI_of_lists xs zs dx dz N1.out N2.out (by rw [HM.out, HN.out]; exact hmn))
    rw [HM.out, HN.out] at HR
    have ht : ((m : Int) != (n : Int)) = true := by simp; omega
    go_enter Tryd.func151, Tryd.ntmps151
    go_wp2_with fail
    refine (C1.out).mono ?_
    rintro e w' ⟨rfl, rfl⟩
    go_wp2_with fail
    refine (C2.out).mono ?_
    rintro e w' ⟨rfl, rfl⟩
    go_wp2_with fail
    refine (compare_int m n w).mono ?_
    rintro e w' ⟨rfl, rfl⟩
    go_wp2
    go_ret
    rw [← HR.out]
    exact ⟨rfl, 0, rfl⟩
end Go.Proofs.YtmnabilgpndjmaaDoor

/- crucibleref01.Norm: the number without noughts at its end. -/
namespace Go.Proofs.YtmnabilgpndjmaaDoor
open Go.RowKit
theorem rnorm_calls (ad : Option Addr) (n c : Nat) (la : List Int) (w : World) (hn : n ≤ 1099511627776) (hr : Rds w .u32 ad n la) (da : Dig 4294967296 la) :
    Calls Tryd.prog 108 #[.slice ad n c] w (RetL 76 .u32 (dg 4294967296 (val 4294967296 la)) w) := by
  have l1 := bytes_len hr.len da
  have C1 := Lib.hid (bytes_calls ad n c la w (by omega) hr da)
  have vx := Lib.hid (val_dg 256 (by omega) (val 4294967296 la) (val_nonneg (by omega) da))
  have dx : Dig 256 (dg 256 (val 4294967296 la)) := dg_dig 256 (by omega) _
  clear hr
  generalize dg 256 (val 4294967296 la) = xs at *
  go_enter Tryd.func108, Tryd.ntmps108
  go_wp2_with fail
  refine (C1.out).mono ?_
  rintro e w1 ⟨xd, m, cx, rfl, ox, b1⟩
  have HM := Lib.hid ox.len
  rw [HM.out] at l1
  have C2 := limbs_calls xd m cx xs w1 (by omega) ox.le ox.rds dx
  rw [show val 256 xs = val 4294967296 la from vx.out] at C2
  have C2' := Lib.hid C2
  clear C1 C2
  go_wp2_with fail
  refine (C2'.out).mono ?_
  rintro e w2 hr
  obtain ⟨rd, nr, cr, rfl, or, br⟩ := hr.after b1
  go_wp2_with fail
  go_ret
  exact ⟨_, _, _, rfl, or, br⟩
end Go.Proofs.YtmnabilgpndjmaaDoor

/- NCmp by worth alone. -/
namespace Go.Proofs.YtmnabilgpndjmaaDoor
open Go.RowKit

theorem num_cmp (ad bd : Option Addr) (n m c d : Nat) (V U : Int) (w : World) (h : Num w ad n c V) (k : Num w bd m d U) (hn : n ≤ 70368744177663) (hm : m ≤ 70368744177663) :
    Calls Tryd.prog 151 #[.slice ad n c, .slice bd m d] w (RetI (cmpI V U) w) := by
  obtain ⟨xs, h1, h2, rfl⟩ := h.row
  obtain ⟨zs, k1, k2, rfl⟩ := k.row
  exact (ncmp_calls ad bd n m c d xs zs w (by omega) (by omega) h.le k.le h1 k1 h2 k2).mono fun e w' q => q
end Go.Proofs.YtmnabilgpndjmaaDoor

/- RNorm by worth alone. -/
namespace Go.Proofs.YtmnabilgpndjmaaDoor
open Go.RowKit

theorem num_rnorm (ad : Option Addr) (n c : Nat) (V : Int) (w : World) (h : Num w ad n c V) (hn : n ≤ 1099511627776) :
    Calls Tryd.prog 108 #[.slice ad n c] w (RetC V w) := by
  obtain ⟨xs, h1, h2, rfl⟩ := h.row
  exact (rnorm_calls ad n c xs w (by omega) h1 h2).mono fun e w' q => q.can
end Go.Proofs.YtmnabilgpndjmaaDoor

/- From a row's reading of a whole number (a struct of a sign and a list) to what the walks ask. -/
namespace Go.Proofs.YtmnabilgpndjmaaDoor
open Go.ChangeShapes Go.WideShapes Go.RowKit

set_option maxRecDepth 100000 in
theorem fields_int : ∃ f0 f1 : Field, Tryd.prog.underlying 48 = some (.struct #[f0, f1]) ∧ f0.type = 4 ∧ f1.type = 33 ∧ Go.Deep.oneCellFields Tryd.prog #[f0, f1] = true :=
  ⟨_, _, Tryd.underlying48, rfl, rfl, by kernel_rfl⟩
theorem cellsInt2 : Tryd.prog.cellsOf 48 = 2 := by kernel_rfl
theorem cellsLimb : Tryd.prog.cellsOf 76 = 1 := by kernel_rfl
theorem bytesLimb : Tryd.prog.bytesOf 76 = 4 := by kernel_rfl

set_option maxRecDepth 100000 in
/-- A whole number that was handed in. -/
theorem open_intval {H : Type} {enc : TypeId × Value → H} {W : World} {base : Nat} {v : Value} {d : DataW H} {p : List MemPlace} {ts : List TypeId} {ds : List (DataW H)} {j : Nat}
    (hsz : (DataW.weightsEach Tryd.prog ts ds).all (· ≤ reachBytes) = true) (ht : ts[j]? = some 48) (hd : ds[j]? = some d)
    (hv : Value.okWide Tryd.prog W .any base 48 v) (h : DataW.Trod enc Tryd.prog W 0 (fun _ => true) true 48 v d p) :
    ∃ (ng : Bool) (a : Option Addr) (len cap : Nat) (xs : List Int), v = .agg #[.bool ng, .slice a len cap] ∧ Arg W a len cap xs ∧ len * 4 ≤ 140737488351232 ∧ ∀ x ∈ p, x.block < W.heap.size := by
  have hlt : ∀ x ∈ p, x.block < W.heap.size := by obtain ⟨m, hm⟩ := h; exact DataW.trod_lt m _ _ _ hm
  obtain ⟨f0, f1, hs, t0, t1, hone⟩ := fields_int
  obtain ⟨v0, v1, y0, y1, n, rfl, rfl, rfl, h0, h1⟩ := Go.Joins.open_agg2 hs hone cellsInt2 hv h
  rw [t0] at h0
  rw [t1] at h1
  obtain ⟨ng, e0, -⟩ := DataW.trod_bool Tryd.underlying4 h0
  obtain ⟨a, len, cap, e1⟩ := Go.Joins.slice_form Tryd.underlying33 h1
  injection e0 with e0
  injection e1 with e1
  subst e0 e1
  have hz : (DataW.weightsEach Tryd.prog [4, 33] [y0.1, y1.1]).all (· ≤ reachBytes) = true := by
    rw [List.all_eq_true] at hsz ⊢
    intro x hx
    refine hsz x (DataW.weights_mem_each ht hd x ?_)
    rw [DataW.weights, hs]
    simp only [List.map_cons, List.map_nil, t0, t1]
    exact hx
  have hy : DataW.Trod enc Tryd.prog W 0 (fun _ => true) true 33 (.slice a len cap) y1.1 y1.2 := ⟨n, by simpa [Value.cells] using h1⟩
  have w4 := sized_ints hz (j := 1) (t := 33) rfl rfl Tryd.underlying33 Tryd.underlying76 cellsLimb bytesLimb hy
  obtain ⟨zs, hr⟩ : ∃ zs, IsRow .u32 W a len cap zs := by
    rcases open_ints Tryd.underlying33 Tryd.underlying76 cellsLimb h1 with ⟨hcs, _⟩ | ⟨x, l, c, zs, hcs, _, hl, hm, hz, _, hcell, hwz⟩
    · injection hcs with hcs
      injection hcs with q1 q2 q3
      subst q1 q2 q3
      exact ⟨[], .inl ⟨rfl, rfl, rfl, rfl⟩⟩
    · injection hcs with hcs
      injection hcs with q1 q2 q3
      subst q1 q2 q3
      exact ⟨zs, .inr ⟨_, rfl, hl, hm, by simpa using hz, hcell, hwz⟩⟩
  exact ⟨ng, a, len, cap, zs.take len, rfl, ⟨hr.le, hr.rds, hr.dig⟩, w4, hlt⟩
end Go.Proofs.YtmnabilgpndjmaaDoor

/- Printed by ieee3.py. -/
namespace Go.Proofs.YtmnabilgpndjmaaDoor
open Go.RowKit

set_option maxRecDepth 20000 in
set_option maxHeartbeats 2000000 in
theorem rfromW_calls (W : Nat) (hW : Wide W) (ng : Bool) (ad : Option Addr) (n c : Nat) (V : Int) (w : World) (h : Num w ad n c V) (hn : n ≤ 1099511627776) : Calls Tryd.prog 46 #[.int .i64 W, .agg #[.bool ng, .slice ad n c]] w (fun e w' => e = .returned (.tuple #[.int .u64 (fromW W (sI ng V)).1, .bool (fromW W (sI ng V)).2]) ∧ Below w.heap.size w w') := by
  have hV := h.nonneg
  have hlt := Lib.hid h.lt
  have b0 : Below w.heap.size w (w.alloc (.cells #[.bool ng, .slice ad n c] 48)) := (Below.refl _ _).alloc (Nat.le_refl _) _
  have k0 : Cel (w.alloc (.cells #[.bool ng, .slice ad n c] 48)) w.heap.size 48 [.bool ng, .slice ad n c] := Cel.made _ _ _ _ rfl
  have HNm := Lib.hid (num_rnorm ad n c V _ (h.below b0 (Nat.le_refl _)) (by omega))
  have HA := Lib.hid (sI_abs ng V hV)
  have HNg := Lib.hid (sI_neg ng V hV)
  generalize sI ng V = N at *
  have HF := Lib.hid (show fromW W N = (roundW W (decide (N < 0)) N.natAbs 0 false, intOk W (roundW W (decide (N < 0)) N.natAbs 0 false) && decide ((intN W (roundW W (decide (N < 0)) N.natAbs 0 false)).natAbs = N.natAbs)) from rfl)
  have hpw := pow_wide hW
  have hy := roundW_bd hW (decide (N < 0)) N.natAbs 0 false
  have HI := Lib.hid (fun (w : World) => rint_calls W hW (roundW W (decide (N < 0)) N.natAbs 0 false) ⟨hy.1, by omega⟩ w)
  have HRd := Lib.hid (fun (w : World) (ad : Option Addr) (n c : Nat) (h : Num w ad n c N.natAbs) (hn : n ≤ 1099511627776) => rround_calls W hW (decide (N < 0)) ad n c N.natAbs 0 false w h hn (by omega))
  rw [HA.out] at HRd HF
  have HZ := Lib.hid (intN_bd hW (roundW W (decide (N < 0)) N.natAbs 0 false))
  rw [HA.out] at HI hy HZ
  clear hpw hy
  generalize fromW W N = R at *
  generalize roundW W (decide (N < 0)) V 0 false = y at *
  generalize intOk W y = iok at *
  generalize intN W y = Z at *
  go_enter Tryd.func46, Tryd.ntmps46
  go_wp2_with fail
  refine (HNm.out).mono ?_
  rintro e w1 ⟨ad1, n1, d1, rfl, f1, b1⟩
  have k1 := k0.next b1
  have l1 := f1.len_le n hlt.out
  have a1 := below_trans b0 b1
  have c0 := k1.cell 0 _ rfl
  have c1 := k1.cell 1 _ rfl
  have HR1 := Lib.hid (HRd.out w1 ad1 n1 d1 (f1.num hV) (by omega))
  obtain ⟨dn, hdn⟩ : ∃ dn, dn = decide (N < 0) := ⟨_, rfl⟩
  rw [← hdn] at HR1
  have hz := f1.zero_iff hV
  have HD : Hid (dn = (ng && decide (0 < (n1 : Int)))) := by
    show dn = _
    rw [hdn, HNg.out]
    congr 1
    rw [Bool.eq_iff_iff]
    simp only [decide_eq_true_eq]
    omega
  clear hdn hz
  go_upto_region 2 with (fail)
  go_cut [7] (fun s7 wx => s7 = .int .u64 y ∧ Below w1.heap.size w1 wx)
  case first =>
    cases ng
    · have HE := Lib.hid (show dn = false from HD.out)
      rw [HE.out] at HR1
      go_wp2_with fail
      refine (HR1.out).mono ?_
      rintro e w2 ⟨rfl, b2⟩
      go_wp2_with fail
      go_meet
      case rel => exact ⟨rfl, b2⟩
    · by_cases hn0 : n1 = 0
      · subst hn0
        have HE := Lib.hid (show dn = false by rw [HD.out]; rfl)
        rw [HE.out] at HR1
        go_wp2_with fail
        refine (HR1.out).mono ?_
        rintro e w2 ⟨rfl, b2⟩
        go_wp2_with fail
        go_meet
        case rel => exact ⟨rfl, b2⟩
      · have hn1 : decide (0 < n1) = true := by simp; omega
        have HE := Lib.hid (show dn = true by rw [HD.out]; simp; omega)
        rw [HE.out] at HR1
        clear hn0
        go_wp2_with fail
        refine (HR1.out).mono ?_
        rintro e w2 ⟨rfl, b2⟩
        go_wp2_with fail
        go_meet
        case rel => exact ⟨rfl, b2⟩
  case rest =>
    obtain ⟨rfl, b2⟩ := hcut
    obtain ⟨w2, hw2⟩ : ∃ w2, w2 = wc := ⟨_, rfl⟩
    subst hw2
    have a2 := below_trans a1 b2
    have f2 := f1.below b2 (Nat.le_refl _)
    clear c0 c1
    have HI1 := Lib.hid (HI.out w2)
    go_wp2_with fail
    refine (HI1.out).mono ?_
    rintro e w4 ⟨ad4, n4, d4, rfl, f4, b4⟩
    have a4 := below_trans a2 b4
    have f5 := f2.below b4 (Nat.le_refl _)
    have l4 := f4.len_le (2 + 4097) HZ.out
    have bA : Below w4.heap.size w4 (w4.alloc (.cells #[.bool (decide (Z < 0)), .slice ad4 n4 d4] 48)) := (Below.refl _ _).alloc (Nat.le_refl _) _
    have a5 := below_trans a4 bA
    have kz : Cel (w4.alloc (.cells #[.bool (decide (Z < 0)), .slice ad4 n4 d4] 48)) w4.heap.size 48 [.bool (decide (Z < 0)), .slice ad4 n4 d4] := Cel.made _ _ _ _ rfl
    have z1 := kz.cell 1 _ rfl
    have HCm := num_rcmp ad4 ad1 n4 n1 d4 d1 Z.natAbs V _ ((f4.num (by omega)).below bA (Nat.le_refl _)) ((f5.num hV).below bA (Nat.le_refl _)) (by omega) (by omega)
    cases iok
    · have HR := Lib.hid (show R = (y, false) by rw [HF.out]; rfl)
      clear HF HCm
      go_wp2
      go_ret2
      rw [HR.out]
      exact ⟨rfl, a5⟩
    · by_cases hzn : Z.natAbs = N.natAbs
      · have HR := Lib.hid (show R = (y, true) by rw [HF.out, decide_eq_true hzn]; rfl)
        rw [cmpI_eq (by rw [hzn]; exact HA.out)] at HCm
        have HC1 := Lib.hid HCm
        clear HF hzn HCm
        go_wp2_with fail
        refine (HC1.out).mono ?_
        rintro e w5 ⟨rfl, b5⟩
        go_wp2
        go_ret2
        rw [HR.out]
        exact ⟨rfl, below_trans a5 b5⟩
      · have HR := Lib.hid (show R = (y, false) by rw [HF.out, decide_eq_false hzn]; rfl)
        have hc : cmpI (Z.natAbs : Int) V ≠ 0 := by
          have := HA.out
          unfold cmpI
          split
          · omega
          · split <;> omega
        generalize cmpI (Z.natAbs : Int) V = C at *
        have hc2 : (C == 0) = false := by simpa using hc
        have HC1 := Lib.hid HCm
        clear HF hzn hc HCm
        go_wp2_with fail
        refine (HC1.out).mono ?_
        rintro e w5 ⟨rfl, b5⟩
        go_wp2
        go_ret2
        rw [HR.out]
        exact ⟨rfl, below_trans a5 b5⟩
end Go.Proofs.YtmnabilgpndjmaaDoor

/- Printed by ieee3.py. -/
namespace Go.Proofs.YtmnabilgpndjmaaDoor
open Go.RowKit

set_option maxRecDepth 20000 in
set_option maxHeartbeats 2000000 in
theorem from_16 (w : World) (hS : Shapes w) (hT : Tab w) (ng : Bool) (ad : Option Addr) (n c : Nat) (V : Int) (h : Num w ad n c V) (hn : n ≤ 1099511627776) : Calls Tryd.prog 104 #[.agg #[.bool ng, .slice ad n c]] w (fun e w' => e = .returned (.tuple #[.int .u16 (fromW 16 (sI ng V)).1, .bool (fromW 16 (sI ng V)).2]) ∧ Below w.heap.size w w') := by
  have hV := h.nonneg
  have hlt := Lib.hid h.lt
  have b0 : Below w.heap.size w (w.alloc (.cells #[.bool ng, .slice ad n c] 48)) := (Below.refl _ _).alloc (Nat.le_refl _) _
  have k0 : Cel (w.alloc (.cells #[.bool ng, .slice ad n c] 48)) w.heap.size 48 [.bool ng, .slice ad n c] := Cel.made _ _ _ _ rfl
  have hw0 : w.heap.size < (w.alloc (.cells #[.bool ng, .slice ad n c] 48)).heap.size := by simp
  have HNm := Lib.hid (wnorm_calls ng ad n c V _ (h.below b0 (Nat.le_refl _)) (by omega))
  have HA := Lib.hid (sI_abs ng V hV)
  generalize sI ng V = N at *
  have HF := Lib.hid (show fromW 16 N = (roundW 16 (decide (N < 0)) N.natAbs 0 false, intOk 16 (roundW 16 (decide (N < 0)) N.natAbs 0 false) && decide ((intN 16 (roundW 16 (decide (N < 0)) N.natAbs 0 false)).natAbs = N.natAbs)) from rfl)
  have hy := roundW_bd (W := 16) (by unfold Wide; omega) (decide (N < 0)) N.natAbs 0 false
  rw [show (2 : Int) ^ 16 = 65536 from by decide] at hy
  have HI := Lib.hid (fun (w : World) (hS : Shapes w) (hT : Tab w) => iint_16 w hS hT (roundW 16 (decide (N < 0)) N.natAbs 0 false) hy)
  have HRd := Lib.hid (fun (w : World) (hS : Shapes w) (ad : Option Addr) (n c : Nat) (h : Num w ad n c N.natAbs) (hn : n ≤ 1099511627776) => round_16 w hS (decide (N < 0)) ad n c N.natAbs 0 false h hn (by omega))
  have HA2 := Lib.hid (show 0 ≤ (N.natAbs : Int) by omega)
  generalize fromW 16 N = R at *
  generalize roundW 16 (decide (N < 0)) N.natAbs 0 false = y at *
  have HZ := Lib.hid (intN_bd (W := 16) (by unfold Wide; omega) y)
  generalize intOk 16 y = iok at *
  generalize intN 16 y = Z at *
  have hz0 : w.heap.size ≤ w.heap.size := Nat.le_refl _
  go_enter Tryd.func104, Tryd.ntmps104
  go_wp2_with fail
  refine (HNm.out).mono ?_
  rintro e w1 ⟨ad1, n1, d1, rfl, f1, b1⟩
  have k1 := k0.next b1
  have l1 := f1.len_le n (by rw [HA.out]; exact hlt.out)
  have a1 := below_trans b0 b1
  have c0 := k1.cell 0 _ rfl
  have c1 := k1.cell 1 _ rfl
  have g0 := k1.free 0
  have g1 := k1.free 1
  have f2 := f1.poke2 k1 (.bool (decide (N < 0))) (.slice ad1 n1 d1)
  have k2 := (k1.set 0 (.bool (decide (N < 0)))).set 1 (.slice ad1 n1 d1)
  have a2 := below_set (below_set a1 w.heap.size 0 (.bool (decide (N < 0))) (Nat.le_refl _)) w.heap.size 1 (.slice ad1 n1 d1) (Nat.le_refl _)
  have hb : w.heap.size < w1.heap.size := k1.lt
  generalize hdn : decide (N < 0) = dn at *
  clear hdn
  go_upto_region 2 with (fail)
  clear c0 c1 g0 g1
  generalize (w1.setCell ⟨w.heap.size, 0, none⟩ (.bool dn)).setCell ⟨w.heap.size, 1, none⟩ (.slice ad1 n1 d1) = w2 at *
  have c0 := k2.cell 0 _ rfl
  have c1 := k2.cell 1 _ rfl
  have HR1 := Lib.hid (HRd.out w2 (hS.below a2 (Nat.le_refl _)) ad1 n1 d1 (f2.num HA2.out) (by omega))
  go_wp2_with fail
  refine (HR1.out).mono ?_
  rintro e w3 ⟨rfl, b3⟩
  have a3 := below_trans a2 b3
  have k3 := k2.next b3
  have f3 := f2.below b3 (Nat.le_refl _)
  clear c0 c1
  have HI1 := Lib.hid (HI.out w3 (hS.below a3 (Nat.le_refl _)) (hT.below a3 (Nat.le_refl _)))
  go_wp2_with fail
  refine (HI1.out).mono ?_
  rintro e w4 ⟨ad4, n4, d4, rfl, f4, b4⟩
  have a4 := below_trans a3 b4
  have k4 := k3.next b4
  have f5 := f3.below b4 (Nat.le_refl _)
  have l4 := f4.len_le (2 + 4097) HZ.out
  have bA : Below w4.heap.size w4 (w4.alloc (.cells #[.bool (decide (Z < 0)), .slice ad4 n4 d4] 48)) := (Below.refl _ _).alloc (Nat.le_refl _) _
  have a5 := below_trans a4 bA
  have k5 := k4.next bA
  have kz : Cel (w4.alloc (.cells #[.bool (decide (Z < 0)), .slice ad4 n4 d4] 48)) w4.heap.size 48 [.bool (decide (Z < 0)), .slice ad4 n4 d4] := Cel.made _ _ _ _ rfl
  have z1 := kz.cell 1 _ rfl
  have c1 := k5.cell 1 _ rfl
  have HCm := Lib.hid (num_cmp ad4 ad1 n4 n1 d4 d1 Z.natAbs N.natAbs _ ((f4.num (by omega)).below bA (Nat.le_refl _)) ((f5.num HA2.out).below bA (Nat.le_refl _)) (by omega) (by omega))
  cases iok
  · have HR := Lib.hid (show R = (y, false) by rw [HF.out]; rfl)
    clear HF HCm
    go_wp2
    go_ret2
    rw [HR.out]
    exact ⟨rfl, a5⟩
  · by_cases hzn : Z.natAbs = N.natAbs
    · have HR := Lib.hid (show R = (y, true) by rw [HF.out, decide_eq_true hzn]; rfl)
      rw [cmpI_eq (by rw [hzn])] at HCm
      clear HF hzn
      go_wp2_with fail
      refine (HCm.out).mono ?_
      rintro e w' ⟨rfl, q, rfl⟩
      go_wp2
      go_ret2
      rw [HR.out]
      exact ⟨rfl, below_drewN a5 _⟩
    · have HR := Lib.hid (show R = (y, false) by rw [HF.out, decide_eq_false hzn]; rfl)
      have hc : cmpI (Z.natAbs : Int) N.natAbs ≠ 0 := by
        unfold cmpI
        split
        · omega
        · split <;> omega
      generalize cmpI (Z.natAbs : Int) N.natAbs = C at *
      have hc2 : (C == 0) = false := by simpa using hc
      clear HF hzn hc
      go_wp2_with fail
      refine (HCm.out).mono ?_
      rintro e w' ⟨rfl, q, rfl⟩
      go_wp2
      go_ret2
      rw [HR.out]
      exact ⟨rfl, below_drewN a5 _⟩
end Go.Proofs.YtmnabilgpndjmaaDoor

/- Printed by ieee3.py. -/
namespace Go.Proofs.YtmnabilgpndjmaaDoor
open Go.RowKit

set_option maxRecDepth 20000 in
set_option maxHeartbeats 2000000 in
theorem from_32 (w : World) (hS : Shapes w) (hT : Tab w) (ng : Bool) (ad : Option Addr) (n c : Nat) (V : Int) (h : Num w ad n c V) (hn : n ≤ 1099511627776) : Calls Tryd.prog 107 #[.agg #[.bool ng, .slice ad n c]] w (fun e w' => e = .returned (.tuple #[.int .u32 (fromW 32 (sI ng V)).1, .bool (fromW 32 (sI ng V)).2]) ∧ Below w.heap.size w w') := by
  have hV := h.nonneg
  have hlt := Lib.hid h.lt
  have b0 : Below w.heap.size w (w.alloc (.cells #[.bool ng, .slice ad n c] 48)) := (Below.refl _ _).alloc (Nat.le_refl _) _
  have k0 : Cel (w.alloc (.cells #[.bool ng, .slice ad n c] 48)) w.heap.size 48 [.bool ng, .slice ad n c] := Cel.made _ _ _ _ rfl
  have hw0 : w.heap.size < (w.alloc (.cells #[.bool ng, .slice ad n c] 48)).heap.size := by simp
  have HNm := Lib.hid (wnorm_calls ng ad n c V _ (h.below b0 (Nat.le_refl _)) (by omega))
  have HA := Lib.hid (sI_abs ng V hV)
  generalize sI ng V = N at *
  have HF := Lib.hid (show fromW 32 N = (roundW 32 (decide (N < 0)) N.natAbs 0 false, intOk 32 (roundW 32 (decide (N < 0)) N.natAbs 0 false) && decide ((intN 32 (roundW 32 (decide (N < 0)) N.natAbs 0 false)).natAbs = N.natAbs)) from rfl)
  have hy := roundW_bd (W := 32) (by unfold Wide; omega) (decide (N < 0)) N.natAbs 0 false
  rw [show (2 : Int) ^ 32 = 4294967296 from by decide] at hy
  have HI := Lib.hid (fun (w : World) (hS : Shapes w) (hT : Tab w) => iint_32 w hS hT (roundW 32 (decide (N < 0)) N.natAbs 0 false) hy)
  have HRd := Lib.hid (fun (w : World) (hS : Shapes w) (ad : Option Addr) (n c : Nat) (h : Num w ad n c N.natAbs) (hn : n ≤ 1099511627776) => round_32 w hS (decide (N < 0)) ad n c N.natAbs 0 false h hn (by omega))
  have HA2 := Lib.hid (show 0 ≤ (N.natAbs : Int) by omega)
  generalize fromW 32 N = R at *
  generalize roundW 32 (decide (N < 0)) N.natAbs 0 false = y at *
  have HZ := Lib.hid (intN_bd (W := 32) (by unfold Wide; omega) y)
  generalize intOk 32 y = iok at *
  generalize intN 32 y = Z at *
  have hz0 : w.heap.size ≤ w.heap.size := Nat.le_refl _
  go_enter Tryd.func107, Tryd.ntmps107
  go_wp2_with fail
  refine (HNm.out).mono ?_
  rintro e w1 ⟨ad1, n1, d1, rfl, f1, b1⟩
  have k1 := k0.next b1
  have l1 := f1.len_le n (by rw [HA.out]; exact hlt.out)
  have a1 := below_trans b0 b1
  have c0 := k1.cell 0 _ rfl
  have c1 := k1.cell 1 _ rfl
  have g0 := k1.free 0
  have g1 := k1.free 1
  have f2 := f1.poke2 k1 (.bool (decide (N < 0))) (.slice ad1 n1 d1)
  have k2 := (k1.set 0 (.bool (decide (N < 0)))).set 1 (.slice ad1 n1 d1)
  have a2 := below_set (below_set a1 w.heap.size 0 (.bool (decide (N < 0))) (Nat.le_refl _)) w.heap.size 1 (.slice ad1 n1 d1) (Nat.le_refl _)
  have hb : w.heap.size < w1.heap.size := k1.lt
  generalize hdn : decide (N < 0) = dn at *
  clear hdn
  go_upto_region 2 with (fail)
  clear c0 c1 g0 g1
  generalize (w1.setCell ⟨w.heap.size, 0, none⟩ (.bool dn)).setCell ⟨w.heap.size, 1, none⟩ (.slice ad1 n1 d1) = w2 at *
  have c0 := k2.cell 0 _ rfl
  have c1 := k2.cell 1 _ rfl
  have HR1 := Lib.hid (HRd.out w2 (hS.below a2 (Nat.le_refl _)) ad1 n1 d1 (f2.num HA2.out) (by omega))
  go_wp2_with fail
  refine (HR1.out).mono ?_
  rintro e w3 ⟨rfl, b3⟩
  have a3 := below_trans a2 b3
  have k3 := k2.next b3
  have f3 := f2.below b3 (Nat.le_refl _)
  clear c0 c1
  have HI1 := Lib.hid (HI.out w3 (hS.below a3 (Nat.le_refl _)) (hT.below a3 (Nat.le_refl _)))
  go_wp2_with fail
  refine (HI1.out).mono ?_
  rintro e w4 ⟨ad4, n4, d4, rfl, f4, b4⟩
  have a4 := below_trans a3 b4
  have k4 := k3.next b4
  have f5 := f3.below b4 (Nat.le_refl _)
  have l4 := f4.len_le (2 + 4097) HZ.out
  have bA : Below w4.heap.size w4 (w4.alloc (.cells #[.bool (decide (Z < 0)), .slice ad4 n4 d4] 48)) := (Below.refl _ _).alloc (Nat.le_refl _) _
  have a5 := below_trans a4 bA
  have k5 := k4.next bA
  have kz : Cel (w4.alloc (.cells #[.bool (decide (Z < 0)), .slice ad4 n4 d4] 48)) w4.heap.size 48 [.bool (decide (Z < 0)), .slice ad4 n4 d4] := Cel.made _ _ _ _ rfl
  have z1 := kz.cell 1 _ rfl
  have c1 := k5.cell 1 _ rfl
  have HCm := Lib.hid (num_cmp ad4 ad1 n4 n1 d4 d1 Z.natAbs N.natAbs _ ((f4.num (by omega)).below bA (Nat.le_refl _)) ((f5.num HA2.out).below bA (Nat.le_refl _)) (by omega) (by omega))
  cases iok
  · have HR := Lib.hid (show R = (y, false) by rw [HF.out]; rfl)
    clear HF HCm
    go_wp2
    go_ret2
    rw [HR.out]
    exact ⟨rfl, a5⟩
  · by_cases hzn : Z.natAbs = N.natAbs
    · have HR := Lib.hid (show R = (y, true) by rw [HF.out, decide_eq_true hzn]; rfl)
      rw [cmpI_eq (by rw [hzn])] at HCm
      clear HF hzn
      go_wp2_with fail
      refine (HCm.out).mono ?_
      rintro e w' ⟨rfl, q, rfl⟩
      go_wp2
      go_ret2
      rw [HR.out]
      exact ⟨rfl, below_drewN a5 _⟩
    · have HR := Lib.hid (show R = (y, false) by rw [HF.out, decide_eq_false hzn]; rfl)
      have hc : cmpI (Z.natAbs : Int) N.natAbs ≠ 0 := by
        unfold cmpI
        split
        · omega
        · split <;> omega
      generalize cmpI (Z.natAbs : Int) N.natAbs = C at *
      have hc2 : (C == 0) = false := by simpa using hc
      clear HF hzn hc
      go_wp2_with fail
      refine (HCm.out).mono ?_
      rintro e w' ⟨rfl, q, rfl⟩
      go_wp2
      go_ret2
      rw [HR.out]
      exact ⟨rfl, below_drewN a5 _⟩
end Go.Proofs.YtmnabilgpndjmaaDoor

/- Printed by ieee3.py. -/
namespace Go.Proofs.YtmnabilgpndjmaaDoor
open Go.RowKit

set_option maxRecDepth 20000 in
set_option maxHeartbeats 2000000 in
theorem from_64 (w : World) (hS : Shapes w) (hT : Tab w) (ng : Bool) (ad : Option Addr) (n c : Nat) (V : Int) (h : Num w ad n c V) (hn : n ≤ 1099511627776) : Calls Tryd.prog 105 #[.agg #[.bool ng, .slice ad n c]] w (fun e w' => e = .returned (.tuple #[.int .u64 (fromW 64 (sI ng V)).1, .bool (fromW 64 (sI ng V)).2]) ∧ Below w.heap.size w w') := by
  have hV := h.nonneg
  have hlt := Lib.hid h.lt
  have b0 : Below w.heap.size w (w.alloc (.cells #[.bool ng, .slice ad n c] 48)) := (Below.refl _ _).alloc (Nat.le_refl _) _
  have k0 : Cel (w.alloc (.cells #[.bool ng, .slice ad n c] 48)) w.heap.size 48 [.bool ng, .slice ad n c] := Cel.made _ _ _ _ rfl
  have hw0 : w.heap.size < (w.alloc (.cells #[.bool ng, .slice ad n c] 48)).heap.size := by simp
  have HNm := Lib.hid (wnorm_calls ng ad n c V _ (h.below b0 (Nat.le_refl _)) (by omega))
  have HA := Lib.hid (sI_abs ng V hV)
  generalize sI ng V = N at *
  have HF := Lib.hid (show fromW 64 N = (roundW 64 (decide (N < 0)) N.natAbs 0 false, intOk 64 (roundW 64 (decide (N < 0)) N.natAbs 0 false) && decide ((intN 64 (roundW 64 (decide (N < 0)) N.natAbs 0 false)).natAbs = N.natAbs)) from rfl)
  have hy := roundW_bd (W := 64) (by unfold Wide; omega) (decide (N < 0)) N.natAbs 0 false
  rw [show (2 : Int) ^ 64 = 18446744073709551616 from by decide] at hy
  have HI := Lib.hid (fun (w : World) (hS : Shapes w) (hT : Tab w) => iint_64 w hS hT (roundW 64 (decide (N < 0)) N.natAbs 0 false) hy)
  have HRd := Lib.hid (fun (w : World) (hS : Shapes w) (ad : Option Addr) (n c : Nat) (h : Num w ad n c N.natAbs) (hn : n ≤ 1099511627776) => round_64 w hS (decide (N < 0)) ad n c N.natAbs 0 false h hn (by omega))
  have HA2 := Lib.hid (show 0 ≤ (N.natAbs : Int) by omega)
  generalize fromW 64 N = R at *
  generalize roundW 64 (decide (N < 0)) N.natAbs 0 false = y at *
  have HZ := Lib.hid (intN_bd (W := 64) (by unfold Wide; omega) y)
  generalize intOk 64 y = iok at *
  generalize intN 64 y = Z at *
  have hz0 : w.heap.size ≤ w.heap.size := Nat.le_refl _
  go_enter Tryd.func105, Tryd.ntmps105
  go_wp2_with fail
  refine (HNm.out).mono ?_
  rintro e w1 ⟨ad1, n1, d1, rfl, f1, b1⟩
  have k1 := k0.next b1
  have l1 := f1.len_le n (by rw [HA.out]; exact hlt.out)
  have a1 := below_trans b0 b1
  have c0 := k1.cell 0 _ rfl
  have c1 := k1.cell 1 _ rfl
  have g0 := k1.free 0
  have g1 := k1.free 1
  have f2 := f1.poke2 k1 (.bool (decide (N < 0))) (.slice ad1 n1 d1)
  have k2 := (k1.set 0 (.bool (decide (N < 0)))).set 1 (.slice ad1 n1 d1)
  have a2 := below_set (below_set a1 w.heap.size 0 (.bool (decide (N < 0))) (Nat.le_refl _)) w.heap.size 1 (.slice ad1 n1 d1) (Nat.le_refl _)
  have hb : w.heap.size < w1.heap.size := k1.lt
  generalize hdn : decide (N < 0) = dn at *
  clear hdn
  go_upto_region 2 with (fail)
  clear c0 c1 g0 g1
  generalize (w1.setCell ⟨w.heap.size, 0, none⟩ (.bool dn)).setCell ⟨w.heap.size, 1, none⟩ (.slice ad1 n1 d1) = w2 at *
  have c0 := k2.cell 0 _ rfl
  have c1 := k2.cell 1 _ rfl
  have HR1 := Lib.hid (HRd.out w2 (hS.below a2 (Nat.le_refl _)) ad1 n1 d1 (f2.num HA2.out) (by omega))
  go_wp2_with fail
  refine (HR1.out).mono ?_
  rintro e w3 ⟨rfl, b3⟩
  have a3 := below_trans a2 b3
  have k3 := k2.next b3
  have f3 := f2.below b3 (Nat.le_refl _)
  clear c0 c1
  have HI1 := Lib.hid (HI.out w3 (hS.below a3 (Nat.le_refl _)) (hT.below a3 (Nat.le_refl _)))
  go_wp2_with fail
  refine (HI1.out).mono ?_
  rintro e w4 ⟨ad4, n4, d4, rfl, f4, b4⟩
  have a4 := below_trans a3 b4
  have k4 := k3.next b4
  have f5 := f3.below b4 (Nat.le_refl _)
  have l4 := f4.len_le (2 + 4097) HZ.out
  have bA : Below w4.heap.size w4 (w4.alloc (.cells #[.bool (decide (Z < 0)), .slice ad4 n4 d4] 48)) := (Below.refl _ _).alloc (Nat.le_refl _) _
  have a5 := below_trans a4 bA
  have k5 := k4.next bA
  have kz : Cel (w4.alloc (.cells #[.bool (decide (Z < 0)), .slice ad4 n4 d4] 48)) w4.heap.size 48 [.bool (decide (Z < 0)), .slice ad4 n4 d4] := Cel.made _ _ _ _ rfl
  have z1 := kz.cell 1 _ rfl
  have c1 := k5.cell 1 _ rfl
  have HCm := Lib.hid (num_cmp ad4 ad1 n4 n1 d4 d1 Z.natAbs N.natAbs _ ((f4.num (by omega)).below bA (Nat.le_refl _)) ((f5.num HA2.out).below bA (Nat.le_refl _)) (by omega) (by omega))
  cases iok
  · have HR := Lib.hid (show R = (y, false) by rw [HF.out]; rfl)
    clear HF HCm
    go_wp2
    go_ret2
    rw [HR.out]
    exact ⟨rfl, a5⟩
  · by_cases hzn : Z.natAbs = N.natAbs
    · have HR := Lib.hid (show R = (y, true) by rw [HF.out, decide_eq_true hzn]; rfl)
      rw [cmpI_eq (by rw [hzn])] at HCm
      clear HF hzn
      go_wp2_with fail
      refine (HCm.out).mono ?_
      rintro e w' ⟨rfl, q, rfl⟩
      go_wp2
      go_ret2
      rw [HR.out]
      exact ⟨rfl, below_drewN a5 _⟩
    · have HR := Lib.hid (show R = (y, false) by rw [HF.out, decide_eq_false hzn]; rfl)
      have hc : cmpI (Z.natAbs : Int) N.natAbs ≠ 0 := by
        unfold cmpI
        split
        · omega
        · split <;> omega
      generalize cmpI (Z.natAbs : Int) N.natAbs = C at *
      have hc2 : (C == 0) = false := by simpa using hc
      clear HF hzn hc
      go_wp2_with fail
      refine (HCm.out).mono ?_
      rintro e w' ⟨rfl, q, rfl⟩
      go_wp2
      go_ret2
      rw [HR.out]
      exact ⟨rfl, below_drewN a5 _⟩
end Go.Proofs.YtmnabilgpndjmaaDoor
