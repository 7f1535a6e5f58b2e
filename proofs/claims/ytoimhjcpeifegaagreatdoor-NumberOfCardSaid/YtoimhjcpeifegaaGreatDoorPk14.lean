/- Contracts of functions, and plain facts, part 14. -/
import Derived.BigQuiet
import Derived.Deep.QuietTactic
import Derived.Test.YtoimhjcpeifegaaGreatDoorProg
import Derived.Laws.Bits64b
import Derived.WalkKit
import Derived.Test.YtoimhjcpeifegaaGreatDoorPk2
import Derived.Test.YtoimhjcpeifegaaGreatDoorPk4
import Derived.Test.YtoimhjcpeifegaaGreatDoorPk6
import Derived.Test.YtoimhjcpeifegaaGreatDoorPk7
import Derived.Test.YtoimhjcpeifegaaGreatDoorPk10
import Derived.Test.YtoimhjcpeifegaaGreatDoorPk11
import Derived.Test.YtoimhjcpeifegaaGreatDoorPk12
import Derived.Test.YtoimhjcpeifegaaGreatDoorPk13
set_option linter.unusedVariables false
set_option linter.unusedSimpArgs false
/- Add by worth alone. -/
namespace Go.Proofs.YtoimhjcpeifegaaGreatDoor
open Go.RowKit

theorem num_add (ad bd : Option Addr) (n m c d : Nat) (V U : Int) (w : World) (h : Num w ad n c V) (k : Num w bd m d U) (hn : n ≤ 70368744177663) (hm : m ≤ 70368744177663) :
    Calls Tryz.prog 121 #[.slice ad n c, .slice bd m d] w (RetC (V + U) w) := by
  obtain ⟨xs, h1, h2, rfl⟩ := h.row
  obtain ⟨zs, k1, k2, rfl⟩ := k.row
  exact (add_calls ad bd n m c d xs zs w (by omega) (by omega) h.le k.le h1 k1 h2 k2).mono fun e w' q => q.can
end Go.Proofs.YtoimhjcpeifegaaGreatDoor

/- NSub by worth alone. -/
namespace Go.Proofs.YtoimhjcpeifegaaGreatDoor
open Go.RowKit

theorem num_sub (ad bd : Option Addr) (n m c d : Nat) (V U : Int) (w : World) (h : Num w ad n c V) (k : Num w bd m d U) (hn : n ≤ 70368744177663) (hm : m ≤ 70368744177663) :
    Calls Tryz.prog 164 #[.slice ad n c, .slice bd m d] w (RetCB (V - U) (decide (U ≤ V)) w) := by
  obtain ⟨xs, h1, h2, rfl⟩ := h.row
  obtain ⟨zs, k1, k2, rfl⟩ := k.row
  exact (nsub_calls ad bd n m c d xs zs w (by omega) (by omega) h.le k.le h1 k1 h2 k2).mono fun e w' q => q.can
end Go.Proofs.YtoimhjcpeifegaaGreatDoor

/- RAdd by worth alone. -/
namespace Go.Proofs.YtoimhjcpeifegaaGreatDoor
open Go.RowKit

theorem num_radd (ad bd : Option Addr) (n m c d : Nat) (V U : Int) (w : World) (h : Num w ad n c V) (k : Num w bd m d U) (hn : n ≤ 1099511627776) (hm : m ≤ 1099511627776) :
    Calls Tryz.prog 172 #[.slice ad n c, .slice bd m d] w (RetC (V + U) w) := by
  obtain ⟨xs, h1, h2, rfl⟩ := h.row
  obtain ⟨zs, k1, k2, rfl⟩ := k.row
  exact (radd_calls ad bd n m c d xs zs w (by omega) (by omega) h1 k1 h2 k2).mono fun e w' q => q.can
end Go.Proofs.YtoimhjcpeifegaaGreatDoor

/- RLen by worth alone. -/
namespace Go.Proofs.YtoimhjcpeifegaaGreatDoor
open Go.RowKit

theorem num_rlen (ad : Option Addr) (n c : Nat) (V : Int) (w : World) (h : Num w ad n c V) (hn : n ≤ 1099511627776) :
    Calls Tryz.prog 144 #[.slice ad n c] w (fun e w' => e = .returned (.int .i64 (bitsOf V)) ∧ Below w.heap.size w w') := by
  obtain ⟨xs, h1, h2, rfl⟩ := h.row
  exact (rlen_calls ad n c xs w (by omega) h1 h2).mono fun e w' q => q
end Go.Proofs.YtoimhjcpeifegaaGreatDoor

/- crucibleref01.Shl: times 2 to the power of n. -/
namespace Go.Proofs.YtoimhjcpeifegaaGreatDoor
open Go.RowKit

theorem Blk.app {w : World} {b : Nat} {t : TypeId} {k : IntKind} {ys : List Int} (h : Blk w b t k ys) (B : Nat) (hB : B ≤ b) (hbig : ys.length ≤ 281474976710656) : App B w t k (some ⟨b, 0, none⟩) ys.length ys.length ys :=
  ⟨by simp [nums], .inr ⟨b, ys.length, _, rfl, hB, h, Nat.le_refl _, by simp only [maxLen]; omega, by simp [nums], by simp [nums, List.take_of_length_le]⟩⟩

def RShlR (w : World) (xs : List Int) (s : Nat) (R : Int) (k : Nat) (c : Int) (v : Value) (wr : World) : Prop :=
  ∃ ad cp ds, v = .slice ad (s + k) cp ∧ App w.heap.size wr 3 .i64 ad (s + k) cp ds ∧ Dig 256 ds ∧ Below w.heap.size w wr ∧ w.heap.size ≤ wr.heap.size ∧ 0 ≤ c ∧ c < R ∧ val 256 ds + 256 ^ (s + k) * c = 256 ^ s * R * val 256 (xs.take k)

theorem rshl_step (xs ds : List Int) (s k : Nat) (R c y : Int) (hl : ds.length = s + k) (hy : y = xs[k]?.getD 0 * R + c) (E : val 256 ds + 256 ^ (s + k) * c = 256 ^ s * R * val 256 (xs.take k)) :
    val 256 (ds ++ [y % 256]) + 256 ^ (s + (k + 1)) * (y / 256) = 256 ^ s * R * val 256 (xs.take (k + 1)) := by
  rw [val_append, val_take_succ', hl, show s + (k + 1) = (s + k) + 1 by omega, Int.pow_succ]
  simp only [val, Int.mul_zero, Int.add_zero]
  have h := Int.emod_add_mul_ediv y 256
  generalize y / 256 = q at *
  generalize y % 256 = r at *
  generalize xs[k]?.getD 0 = x at *
  generalize val 256 (xs.take k) = X at *
  generalize val 256 ds = D at *
  rw [Int.pow_add] at E ⊢
  generalize (256 : Int) ^ s = P at *
  generalize (256 : Int) ^ k = Q at *
  subst hy
  grind

set_option maxHeartbeats 1000000 in
theorem rshl_good (ad : Option Addr) (nn c : Nat) (la : List Int) (n : Int) (w : World) (hn : nn ≤ 1099511627776) (hr : Rds w .u32 ad nn la) (da : Dig 4294967296 la)
    (hn0 : 0 ≤ n) (hV : val 4294967296 la ≠ 0) (hlim : n ≤ 8388608 - bitsOf (val 4294967296 la)) :
    Calls Tryz.prog 145 #[.slice ad nn c, .int .i64 n] w (RetLB 23 .u32 (dg 4294967296 (val 4294967296 la * 2 ^ n.toNat)) true w) := by
  have l1 := bytes_len hr.len da
  have C1 := Lib.hid (bytes_calls ad nn c la w (by omega) hr da)
  have C2 := Lib.hid (fun (w1 : World) (h : Below w.heap.size w w1) => rlen_calls ad nn c la w1 (by omega) (hr.below h (Nat.le_refl _)) da)
  have hV0 := val_nonneg (by omega) da
  have vx := Lib.hid (val_dg 256 (by omega) (val 4294967296 la) hV0)
  have hx0 : dg 256 (val 4294967296 la) ≠ [] := fun e => hV ((dg_nil 256 _ (by omega) hV0).1 e)
  have hx1 := List.length_pos_iff.2 hx0
  have dx : Dig 256 (dg 256 (val 4294967296 la)) := dg_dig 256 (by omega) _
  have hb0 : 0 ≤ bitsOf (val 4294967296 la) := by unfold bitsOf; omega
  clear hr hx0
  generalize dg 256 (val 4294967296 la) = xs at *
  obtain ⟨s, hs⟩ : ∃ s : Nat, n / 8 = s := ⟨(n / 8).toNat, by omega⟩
  obtain ⟨r, hrr⟩ : ∃ r : Nat, n % 8 = r := ⟨(n % 8).toNat, by omega⟩
  have hr8 : r < 8 := by omega
  have EV := Lib.hid (show 256 ^ s * 2 ^ r * val 4294967296 la = val 4294967296 la * 2 ^ n.toNat by
    have e : n.toNat = 8 * s + r := by omega
    rw [e, Int.pow_add, Int.pow_mul, show (2 : Int) ^ 8 = 256 from rfl, Int.mul_comm])
  have hR : (1 : Int) ≤ 2 ^ r ∧ (2 : Int) ^ r ≤ 128 := by
    have : ∀ r : Nat, r < 8 → (1 : Int) ≤ 2 ^ r ∧ (2 : Int) ^ r ≤ 128 := by decide
    exact this r hr8
  have hs21 : s ≤ 1048576 := by omega
  have hmk := make_rule (P := Tryz.prog) 182 3 .i64 8 Tryz.underlying182 info_int (by omega) s (by omega) (s : Int) rfl
  rw [← EV.out]
  generalize bitsOf (val 4294967296 la) = bb at *
  go_enter Tryz.func145, Tryz.ntmps145
  go_wp2_with fail
  refine (C1.out).mono ?_
  rintro e w1 ⟨xd, m, cx, rfl, ox, b1⟩
  have C2' := Lib.hid (C2.out w1 b1)
  have HM := Lib.hid ox.rds.len
  rw [HM.out] at l1 hx1
  clear C1 C2
  have hm0 : ((m : Int) == 0) = false := by simp; omega
  have hn9 : ¬ 8388608 < n := by omega
  go_wp2_with fail
  refine (C2'.out).mono ?_
  clear C2'
  rintro e w2 ⟨rfl, b2⟩
  have rx := (ox.below b2 (Nat.le_refl _)).rds
  have BB := below_trans b1 b2
  clear ox b1 b2
  have hw : IntKind.i64.wrap (bb + n) = bb + n := IntWalk.i64_in _ (by omega)
  have hbn : ¬ 8388608 < bb + n := by omega
  have k0 := Blk.made w2 3 .i64 (List.replicate s 0) w2.heap.size rfl
  have b0 : Below w2.heap.size w2 (w2.alloc (.cells (nums .i64 (List.replicate s 0)).toArray 3)) := (Below.refl _ _).alloc (Nat.le_refl _) _
  have hr0 : RShlR w2 xs s (2 ^ r) 0 0 (.slice (some ⟨w2.heap.size, 0, none⟩) s s) (w2.alloc (.cells (nums .i64 (List.replicate s 0)).toArray 3)) := by
    have A := k0.app w2.heap.size (Nat.le_refl _) (by rw [List.length_replicate]; omega)
    rw [List.length_replicate] at A
    exact ⟨_, s, _, rfl, A, Dig.replicate _ (by omega) _, b0, b0.size, by omega, by omega, by rw [val_replicate]; simp [val]⟩
  clear k0 b0
  go_wp2_with fail
  clear hmk
  rw [hs]
  go_loopw [9, 8, 7] (fun i cy v wr => ∃ k : Nat, ∃ c : Int, k ≤ m ∧ i = .int .i64 k ∧ cy = .int .i64 c ∧ RShlR w2 xs s (2 ^ r) k c v wr) (fun i _ _ _ => m - (intOf i).toNat)
  case atStart => exact ⟨0, 0, Nat.zero_le _, rfl, rfl, hr0⟩
  case round =>
    clear hr0
    obtain ⟨k, c, hk, rfl, rfl, ad3, c3, ds, rfl, g1, g2, g3, g4, g5, g6, g7⟩ := hrel
    have H7 := Lib.hid g7
    clear g7
    by_cases hkm : k < m
    · obtain ⟨a, rfl, hxl⟩ := (rx.below g3 (Nat.le_refl _)).cell k hkm
      have bx := dx.get (by omega) k
      have HE := Lib.hid (rshl_step xs ds s k (2 ^ r) c (xs[k]?.getD 0 * 2 ^ r + c) g1.len rfl H7.out)
      clear H7
      generalize xs[k]?.getD 0 = x at *
      have P0 : 0 ≤ x * 2 ^ r := Int.mul_nonneg bx.1 (by omega)
      have P1 : x * 2 ^ r ≤ 255 * 2 ^ r := Int.mul_le_mul_of_nonneg_right (by omega) (by omega)
      have W1 : IntKind.i64.wrap (x * 2 ^ r) = x * 2 ^ r := IntWalk.i64_in _ (by omega)
      have W2 : IntKind.i64.wrap (x * 2 ^ r + c) = x * 2 ^ r + c := IntWalk.i64_in _ (by omega)
      have W3 : (0 : Int) ≤ (k : Int) := by omega
      have Q0 : 0 ≤ x * 2 ^ r + c := by omega
      have Q1 : (x * 2 ^ r + c) / 256 < 2 ^ r := Int.ediv_lt_of_lt_mul (by omega) (by omega)
      have Q2 : 0 ≤ (x * 2 ^ r + c) / 256 := by omega
      have Q3 : 0 ≤ (x * 2 ^ r + c) % 256 ∧ (x * 2 ^ r + c) % 256 < 256 := by omega
      go_wp2_with fail
      go_quiet ((go_at_call 175; exact quiet_left (power_calls r hr8 _)))
      have G1 := g1.drewN nq
      have G3 := below_drewN g3 nq
      have G4 : w2.heap.size ≤ (wr.drewN nq).heap.size := g4
      clear W1 W2 W3 P1 hxl g1 g3 g4
      generalize wr.drewN nq = w3 at *
      go_wp2_with (at_builtin; refine app_one w2.heap.size rfl (.tmp 46) (.tmp 49) 182 3 .i64 8 rfl Tryz.underlying182 info_int (by omega) ad3 (s + k) c3 ds ((x * 2 ^ r + c) % 256) rfl rfl G1 G3 G4 (by omega) ?_; intro ad4 c4 w4 k1 k2 k3)
      go_roundw
      case rel => exact ⟨k + 1, _, by omega, by go_num, rfl, ad4, c4, _, rfl, k1, g2.append (Dig.cons Q3.1 Q3.2 (Dig.nil _)), k2, k3, Q2, Q1, HE.out⟩
      case measure => simp [intOf]; omega
    · obtain rfl : k = m := by omega
      have hv : val 256 (ds ++ [c]) = 256 ^ s * 2 ^ r * val 4294967296 la := by
        have := H7.out
        rw [List.take_of_length_le (by rw [HM.out]; exact Nat.le_refl _), show val 256 xs = val 4294967296 la from vx.out] at this
        rw [val_append, ← this, g1.len]
        simp [val]
      have HV := Lib.hid hv
      have dd : Dig 256 (ds ++ [c]) := g2.append (Dig.cons g5 (by omega) (Dig.nil _))
      clear hv
      go_wp2_with (at_builtin; refine app_one w2.heap.size rfl (.tmp 53) (.tmp 55) 182 3 .i64 8 rfl Tryz.underlying182 info_int (by omega) ad3 (s + k) c3 ds c rfl rfl g1 g3 g4 (by omega) ?_; intro ad4 c4 w4 k1 k2 k3)
      have hl := limbs_calls ad4 (s + k + 1) c4 (ds ++ [c]) w4 (by omega) k1.own.le k1.rds dd
      rw [HV.out] at hl
      refine hl.mono ?_
      rintro e w' hr
      obtain ⟨rd, nr, cr, rfl, or, br⟩ := hr.after (below_trans BB k2)
      go_wp2_with fail
      go_ret2
      exact ⟨_, _, _, rfl, or, br⟩

/-- crucibleref01.Shl at any number. -/
theorem rshl_calls (ad : Option Addr) (nn c : Nat) (la : List Int) (n : Int) (w : World) (hn : nn ≤ 1099511627776) (hr : Rds w .u32 ad nn la) (da : Dig 4294967296 la) (hnb : -9223372036854775808 ≤ n ∧ n < 9223372036854775808) :
    Calls Tryz.prog 145 #[.slice ad nn c, .int .i64 n] w (RetLB 23 .u32 (dg 4294967296 (shlNum (val 4294967296 la) n)) (shlOk (val 4294967296 la) n) w) := by
  obtain ⟨hn1, hn2⟩ := hnb
  have C1 := Lib.hid (bytes_calls ad nn c la w (by omega) hr da)
  have hV0 := val_nonneg (by omega) da
  by_cases h0 : n < 0
  · have hok : shlOk (val 4294967296 la) n = false := decide_eq_false (by omega)
    have HN := Lib.hid (show shlNum (val 4294967296 la) n = 0 by unfold shlNum; rw [hok]; rfl)
    have HO := Lib.hid hok
    clear hok
    go_enter Tryz.func145, Tryz.ntmps145
    go_wp2
    go_ret2
    rw [HN.out, HO.out, dg_zero]
    exact ⟨none, 0, 0, rfl, Own.nil _ _ _ _ _, Below.refl _ _⟩
  · by_cases hV : val 4294967296 la = 0
    · have hok : shlOk (val 4294967296 la) n = true := decide_eq_true ⟨by omega, .inl hV⟩
      have HN := Lib.hid (show shlNum (val 4294967296 la) n = 0 by unfold shlNum; rw [if_pos hok, hV, Int.zero_mul])
      have HO := Lib.hid hok
      have HX := Lib.hid ((dg_nil 256 _ (by omega) hV0).2 hV)
      clear hok hV
      go_enter Tryz.func145, Tryz.ntmps145
      go_wp2_with fail
      refine (C1.out).mono ?_
      rintro e w1 ⟨xd, m, cx, rfl, ox, b1⟩
      have hm := ox.len
      rw [show dg 256 (val 4294967296 la) = [] from HX.out] at hm
      simp only [List.length_nil] at hm
      subst hm
      go_wp2
      go_ret2
      rw [HN.out, HO.out, dg_zero]
      exact ⟨none, 0, 0, rfl, Own.nil _ _ _ _ _, b1⟩
    · by_cases hlim : n ≤ 8388608 - bitsOf (val 4294967296 la)
      · have hok : shlOk (val 4294967296 la) n = true := decide_eq_true ⟨by omega, .inr hlim⟩
        have := rshl_good ad nn c la n w hn hr da (by omega) hV hlim
        unfold shlNum
        rw [if_pos hok, hok]
        exact this
      · have hok : shlOk (val 4294967296 la) n = false := decide_eq_false (by unfold bitsOf at hlim; omega)
        have HN := Lib.hid (show shlNum (val 4294967296 la) n = 0 by unfold shlNum; rw [hok]; rfl)
        have HO := Lib.hid hok
        have l1 := bytes_len hr.len da
        have hx0 : dg 256 (val 4294967296 la) ≠ [] := fun e => hV ((dg_nil 256 _ (by omega) hV0).1 e)
        have hx1 := List.length_pos_iff.2 hx0
        have C2 := Lib.hid (fun (w1 : World) (h : Below w.heap.size w w1) => rlen_calls ad nn c la w1 (by omega) (hr.below h (Nat.le_refl _)) da)
        have hb0 : 0 ≤ bitsOf (val 4294967296 la) := by unfold bitsOf; omega
        have hb1 : bitsOf (val 4294967296 la) ≤ 35184372088832 := by
          have h1 := val_lt (by omega) da
          rw [hr.len, show (4294967296 : Int) = 2 ^ 32 from rfl, ← Int.pow_mul] at h1
          unfold bitsOf
          by_cases h2 : (val 4294967296 la).toNat = 0
          · rw [h2, blen_zero]; decide
          · have h3 := blen_ge (val 4294967296 la).toNat h2
            have h4 : (val 4294967296 la).toNat < 2 ^ (32 * nn) := by
              have : ((2 ^ (32 * nn) : Nat) : Int) = 2 ^ (32 * nn) := by simp
              rw [show (4294967296 : Int) = 2 ^ 32 from rfl] at hV0 ⊢
              omega
            have h5 := (Nat.pow_lt_pow_iff_right (by omega : 1 < 2)).1 (Nat.lt_of_le_of_lt h3 h4)
            omega
        clear hok hV hx0 hr hV0
        generalize bitsOf (val 4294967296 la) = bb at *
        go_enter Tryz.func145, Tryz.ntmps145
        go_wp2_with fail
        refine (C1.out).mono ?_
        rintro e w1 ⟨xd, m, cx, rfl, ox, b1⟩
        have C2' := Lib.hid (C2.out w1 b1)
        rw [ox.len] at l1 hx1
        clear C1 C2 ox
        have hm0 : ((m : Int) == 0) = false := by simp; omega
        by_cases hbig : 8388608 < n
        · go_wp2
          go_ret2
          rw [HN.out, HO.out, dg_zero]
          exact ⟨none, 0, 0, rfl, Own.nil _ _ _ _ _, b1⟩
        · have hw : IntKind.i64.wrap (bb + n) = bb + n := IntWalk.i64_in _ (by omega)
          have hbn : 8388608 < bb + n := by omega
          go_wp2_with fail
          refine (C2'.out).mono ?_
          clear C2'
          rintro e w2 ⟨rfl, b2⟩
          go_wp2
          go_ret2
          rw [HN.out, HO.out, dg_zero]
          exact ⟨none, 0, 0, rfl, Own.nil _ _ _ _ _, below_trans b1 b2⟩
end Go.Proofs.YtoimhjcpeifegaaGreatDoor

/- Printed by ieee.py. -/
namespace Go.Proofs.YtoimhjcpeifegaaGreatDoor
open Go.RowKit

/-- The table of shapes as its initialiser lays it. -/
structure Shapes (w : World) : Prop where
  c0 : w.cell? ⟨2, 0, none⟩ = some (.int .i64 10)
  c1 : w.cell? ⟨2, 1, none⟩ = some (.int .i64 (-24))
  c2 : w.cell? ⟨2, 2, none⟩ = some (.int .i64 5)
  c3 : w.cell? ⟨2, 3, none⟩ = some (.int .i64 23)
  c4 : w.cell? ⟨2, 4, none⟩ = some (.int .i64 (-149))
  c5 : w.cell? ⟨2, 5, none⟩ = some (.int .i64 8)
  c6 : w.cell? ⟨2, 6, none⟩ = some (.int .i64 52)
  c7 : w.cell? ⟨2, 7, none⟩ = some (.int .i64 (-1074))
  c8 : w.cell? ⟨2, 8, none⟩ = some (.int .i64 11)

theorem Shapes.below {w w1 : World} (h : Shapes w) {B : Nat} (hb : Below B w w1) (hB : w.heap.size ≤ B) : Shapes w1 :=
  ⟨below_cell hb hB h.c0, below_cell hb hB h.c1, below_cell hb hB h.c2, below_cell hb hB h.c3, below_cell hb hB h.c4, below_cell hb hB h.c5, below_cell hb hB h.c6, below_cell hb hB h.c7, below_cell hb hB h.c8⟩

theorem size_shape : (Tryz.prog.info? 95).map (·.size) = some 3 := by kernel_rfl

/-- A width's shape as a value. -/
def shV (W : Nat) : Value := .agg #[.int .i64 (shF W), .int .i64 (shL W), .int .i64 (shE W)]
end Go.Proofs.YtoimhjcpeifegaaGreatDoor

/- The nearest pattern as a function, and what the ways of finding it find: plain facts. -/
namespace Go.Proofs.YtoimhjcpeifegaaGreatDoor

theorem numN_zero (F : Nat) : numN F 0 = 0 := by
  unfold numN
  rw [if_pos (Nat.two_pow_pos F)]

theorem low_exists (F U X : Nat) : ∀ I, ∃ low, low ≤ I ∧ numN F low * U ≤ X ∧ (low < I → X < numN F (low + 1) * U)
  | 0 => ⟨0, Nat.le_refl _, by rw [numN_zero]; omega, fun h => absurd h (Nat.lt_irrefl _)⟩
  | I + 1 => by
    obtain ⟨low, h1, h2, h3⟩ := low_exists F U X I
    by_cases h : low < I
    · exact ⟨low, by omega, h2, fun _ => h3 h⟩
    · obtain rfl : low = I := by omega
      by_cases h4 : numN F (low + 1) * U ≤ X
      · exact ⟨low + 1, Nat.le_refl _, h4, fun h => absurd h (Nat.lt_irrefl _)⟩
      · exact ⟨low, by omega, h2, fun _ => by omega⟩

theorem nearest_exists (F I U X : Nat) : ∃ r, Nearest F I U X r := by
  obtain ⟨low, h1, h2, h3⟩ := low_exists F U X I
  exact ⟨_, low, h1, h2, h3, rfl⟩

/-- The size of the nearest pattern. -/
noncomputable def nearN (F I U X : Nat) : Nat := Classical.choose (nearest_exists F I U X)
theorem nearN_spec (F I U X : Nat) : Nearest F I U X (nearN F I U X) := Classical.choose_spec (nearest_exists F I U X)
theorem nearN_eq {F I U X r : Nat} (h : Nearest F I U X r) : nearN F I U X = r := (nearN_spec F I U X).unique h
theorem Nearest.le {F I U X r : Nat} (h : Nearest F I U X r) : r ≤ I := by
  obtain ⟨low, h1, h2, h3, rfl⟩ := h
  split
  · omega
  · split <;> omega

/-- M 2^e in least steps (of 2^L), or in parts of one. -/
def rU (L e : Int) : Nat := 2 ^ (L - e).toNat
def rX (L e : Int) (M : Nat) : Nat := M * 2 ^ (e - L).toNat
def rM (V : Int) (more : Bool) : Nat := if more then 2 * V.toNat + 1 else V.toNat
def rE (e : Int) (more : Bool) : Int := if more then e - 1 else e
def infN (W : Nat) : Nat := (2 ^ shE W - 1) * 2 ^ shF W
/-- The power of 2 that the infinite pattern would be, in least steps. -/
def topP (W : Nat) : Nat := shF W + 2 ^ shE W - 2
noncomputable def nearE (W : Nat) (M : Nat) (e : Int) : Nat := nearN (shF W) (infN W) (rU (shL W) e) (rX (shL W) e M)
/-- What Round answers. -/
noncomputable def roundW (W : Nat) (neg : Bool) (V e : Int) (more : Bool) : Int := (if neg then sgnW W else 0) + nearE W (rM V more) (rE e more)

theorem infW_eq {W : Nat} (hW : Wide W) : infW W = infN W := by rcases hW with rfl | rfl | rfl <;> decide
theorem nearE_le (W M : Nat) (e : Int) : nearE W M e ≤ infN W := (nearN_spec _ _ _ _).le
theorem infN_lt {W : Nat} (hW : Wide W) : (infN W : Int) < sgnW W := by rcases hW with rfl | rfl | rfl <;> decide

theorem rU_pos (L e : Int) : 0 < rU L e := Nat.two_pow_pos _

theorem numN_inf {W : Nat} (hW : Wide W) : numN (shF W) (infN W) = 2 ^ topP W := by
  have h : ∀ F E, 2 ≤ 2 ^ E → numN F ((2 ^ E - 1) * 2 ^ F) = 2 ^ (F + 2 ^ E - 2) := by
    intro F E hE
    have h := numN_at F (2 ^ E - 2) (2 ^ F) (.inr (Nat.le_refl _)) (by rw [Nat.pow_succ]; omega)
    rw [show (2 ^ E - 2) * 2 ^ F + 2 ^ F = (2 ^ E - 1) * 2 ^ F by rw [← Nat.succ_mul]; congr 1; omega] at h
    rw [h, ← Nat.pow_add]
    congr 1
    omega
  exact h _ _ (by rcases hW with rfl | rfl | rfl <;> decide)

theorem nearE_inf {W : Nat} (hW : Wide W) (M b : Nat) (e : Int) (hb : 2 ^ b ≤ M) (h : (topP W : Int) ≤ b + e - shL W) : nearE W M e = infN W := by
  refine nearN_eq (nearest_inf _ _ _ _ ?_)
  rw [numN_inf hW]
  unfold rU rX
  rw [← Nat.pow_add]
  refine Nat.le_trans ?_ (Nat.mul_le_mul_right _ hb)
  rw [← Nat.pow_add]
  exact Nat.pow_le_pow_right (by omega) (by omega)

theorem infN_pos {W : Nat} (hW : Wide W) : 0 < infN W := by rcases hW with rfl | rfl | rfl <;> decide

theorem nearE_small {W : Nat} (hW : Wide W) (M b : Nat) (e : Int) (hb : M < 2 ^ b) (h : (b : Int) + e + 1 ≤ shL W) : nearE W M e = 0 := by
  refine nearN_eq (nearest_zero _ _ _ _ (infN_pos hW) ?_)
  unfold rU rX
  rw [show (e - shL W).toNat = 0 by omega, Nat.pow_zero, Nat.mul_one]
  have h2 : 2 ^ (b + 1) ≤ 2 ^ (shL W - e).toNat := Nat.pow_le_pow_right (by omega) (by omega)
  rw [Nat.pow_succ] at h2
  omega

theorem nearE_zero {W : Nat} (hW : Wide W) (e : Int) : nearE W 0 e = 0 := by
  refine nearN_eq (nearest_zero _ _ _ _ (infN_pos hW) ?_)
  unfold rX
  rw [Nat.zero_mul]
  exact rU_pos _ _

/-- s places below the last one are cut off, and it is rounded. -/
def rounded (M s : Nat) : Nat := if 2 ^ s < 2 * (M % 2 ^ s) ∨ (2 * (M % 2 ^ s) = 2 ^ s ∧ M / 2 ^ s % 2 = 1) then M / 2 ^ s + 1 else M / 2 ^ s

theorem wide_F {W : Nat} (hW : Wide W) : 0 < shF W := by rcases hW with rfl | rfl | rfl <;> decide

theorem nearE_cut {W : Nat} (hW : Wide W) (M d s : Nat) (e : Int) (hs : (s : Int) = shL W + d - e) (h1 : d = 0 ∨ 2 ^ shF W ≤ M / 2 ^ s) (h2 : M / 2 ^ s < 2 ^ (shF W + 1)) (hd : d + 2 < 2 ^ shE W) :
    nearE W M e = d * 2 ^ shF W + rounded M s := by
  refine nearN_eq ?_
  have eU : 2 ^ d * rU (shL W) e = 2 ^ s * 2 ^ (e - shL W).toNat := by
    unfold rU
    rw [← Nat.pow_add, ← Nat.pow_add]
    congr 1
    omega
  have hc : 0 < 2 ^ (e - shL W).toNat := Nat.two_pow_pos _
  have eX : rX (shL W) e M = M * 2 ^ (e - shL W).toNat := rfl
  have hk : M / 2 ^ s = rX (shL W) e M / (2 ^ d * rU (shL W) e) := by
    rw [eU, eX, Nat.mul_div_mul_right _ _ hc]
  have hm : rX (shL W) e M % (2 ^ d * rU (shL W) e) = M % 2 ^ s * 2 ^ (e - shL W).toNat := by
    rw [eU, eX, Nat.mul_mod_mul_right]
  have h := nearest_direct (shF W) (infN W) (rU (shL W) e) (rX (shL W) e M) d (M / 2 ^ s) hk (rU_pos _ _) h1 h2 ?_ (.inr (wide_F hW))
  · rw [hm, eU] at h
    have i1 : (2 ^ s * 2 ^ (e - shL W).toNat < 2 * (M % 2 ^ s * 2 ^ (e - shL W).toNat)) ↔ 2 ^ s < 2 * (M % 2 ^ s) := by
      rw [← Nat.mul_assoc]
      exact Nat.mul_lt_mul_right hc
    have i2 : (2 * (M % 2 ^ s * 2 ^ (e - shL W).toNat) = 2 ^ s * 2 ^ (e - shL W).toNat) ↔ 2 * (M % 2 ^ s) = 2 ^ s := by
      rw [← Nat.mul_assoc]
      exact Nat.mul_left_inj (by omega)
    simp only [i1, i2] at h
    exact h
  · unfold infN
    rw [Nat.pow_succ] at h2
    have hp := Nat.two_pow_pos (shF W)
    have h3 : (d + 2) * 2 ^ shF W ≤ (2 ^ shE W - 1) * 2 ^ shF W := Nat.mul_le_mul_right _ (by omega)
    rw [Nat.add_mul] at h3
    omega

theorem rounded_zero (M : Nat) : rounded M 0 = M := by
  unfold rounded
  rw [Nat.pow_zero, Nat.mod_one, Nat.div_one]
  simp

/-- Nothing is cut off. -/
theorem nearE_exact {W : Nat} (hW : Wide W) (M d t : Nat) (e : Int) (ht : e = shL W + d + t) (h1 : d = 0 ∨ 2 ^ shF W ≤ M * 2 ^ t) (h2 : M * 2 ^ t < 2 ^ (shF W + 1)) (hd : d + 2 < 2 ^ shE W) :
    nearE W M e = d * 2 ^ shF W + M * 2 ^ t := by
  have h := nearE_cut hW (M * 2 ^ t) d 0 (shL W + d) (by omega) (by simpa using h1) (by simpa using h2) hd
  rw [rounded_zero] at h
  rw [← h]
  unfold nearE
  have e1 : rU (shL W) e = rU (shL W) (shL W + d) := by
    unfold rU
    rw [show (shL W - e).toNat = 0 by omega, show (shL W - (shL W + d)).toNat = 0 by omega]
  have e2 : rX (shL W) e M = rX (shL W) (shL W + d) (M * 2 ^ t) := by
    unfold rX
    rw [Nat.mul_assoc, ← Nat.pow_add]
    congr 2
    omega
  rw [e1, e2]

/-- The program's way: q and whether something is left, one place more than is kept. -/
theorem rounded_prog (M s : Nat) (q : Nat) (hq : q = M / 2 ^ s) :
    rounded M (s + 1) = if q % 2 = 1 ∧ (M % 2 ^ s ≠ 0 ∨ q / 2 % 2 = 1) then q / 2 + 1 else q / 2 := by
  have hP := Nat.two_pow_pos s
  have h1 : M / 2 ^ (s + 1) = q / 2 := by rw [hq, Nat.pow_succ, ← Nat.div_div_eq_div_mul]
  have h2 : M % 2 ^ (s + 1) = M % 2 ^ s + 2 ^ s * (q % 2) := by rw [hq, Nat.pow_succ, Nat.mod_mul]
  have h3 := Nat.mod_lt M hP
  unfold rounded
  rw [h1, h2, Nat.pow_succ]
  rcases Nat.mod_two_eq_zero_or_one q with h | h
  · rw [h, if_neg (by omega), if_neg (by omega)]
  · rw [h, Nat.mul_one]
    by_cases hz : M % 2 ^ s = 0
    · rw [hz]
      by_cases h4 : q / 2 % 2 = 1
      · rw [if_pos (by omega), if_pos (by omega)]
      · rw [if_neg (by omega), if_neg (by omega)]
    · rw [if_pos (by omega), if_pos (by omega)]

/-- The same number, more places. -/
theorem nearE_shift (W M k : Nat) (e : Int) : nearE W (M * 2 ^ k) (e - k) = nearE W M e := by
  unfold nearE
  symm
  have h1 : rU (shL W) (e - k) * 2 ^ (k - ((e - k) - shL W).toNat + (e - shL W).toNat - (e - shL W).toNat) = rU (shL W) (e - k) * 2 ^ (k - ((e - k) - shL W).toNat) := by
    rw [Nat.add_sub_cancel]
  have key : ∃ a b, 0 < a ∧ 0 < b ∧ rU (shL W) e * a = rU (shL W) (e - k) * b ∧ rX (shL W) e M * a = rX (shL W) (e - k) (M * 2 ^ k) * b := by
    refine ⟨2 ^ (shL W - (e - k)).toNat, 2 ^ (shL W - e).toNat, Nat.two_pow_pos _, Nat.two_pow_pos _, ?_, ?_⟩
    · unfold rU
      rw [Nat.mul_comm]
    · unfold rX
      rw [Nat.mul_assoc, Nat.mul_assoc, Nat.mul_assoc, ← Nat.pow_add, ← Nat.pow_add, ← Nat.pow_add]
      congr 2
      omega
  obtain ⟨a, b, ha, hb, e1, e2⟩ := key
  have s1 := (nearN_spec (shF W) (infN W) (rU (shL W) e) (rX (shL W) e M)).scale a ha
  have s2 := (nearN_spec (shF W) (infN W) (rU (shL W) (e - k)) (rX (shL W) (e - k) (M * 2 ^ k))).scale b hb
  rw [e1, e2] at s1
  exact s1.unique s2
end Go.Proofs.YtoimhjcpeifegaaGreatDoor

/- Printed by ieee.py. -/
namespace Go.Proofs.YtoimhjcpeifegaaGreatDoor
open Go.RowKit

theorem and_two_pow_nat (x k : Nat) (hx : x < 2 ^ (k + 1)) : x &&& 2 ^ k = if 2 ^ k ≤ x then 2 ^ k else 0 := by
  apply Nat.eq_of_testBit_eq
  intro i
  rw [Nat.testBit_and, Nat.testBit_two_pow]
  by_cases h : k = i
  · subst h
    by_cases h2 : 2 ^ k ≤ x
    · rw [if_pos h2, Nat.testBit_two_pow_self]
      have : x.testBit k = true := by
        rw [Nat.testBit_eq_decide_div_mod_eq]
        rw [Nat.pow_succ] at hx
        have h3 : x / 2 ^ k = 1 := by
          apply Nat.div_eq_of_lt_le <;> omega
        rw [h3]
        rfl
      simp [this]
    · rw [if_neg h2, Nat.testBit_lt_two_pow (by omega)]
      simp
  · have h3 : decide (k = i) = false := by simp [h]
    rw [h3, Bool.and_false]
    split
    · rw [Nat.testBit_two_pow, h3]
    · simp

theorem andNot_two_pow_nat (x k : Nat) (hk : k < 64) (hx : x < 2 ^ (k + 1)) : x &&& (2 ^ 64 - (2 ^ k + 1)) = x % 2 ^ k := by
  apply Nat.eq_of_testBit_eq
  intro i
  have h1 : 2 ^ k < 2 ^ 64 := Nat.pow_lt_pow_right (by omega) hk
  rw [Nat.testBit_and, Nat.testBit_two_pow_sub_succ h1, Nat.testBit_mod_two_pow, Nat.testBit_two_pow]
  by_cases hik : i < k
  · have h2 : i < 64 := by omega
    have h3 : ¬ k = i := by omega
    simp [hik, h2, h3]
  · by_cases he : k = i
    · subst he
      simp
    · rw [Nat.testBit_lt_two_pow (Nat.lt_of_lt_of_le hx (Nat.pow_le_pow_right (by omega) (by omega)))]
      simp

theorem bits_andNot_u64_nat (a b : Nat) (ha : a < 18446744073709551616) (hb : b < 18446744073709551616) : bits .andNot .u64 (a : Int) (b : Int) = ((a &&& (2 ^ 64 - (b + 1)) : Nat) : Int) := by
  have h1 : (BitVec.ofInt 64 (a : Int)).toNat = a := by
    rw [BitVec.ofInt_natCast, BitVec.toNat_ofNat]; exact Nat.mod_eq_of_lt (by omega)
  have h2 : (BitVec.ofInt 64 (b : Int)).toNat = b := by
    rw [BitVec.ofInt_natCast, BitVec.toNat_ofNat]; exact Nat.mod_eq_of_lt (by omega)
  have hx : a &&& (2 ^ 64 - (b + 1)) < 2 ^ 64 := Nat.lt_of_le_of_lt Nat.and_le_left (by omega)
  show IntKind.u64.wrap ((BitVec.ofInt 64 (a : Int) &&& ~~~ BitVec.ofInt 64 (b : Int)).toNat : Int) = _
  rw [BitVec.toNat_and, BitVec.toNat_not, h1, h2, show 2 ^ 64 - 1 - b = 2 ^ 64 - (b + 1) by omega, IntKind.wrap_u64]
  omega

theorem and_sign_16 (x : Int) (hx : 0 ≤ x ∧ x < 65536) : (bits .and .u64 x 32768 != 0) = negW 16 x := by
  obtain ⟨x, rfl⟩ := Int.eq_ofNat_of_zero_le hx.1
  have e : bits .and .u64 (x : Int) ((32768 : Nat) : Int) = ((x &&& 32768 : Nat) : Int) := Go.bits_and_u64_nat x _ (by omega) (by omega)
  have h := and_two_pow_nat x 15 (by omega)
  rw [show (2 : Nat) ^ 15 = 32768 from by decide] at h
  rw [show ((32768 : Nat) : Int) = 32768 from rfl, h] at e
  unfold negW
  rw [sgn16, e, Bool.eq_iff_iff]
  simp only [bne_iff_ne, ne_eq, decide_eq_true_eq]
  split <;> omega
theorem andNot_sign_16 (x : Int) (hx : 0 ≤ x ∧ x < 65536) : bits .andNot .u64 x 32768 = sizeW 16 x := by
  obtain ⟨x, rfl⟩ := Int.eq_ofNat_of_zero_le hx.1
  have e : bits .andNot .u64 (x : Int) ((32768 : Nat) : Int) = _ := bits_andNot_u64_nat x _ (by omega) (by omega)
  have h := andNot_two_pow_nat x 15 (by omega) (by omega)
  rw [show (2 : Nat) ^ 15 = 32768 from by decide] at h
  rw [show ((32768 : Nat) : Int) = 32768 from rfl, h] at e
  unfold sizeW
  rw [sgn16, e]
  split <;> omega

theorem and_sign_32 (x : Int) (hx : 0 ≤ x ∧ x < 4294967296) : (bits .and .u64 x 2147483648 != 0) = negW 32 x := by
  obtain ⟨x, rfl⟩ := Int.eq_ofNat_of_zero_le hx.1
  have e : bits .and .u64 (x : Int) ((2147483648 : Nat) : Int) = ((x &&& 2147483648 : Nat) : Int) := Go.bits_and_u64_nat x _ (by omega) (by omega)
  have h := and_two_pow_nat x 31 (by omega)
  rw [show (2 : Nat) ^ 31 = 2147483648 from by decide] at h
  rw [show ((2147483648 : Nat) : Int) = 2147483648 from rfl, h] at e
  unfold negW
  rw [sgn32, e, Bool.eq_iff_iff]
  simp only [bne_iff_ne, ne_eq, decide_eq_true_eq]
  split <;> omega
theorem andNot_sign_32 (x : Int) (hx : 0 ≤ x ∧ x < 4294967296) : bits .andNot .u64 x 2147483648 = sizeW 32 x := by
  obtain ⟨x, rfl⟩ := Int.eq_ofNat_of_zero_le hx.1
  have e : bits .andNot .u64 (x : Int) ((2147483648 : Nat) : Int) = _ := bits_andNot_u64_nat x _ (by omega) (by omega)
  have h := andNot_two_pow_nat x 31 (by omega) (by omega)
  rw [show (2 : Nat) ^ 31 = 2147483648 from by decide] at h
  rw [show ((2147483648 : Nat) : Int) = 2147483648 from rfl, h] at e
  unfold sizeW
  rw [sgn32, e]
  split <;> omega

theorem and_sign_64 (x : Int) (hx : 0 ≤ x ∧ x < 18446744073709551616) : (bits .and .u64 x 9223372036854775808 != 0) = negW 64 x := by
  obtain ⟨x, rfl⟩ := Int.eq_ofNat_of_zero_le hx.1
  have e : bits .and .u64 (x : Int) ((9223372036854775808 : Nat) : Int) = ((x &&& 9223372036854775808 : Nat) : Int) := Go.bits_and_u64_nat x _ (by omega) (by omega)
  have h := and_two_pow_nat x 63 (by omega)
  rw [show (2 : Nat) ^ 63 = 9223372036854775808 from by decide] at h
  rw [show ((9223372036854775808 : Nat) : Int) = 9223372036854775808 from rfl, h] at e
  unfold negW
  rw [sgn64, e, Bool.eq_iff_iff]
  simp only [bne_iff_ne, ne_eq, decide_eq_true_eq]
  split <;> omega
theorem andNot_sign_64 (x : Int) (hx : 0 ≤ x ∧ x < 18446744073709551616) : bits .andNot .u64 x 9223372036854775808 = sizeW 64 x := by
  obtain ⟨x, rfl⟩ := Int.eq_ofNat_of_zero_le hx.1
  have e : bits .andNot .u64 (x : Int) ((9223372036854775808 : Nat) : Int) = _ := bits_andNot_u64_nat x _ (by omega) (by omega)
  have h := andNot_two_pow_nat x 63 (by omega) (by omega)
  rw [show (2 : Nat) ^ 63 = 9223372036854775808 from by decide] at h
  rw [show ((9223372036854775808 : Nat) : Int) = 9223372036854775808 from rfl, h] at e
  unfold sizeW
  rw [sgn64, e]
  split <;> omega
end Go.Proofs.YtoimhjcpeifegaaGreatDoor

/- Shl by worth alone. -/
namespace Go.Proofs.YtoimhjcpeifegaaGreatDoor
open Go.RowKit

theorem num_shl (ad : Option Addr) (n c : Nat) (V : Int) (r : Int) (w : World) (h : Num w ad n c V) (hn : n ≤ 70368744177663) (hr : -9223372036854775808 ≤ r ∧ r < 9223372036854775808) :
    Calls Tryz.prog 112 #[.slice ad n c, .int .i64 r] w (RetCB (shlNum V r) (shlOk V r) w) := by
  obtain ⟨xs, h1, h2, rfl⟩ := h.row
  exact (shl_calls ad n c xs r w (by omega) h.le h1 h2 hr).mono fun e w' q => q.can
end Go.Proofs.YtoimhjcpeifegaaGreatDoor

/- Shr by worth alone. -/
namespace Go.Proofs.YtoimhjcpeifegaaGreatDoor
open Go.RowKit

theorem num_shr (ad : Option Addr) (n c : Nat) (V : Int) (r : Int) (w : World) (h : Num w ad n c V) (hn : n ≤ 70368744177663) (hr : -9223372036854775808 ≤ r ∧ r < 9223372036854775808) :
    Calls Tryz.prog 123 #[.slice ad n c, .int .i64 r] w (RetCBB (shrNum V r) (shrMore V r) (decide (0 ≤ r)) w) := by
  obtain ⟨xs, h1, h2, rfl⟩ := h.row
  exact (shr_calls ad n c xs r w (by omega) h.le h1 h2 hr).mono fun e w' q => q.can
end Go.Proofs.YtoimhjcpeifegaaGreatDoor

/- The class of a pattern: plain. -/
namespace Go.Proofs.YtoimhjcpeifegaaGreatDoor

def clsW (W : Nat) (x : Int) : Int := if infW W < sizeW W x then 5 else if sizeW W x = infW W then 4 else if sizeW W x = 0 then 1 else if sizeW W x < 2 ^ shF W then 2 else 3

theorem nan_cls (W : Nat) (x : Int) : (clsW W x == 5) = isNaN W x := by
  unfold clsW isNaN
  split
  · rename_i h; simp [h]
  · rename_i h
    rw [decide_eq_false h]
    split
    · rfl
    · split
      · rfl
      · split <;> rfl
end Go.Proofs.YtoimhjcpeifegaaGreatDoor

/- crucibleref04: Sign, two, Neg, Size. -/
namespace Go.Proofs.YtoimhjcpeifegaaGreatDoor
open Go.RowKit

theorem two_grows (k n : Nat) (hn : n ≤ 63) (hk : k < n) : (2 * 2 ^ k : Int) % 18446744073709551616 = 2 ^ (k + 1) ∧ (0 : Int) ≤ 2 * 2 ^ k ∧ (2 * 2 ^ k : Int) < 18446744073709551616 := by
  have h1 : (2 : Int) ^ (k + 1) ≤ 2 ^ 63 := pow_le (by omega) (by omega)
  have h2 : (0 : Int) < 2 ^ k := Int.pow_pos (by omega)
  rw [Int.pow_succ] at h1 ⊢
  rw [show (2 : Int) ^ 63 = 9223372036854775808 from rfl] at h1
  omega

theorem rtwo_calls (n : Nat) (hn : n ≤ 63) (w : World) : Calls Tryz.prog 139 #[.int .i64 n] w (fun e w' => e = .returned (.int .u64 (2 ^ n)) ∧ w = w') := by
  go_enter Tryz.func139, Tryz.ntmps139
  go_wp2
  go_loop [3, 4] (fun x i => ∃ k : Nat, k ≤ n ∧ i = .int .i64 k ∧ x = .int .u64 (2 ^ k)) (fun _ i => n - (intOf i).toNat)
  case atStart => exact ⟨0, Nat.zero_le _, rfl, rfl⟩
  case round =>
    obtain ⟨k, hk, rfl, rfl⟩ := hrel
    by_cases hkn : k < n
    · have hg := two_grows k n hn hkn
      have W1 : IntKind.u64.wrap (2 * 2 ^ k) = 2 ^ (k + 1) := by rw [IntKind.wrap_u64]; exact hg.1
      have W2 := hg.1
      clear hg
      go_wp2
      go_round
      case rel => exact ⟨k + 1, by omega, by go_num, rfl⟩
      case measure => simp [intOf]; omega
    · obtain rfl : k = n := by omega
      go_wp2
      go_ret
      exact ⟨rfl, rfl⟩

theorem rsign_calls (W : Nat) (hW : Wide W) (w : World) : Calls Tryz.prog 133 #[.int .i64 W] w (fun e w' => e = .returned (.int .u64 (sgnW W)) ∧ w = w') := by
  have h1 : 1 ≤ W ∧ W ≤ 64 := by rcases hW with rfl | rfl | rfl <;> omega
  have HS := Lib.hid (show sgnW W = 2 ^ (W - 1) from rfl)
  clear hW
  go_enter Tryz.func133, Tryz.ntmps133
  go_wp2
  go_loop [3, 4] (fun x i => ∃ k : Nat, k + 1 ≤ W ∧ i = .int .i64 (k + 1) ∧ x = .int .u64 (2 ^ k)) (fun _ i => W - (intOf i).toNat)
  case atStart => exact ⟨0, by omega, rfl, rfl⟩
  case round =>
    obtain ⟨k, hk, rfl, rfl⟩ := hrel
    by_cases hkn : k + 1 < W
    · have hg := two_grows k (W - 1) (by omega) (by omega)
      have W1 : IntKind.u64.wrap (2 * 2 ^ k) = 2 ^ (k + 1) := by rw [IntKind.wrap_u64]; exact hg.1
      have W2 := hg.1
      have W3 : (k : Int) + 1 < W := by omega
      clear hg
      go_wp2
      go_round
      case rel => exact ⟨k + 1, by omega, by go_num, rfl⟩
      case measure => simp [intOf]; omega
    · have W3 : ¬ (k : Int) + 1 < W := by omega
      have HE := Lib.hid (show (2 : Int) ^ k = sgnW W by rw [HS.out, show W - 1 = k by omega])
      go_wp2
      go_ret
      rw [HE.out]
      exact ⟨rfl, rfl⟩

theorem rneg_calls (W : Nat) (hW : Wide W) (x : Int) (w : World) : Calls Tryz.prog 132 #[.int .i64 W, .int .u64 x] w (fun e w' => e = .returned (.bool (negW W x)) ∧ w = w') := by
  have h := Lib.hid (rsign_calls W hW w)
  go_enter Tryz.func132, Tryz.ntmps132
  go_wp2_with fail
  refine (h.out).mono ?_
  rintro e w' ⟨rfl, rfl⟩
  go_wp2
  go_ret
  exact ⟨rfl, rfl⟩

theorem rsize_calls (W : Nat) (hW : Wide W) (x : Int) (hx : 0 ≤ x ∧ x < 18446744073709551616) (w : World) : Calls Tryz.prog 142 #[.int .i64 W, .int .u64 x] w (fun e w' => e = .returned (.int .u64 (sizeW W x)) ∧ w = w') := by
  have h1 := Lib.hid (rneg_calls W hW x w)
  have h := Lib.hid (rsign_calls W hW w)
  have hs0 : 0 < sgnW W := Int.pow_pos (by omega)
  by_cases hx1 : sgnW W ≤ x
  · have HN := Lib.hid (show negW W x = true from decide_eq_true hx1)
    have HZ := Lib.hid (show x - sgnW W = sizeW W x by unfold sizeW; rw [if_pos hx1])
    generalize sgnW W = S at *
    have W1 : IntKind.u64.wrap (x - S) = x - S := by rw [IntKind.wrap_u64]; omega
    go_enter Tryz.func142, Tryz.ntmps142
    go_wp2_with fail
    refine (h1.out).mono ?_
    rintro e w' ⟨rfl, rfl⟩
    rw [HN.out]
    go_wp2_with fail
    refine (h.out).mono ?_
    rintro e w' ⟨rfl, rfl⟩
    go_wp2
    go_ret
    rw [← HZ.out]
    exact ⟨rfl, rfl⟩
  · have HN := Lib.hid (show negW W x = false from decide_eq_false hx1)
    have HZ := Lib.hid (show x = sizeW W x by unfold sizeW; rw [if_neg hx1])
    clear hx1
    go_enter Tryz.func142, Tryz.ntmps142
    go_wp2_with fail
    refine (h1.out).mono ?_
    rintro e w' ⟨rfl, rfl⟩
    rw [HN.out]
    go_wp2
    go_ret
    rw [← HZ.out]
    exact ⟨rfl, rfl⟩
end Go.Proofs.YtoimhjcpeifegaaGreatDoor
