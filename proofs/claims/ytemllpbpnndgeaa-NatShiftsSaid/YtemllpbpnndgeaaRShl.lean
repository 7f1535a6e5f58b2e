/- crucibleref01.Shl: times 2 to the power of n. -/
import Derived.Test.YtemllpbpnndgeaaBytes
import Derived.Test.YtemllpbpnndgeaaPower
import Derived.Test.YtemllpbpnndgeaaRLen
import Derived.Test.YtemllpbpnndgeaaShMath
import Derived.Test.YtemllpbpnndgeaaRetLB
import Derived.BigQuiet
import Derived.Deep.QuietTactic
set_option linter.unusedVariables false
set_option linter.unusedSimpArgs false
namespace Go.Proofs.Ytemllpbpnndgeaa
open Go.RowKit

theorem Blk.app {w : World} {b : Nat} {t : TypeId} {k : IntKind} {ys : List Int} (h : Blk w b t k ys) (B : Nat) (hB : B ≤ b) (hbig : ys.length ≤ 281474976710656) : App B w t k (some ⟨b, 0, none⟩) ys.length ys.length ys :=
  ⟨by simp [nums], .inr ⟨b, ys.length, _, rfl, hB, h, Nat.le_refl _, by simp only [maxLen]; omega, by simp [nums], by simp [nums, List.take_of_length_le]⟩⟩

def RShlR (w : World) (xs : List Int) (s : Nat) (R : Int) (k : Nat) (c : Int) (v : Value) (wr : World) : Prop :=
  ∃ ad cp ds, v = .slice ad (s + k) cp ∧ App w.heap.size wr 3 .i64 ad (s + k) cp ds ∧ Dig 256 ds ∧ Below w.heap.size w wr ∧ w.heap.size ≤ wr.heap.size ∧ 0 ≤ c ∧ c < R ∧ val 256 ds + 256 ^ (s + k) * c = 256 ^ s * R * val 256 (xs.take k)

theorem rshl_step (xs ds : List Int) (s k : Nat) (R c y : Int) (hl : ds.length = s + k) (hy : y = xs[k]?.getD 0 * R + c) (E : val 256 ds + 256 ^ (s + k) * c = 256 ^ s * R * val 256 (xs.take k)) :
    val 256 (ds ++ [y % 256]) + 256 ^ (s + (k + 1)) * (y / 256) = 256 ^ s * R * val 256 (xs.take (k + 1)) := by
  rw [val_append, val_take_succ', hl, show s + (k + 1) = (s + k) + 1 by omega, Int.pow_succ]
  simp only [val, Int.mul_zero, Int.add_zero]
  have h := Int.emod_add_mul_ediv y 256
  generalize y / 256 = q at *
  generalize y % 256 = r at *
  generalize xs[k]?.getD 0 = x at *
  generalize val 256 (xs.take k) = X at *
  generalize val 256 ds = D at *
  rw [Int.pow_add] at E ⊢
  generalize (256 : Int) ^ s = P at *
  generalize (256 : Int) ^ k = Q at *
  subst hy
  grind

set_option maxHeartbeats 1000000 in
theorem rshl_good (ad : Option Addr) (nn c : Nat) (la : List Int) (n : Int) (w : World) (hn : nn ≤ 1099511627776) (hr : Rds w .u32 ad nn la) (da : Dig 4294967296 la)
    (hn0 : 0 ≤ n) (hV : val 4294967296 la ≠ 0) (hlim : n ≤ 8388608 - bitsOf (val 4294967296 la)) :
    Calls Try.prog 29 #[.slice ad nn c, .int .i64 n] w (RetLB 28 .u32 (dg 4294967296 (val 4294967296 la * 2 ^ n.toNat)) true w) := by
  have l1 := bytes_len hr.len da
  have C1 := Lib.hid (bytes_calls ad nn c la w (by omega) hr da)
  have C2 := Lib.hid (fun (w1 : World) (h : Below w.heap.size w w1) => rlen_calls ad nn c la w1 (by omega) (hr.below h (Nat.le_refl _)) da)
  have hV0 := val_nonneg (by omega) da
  have vx := Lib.hid (val_dg 256 (by omega) (val 4294967296 la) hV0)
  have hx0 : dg 256 (val 4294967296 la) ≠ [] := fun e => hV ((dg_nil 256 _ (by omega) hV0).1 e)
  have hx1 := List.length_pos_iff.2 hx0
  have dx : Dig 256 (dg 256 (val 4294967296 la)) := dg_dig 256 (by omega) _
  have hb0 : 0 ≤ bitsOf (val 4294967296 la) := by unfold bitsOf; omega
  clear hr hx0
  generalize dg 256 (val 4294967296 la) = xs at *
  obtain ⟨s, hs⟩ : ∃ s : Nat, n / 8 = s := ⟨(n / 8).toNat, by omega⟩
  obtain ⟨r, hrr⟩ : ∃ r : Nat, n % 8 = r := ⟨(n % 8).toNat, by omega⟩
  have hr8 : r < 8 := by omega
  have EV := Lib.hid (show 256 ^ s * 2 ^ r * val 4294967296 la = val 4294967296 la * 2 ^ n.toNat by
    have e : n.toNat = 8 * s + r := by omega
    rw [e, Int.pow_add, Int.pow_mul, show (2 : Int) ^ 8 = 256 from rfl, Int.mul_comm])
  have hR : (1 : Int) ≤ 2 ^ r ∧ (2 : Int) ^ r ≤ 128 := by
    have : ∀ r : Nat, r < 8 → (1 : Int) ≤ 2 ^ r ∧ (2 : Int) ^ r ≤ 128 := by decide
    exact this r hr8
  have hs21 : s ≤ 1048576 := by omega
  have hmk := make_rule (P := Try.prog) 53 3 .i64 8 Try.underlying53 info_int (by omega) s (by omega) (s : Int) rfl
  rw [← EV.out]
  generalize bitsOf (val 4294967296 la) = bb at *
  go_enter Try.func29, Try.ntmps29
  go_wp2_with fail
  refine (C1.out).mono ?_
  rintro e w1 ⟨xd, m, cx, rfl, ox, b1⟩
  have C2' := Lib.hid (C2.out w1 b1)
  have HM := Lib.hid ox.rds.len
  rw [HM.out] at l1 hx1
  clear C1 C2
  have hm0 : ((m : Int) == 0) = false := by simp; omega
  have hn9 : ¬ 8388608 < n := by omega
  go_wp2_with fail
  refine (C2'.out).mono ?_
  clear C2'
  rintro e w2 ⟨rfl, b2⟩
  have rx := (ox.below b2 (Nat.le_refl _)).rds
  have BB := below_trans b1 b2
  clear ox b1 b2
  have hw : IntKind.i64.wrap (bb + n) = bb + n := IntWalk.i64_in _ (by omega)
  have hbn : ¬ 8388608 < bb + n := by omega
  have k0 := Blk.made w2 3 .i64 (List.replicate s 0) w2.heap.size rfl
  have b0 : Below w2.heap.size w2 (w2.alloc (.cells (nums .i64 (List.replicate s 0)).toArray 3)) := (Below.refl _ _).alloc (Nat.le_refl _) _
  have hr0 : RShlR w2 xs s (2 ^ r) 0 0 (.slice (some ⟨w2.heap.size, 0, none⟩) s s) (w2.alloc (.cells (nums .i64 (List.replicate s 0)).toArray 3)) := by
    have A := k0.app w2.heap.size (Nat.le_refl _) (by rw [List.length_replicate]; omega)
    rw [List.length_replicate] at A
    exact ⟨_, s, _, rfl, A, Dig.replicate _ (by omega) _, b0, b0.size, by omega, by omega, by rw [val_replicate]; simp [val]⟩
  clear k0 b0
  go_wp2_with fail
  clear hmk
  rw [hs]
  go_loopw [9, 8, 7] (fun i cy v wr => ∃ k : Nat, ∃ c : Int, k ≤ m ∧ i = .int .i64 k ∧ cy = .int .i64 c ∧ RShlR w2 xs s (2 ^ r) k c v wr) (fun i _ _ _ => m - (intOf i).toNat)
  case atStart => exact ⟨0, 0, Nat.zero_le _, rfl, rfl, hr0⟩
  case round =>
    clear hr0
    obtain ⟨k, c, hk, rfl, rfl, ad3, c3, ds, rfl, g1, g2, g3, g4, g5, g6, g7⟩ := hrel
    have H7 := Lib.hid g7
    clear g7
    by_cases hkm : k < m
    · obtain ⟨a, rfl, hxl⟩ := (rx.below g3 (Nat.le_refl _)).cell k hkm
      have bx := dx.get (by omega) k
      have HE := Lib.hid (rshl_step xs ds s k (2 ^ r) c (xs[k]?.getD 0 * 2 ^ r + c) g1.len rfl H7.out)
      clear H7
      generalize xs[k]?.getD 0 = x at *
      have P0 : 0 ≤ x * 2 ^ r := Int.mul_nonneg bx.1 (by omega)
      have P1 : x * 2 ^ r ≤ 255 * 2 ^ r := Int.mul_le_mul_of_nonneg_right (by omega) (by omega)
      have W1 : IntKind.i64.wrap (x * 2 ^ r) = x * 2 ^ r := IntWalk.i64_in _ (by omega)
      have W2 : IntKind.i64.wrap (x * 2 ^ r + c) = x * 2 ^ r + c := IntWalk.i64_in _ (by omega)
      have W3 : (0 : Int) ≤ (k : Int) := by omega
      have Q0 : 0 ≤ x * 2 ^ r + c := by omega
      have Q1 : (x * 2 ^ r + c) / 256 < 2 ^ r := Int.ediv_lt_of_lt_mul (by omega) (by omega)
      have Q2 : 0 ≤ (x * 2 ^ r + c) / 256 := by omega
      have Q3 : 0 ≤ (x * 2 ^ r + c) % 256 ∧ (x * 2 ^ r + c) % 256 < 256 := by omega
      go_wp2_with fail
      go_quiet ((go_at_call 47; exact quiet_left (power_calls r hr8 _)))
      have G1 := g1.drewN nq
      have G3 := below_drewN g3 nq
      have G4 : w2.heap.size ≤ (wr.drewN nq).heap.size := g4
      clear W1 W2 W3 P1 hxl g1 g3 g4
      generalize wr.drewN nq = w3 at *
      go_wp2_with (at_builtin; refine app_one w2.heap.size rfl (.tmp 46) (.tmp 49) 53 3 .i64 8 rfl Try.underlying53 info_int (by omega) ad3 (s + k) c3 ds ((x * 2 ^ r + c) % 256) rfl rfl G1 G3 G4 (by omega) ?_; intro ad4 c4 w4 k1 k2 k3)
      go_roundw
      case rel => exact ⟨k + 1, _, by omega, by go_num, rfl, ad4, c4, _, rfl, k1, g2.append (Dig.cons Q3.1 Q3.2 (Dig.nil _)), k2, k3, Q2, Q1, HE.out⟩
      case measure => simp [intOf]; omega
    · obtain rfl : k = m := by omega
      have hv : val 256 (ds ++ [c]) = 256 ^ s * 2 ^ r * val 4294967296 la := by
        have := H7.out
        rw [List.take_of_length_le (by rw [HM.out]; exact Nat.le_refl _), show val 256 xs = val 4294967296 la from vx.out] at this
        rw [val_append, ← this, g1.len]
        simp [val]
      have HV := Lib.hid hv
      have dd : Dig 256 (ds ++ [c]) := g2.append (Dig.cons g5 (by omega) (Dig.nil _))
      clear hv
      go_wp2_with (at_builtin; refine app_one w2.heap.size rfl (.tmp 53) (.tmp 55) 53 3 .i64 8 rfl Try.underlying53 info_int (by omega) ad3 (s + k) c3 ds c rfl rfl g1 g3 g4 (by omega) ?_; intro ad4 c4 w4 k1 k2 k3)
      have hl := limbs_calls ad4 (s + k + 1) c4 (ds ++ [c]) w4 (by omega) k1.own.le k1.rds dd
      rw [HV.out] at hl
      refine hl.mono ?_
      rintro e w' hr
      obtain ⟨rd, nr, cr, rfl, or, br⟩ := hr.after (below_trans BB k2)
      go_wp2_with fail
      go_ret2
      exact ⟨_, _, _, rfl, or, br⟩

/-- crucibleref01.Shl at any number. -/
theorem rshl_calls (ad : Option Addr) (nn c : Nat) (la : List Int) (n : Int) (w : World) (hn : nn ≤ 1099511627776) (hr : Rds w .u32 ad nn la) (da : Dig 4294967296 la) (hnb : -9223372036854775808 ≤ n ∧ n < 9223372036854775808) :
    Calls Try.prog 29 #[.slice ad nn c, .int .i64 n] w (RetLB 28 .u32 (dg 4294967296 (shlNum (val 4294967296 la) n)) (shlOk (val 4294967296 la) n) w) := by
  obtain ⟨hn1, hn2⟩ := hnb
  have C1 := Lib.hid (bytes_calls ad nn c la w (by omega) hr da)
  have hV0 := val_nonneg (by omega) da
  by_cases h0 : n < 0
  · have hok : shlOk (val 4294967296 la) n = false := decide_eq_false (by omega)
    have HN := Lib.hid (show shlNum (val 4294967296 la) n = 0 by unfold shlNum; rw [hok]; rfl)
    have HO := Lib.hid hok
    clear hok
    go_enter Try.func29, Try.ntmps29
    go_wp2
    go_ret2
    rw [HN.out, HO.out, dg_zero]
    exact ⟨none, 0, 0, rfl, Own.nil _ _ _ _ _, Below.refl _ _⟩
  · by_cases hV : val 4294967296 la = 0
    · have hok : shlOk (val 4294967296 la) n = true := decide_eq_true ⟨by omega, .inl hV⟩
      have HN := Lib.hid (show shlNum (val 4294967296 la) n = 0 by unfold shlNum; rw [if_pos hok, hV, Int.zero_mul])
      have HO := Lib.hid hok
      have HX := Lib.hid ((dg_nil 256 _ (by omega) hV0).2 hV)
      clear hok hV
      go_enter Try.func29, Try.ntmps29
      go_wp2_with fail
      refine (C1.out).mono ?_
      rintro e w1 ⟨xd, m, cx, rfl, ox, b1⟩
      have hm := ox.len
      rw [show dg 256 (val 4294967296 la) = [] from HX.out] at hm
      simp only [List.length_nil] at hm
      subst hm
      go_wp2
      go_ret2
      rw [HN.out, HO.out, dg_zero]
      exact ⟨none, 0, 0, rfl, Own.nil _ _ _ _ _, b1⟩
    · by_cases hlim : n ≤ 8388608 - bitsOf (val 4294967296 la)
      · have hok : shlOk (val 4294967296 la) n = true := decide_eq_true ⟨by omega, .inr hlim⟩
        have := rshl_good ad nn c la n w hn hr da (by omega) hV hlim
        unfold shlNum
        rw [if_pos hok, hok]
        exact this
      · have hok : shlOk (val 4294967296 la) n = false := decide_eq_false (by unfold bitsOf at hlim; omega)
        have HN := Lib.hid (show shlNum (val 4294967296 la) n = 0 by unfold shlNum; rw [hok]; rfl)
        have HO := Lib.hid hok
        have l1 := bytes_len hr.len da
        have hx0 : dg 256 (val 4294967296 la) ≠ [] := fun e => hV ((dg_nil 256 _ (by omega) hV0).1 e)
        have hx1 := List.length_pos_iff.2 hx0
        have C2 := Lib.hid (fun (w1 : World) (h : Below w.heap.size w w1) => rlen_calls ad nn c la w1 (by omega) (hr.below h (Nat.le_refl _)) da)
        have hb0 : 0 ≤ bitsOf (val 4294967296 la) := by unfold bitsOf; omega
        have hb1 : bitsOf (val 4294967296 la) ≤ 35184372088832 := by
          have h1 := val_lt (by omega) da
          rw [hr.len, show (4294967296 : Int) = 2 ^ 32 from rfl, ← Int.pow_mul] at h1
          unfold bitsOf
          by_cases h2 : (val 4294967296 la).toNat = 0
          · rw [h2, blen_zero]; decide
          · have h3 := blen_ge (val 4294967296 la).toNat h2
            have h4 : (val 4294967296 la).toNat < 2 ^ (32 * nn) := by
              have : ((2 ^ (32 * nn) : Nat) : Int) = 2 ^ (32 * nn) := by simp
              rw [show (4294967296 : Int) = 2 ^ 32 from rfl] at hV0 ⊢
              omega
            have h5 := (Nat.pow_lt_pow_iff_right (by omega : 1 < 2)).1 (Nat.lt_of_le_of_lt h3 h4)
            omega
        clear hok hV hx0 hr hV0
        generalize bitsOf (val 4294967296 la) = bb at *
        go_enter Try.func29, Try.ntmps29
        go_wp2_with fail
        refine (C1.out).mono ?_
        rintro e w1 ⟨xd, m, cx, rfl, ox, b1⟩
        have C2' := Lib.hid (C2.out w1 b1)
        rw [ox.len] at l1 hx1
        clear C1 C2 ox
        have hm0 : ((m : Int) == 0) = false := by simp; omega
        by_cases hbig : 8388608 < n
        · go_wp2
          go_ret2
          rw [HN.out, HO.out, dg_zero]
          exact ⟨none, 0, 0, rfl, Own.nil _ _ _ _ _, b1⟩
        · have hw : IntKind.i64.wrap (bb + n) = bb + n := IntWalk.i64_in _ (by omega)
          have hbn : 8388608 < bb + n := by omega
          go_wp2_with fail
          refine (C2'.out).mono ?_
          clear C2'
          rintro e w2 ⟨rfl, b2⟩
          go_wp2
          go_ret2
          rw [HN.out, HO.out, dg_zero]
          exact ⟨none, 0, 0, rfl, Own.nil _ _ _ _ _, below_trans b1 b2⟩
end Go.Proofs.Ytemllpbpnndgeaa
