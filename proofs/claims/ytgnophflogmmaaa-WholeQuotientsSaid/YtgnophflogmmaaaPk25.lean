/- Contracts of functions, and plain facts, part 25. -/
import Derived.BigQuiet
import Derived.Deep.QuietTactic
import Derived.Test.YtgnophflogmmaaaPk2
import Derived.Test.YtgnophflogmmaaaPk3
import Derived.Test.YtgnophflogmmaaaPk4
import Derived.Test.YtgnophflogmmaaaPk7
import Derived.Test.YtgnophflogmmaaaPk12
import Derived.Test.YtgnophflogmmaaaPk14
import Derived.Test.YtgnophflogmmaaaPk23
import Derived.Test.YtgnophflogmmaaaPk24
set_option linter.unusedVariables false
set_option linter.unusedSimpArgs false
/- RLen by worth alone. -/
namespace Go.Proofs.Ytgnophflogmmaaa
open Go.RowKit

theorem num_rlen (ad : Option Addr) (n c : Nat) (V : Int) (w : World) (h : Num w ad n c V) (hn : n ≤ 1099511627776) :
    Calls Try.prog 64 #[.slice ad n c] w (fun e w' => e = .returned (.int .i64 (bitsOf V)) ∧ Below w.heap.size w w') := by
  obtain ⟨xs, h1, h2, rfl⟩ := h.row
  exact (rlen_calls ad n c xs w (by omega) h1 h2).mono fun e w' q => q
end Go.Proofs.Ytgnophflogmmaaa

/- crucibleref01.Shl: times 2 to the power of n. -/
namespace Go.Proofs.Ytgnophflogmmaaa
open Go.RowKit

theorem Blk.app {w : World} {b : Nat} {t : TypeId} {k : IntKind} {ys : List Int} (h : Blk w b t k ys) (B : Nat) (hB : B ≤ b) (hbig : ys.length ≤ 281474976710656) : App B w t k (some ⟨b, 0, none⟩) ys.length ys.length ys :=
  ⟨by simp [nums], .inr ⟨b, ys.length, _, rfl, hB, h, Nat.le_refl _, by simp only [maxLen]; omega, by simp [nums], by simp [nums, List.take_of_length_le]⟩⟩

def RShlR (w : World) (xs : List Int) (s : Nat) (R : Int) (k : Nat) (c : Int) (v : Value) (wr : World) : Prop :=
  ∃ ad cp ds, v = .slice ad (s + k) cp ∧ App w.heap.size wr 3 .i64 ad (s + k) cp ds ∧ Dig 256 ds ∧ Below w.heap.size w wr ∧ w.heap.size ≤ wr.heap.size ∧ 0 ≤ c ∧ c < R ∧ val 256 ds + 256 ^ (s + k) * c = 256 ^ s * R * val 256 (xs.take k)

theorem rshl_step (xs ds : List Int) (s k : Nat) (R c y : Int) (hl : ds.length = s + k) (hy : y = xs[k]?.getD 0 * R + c) (E : val 256 ds + 256 ^ (s + k) * c = 256 ^ s * R * val 256 (xs.take k)) :
    val 256 (ds ++ [y % 256]) + 256 ^ (s + (k + 1)) * (y / 256) = 256 ^ s * R * val 256 (xs.take (k + 1)) := by
  rw [val_append, val_take_succ', hl, show s + (k + 1) = (s + k) + 1 by omega, Int.pow_succ]
  simp only [val, Int.mul_zero, Int.add_zero]
  have h := Int.emod_add_mul_ediv y 256
  generalize y / 256 = q at *
  generalize y % 256 = r at *
  generalize xs[k]?.getD 0 = x at *
  generalize val 256 (xs.take k) = X at *
  generalize val 256 ds = D at *
  rw [Int.pow_add] at E ⊢
  generalize (256 : Int) ^ s = P at *
  generalize (256 : Int) ^ k = Q at *
  subst hy
  grind

set_option maxHeartbeats 1000000 in
theorem rshl_good (ad : Option Addr) (nn c : Nat) (la : List Int) (n : Int) (w : World) (hn : nn ≤ 1099511627776) (hr : Rds w .u32 ad nn la) (da : Dig 4294967296 la)
    (hn0 : 0 ≤ n) (hV : val 4294967296 la ≠ 0) (hlim : n ≤ 8388608 - bitsOf (val 4294967296 la)) :
    Calls Try.prog 92 #[.slice ad nn c, .int .i64 n] w (RetLB 78 .u32 (dg 4294967296 (val 4294967296 la * 2 ^ n.toNat)) true w) := by
  have l1 := bytes_len hr.len da
  have C1 := Lib.hid (bytes_calls ad nn c la w (by omega) hr da)
  have C2 := Lib.hid (fun (w1 : World) (h : Below w.heap.size w w1) => rlen_calls ad nn c la w1 (by omega) (hr.below h (Nat.le_refl _)) da)
  have hV0 := val_nonneg (by omega) da
  have vx := Lib.hid (val_dg 256 (by omega) (val 4294967296 la) hV0)
  have hx0 : dg 256 (val 4294967296 la) ≠ [] := fun e => hV ((dg_nil 256 _ (by omega) hV0).1 e)
  have hx1 := List.length_pos_iff.2 hx0
  have dx : Dig 256 (dg 256 (val 4294967296 la)) := dg_dig 256 (by omega) _
  have hb0 : 0 ≤ bitsOf (val 4294967296 la) := by unfold bitsOf; omega
  clear hr hx0
  generalize dg 256 (val 4294967296 la) = xs at *
  obtain ⟨s, hs⟩ : ∃ s : Nat, n / 8 = s := ⟨(n / 8).toNat, by omega⟩
  obtain ⟨r, hrr⟩ : ∃ r : Nat, n % 8 = r := ⟨(n % 8).toNat, by omega⟩
  have hr8 : r < 8 := by omega
  have EV := Lib.hid (show 256 ^ s * 2 ^ r * val 4294967296 la = val 4294967296 la * 2 ^ n.toNat by
    have e : n.toNat = 8 * s + r := by omega
    rw [e, Int.pow_add, Int.pow_mul, show (2 : Int) ^ 8 = 256 from rfl, Int.mul_comm])
  have hR : (1 : Int) ≤ 2 ^ r ∧ (2 : Int) ^ r ≤ 128 := by
    have : ∀ r : Nat, r < 8 → (1 : Int) ≤ 2 ^ r ∧ (2 : Int) ^ r ≤ 128 := by decide
    exact this r hr8
  have hs21 : s ≤ 1048576 := by omega
  have hmk := make_rule (P := Try.prog) 94 3 .i64 8 Try.underlying94 info_int (by omega) s (by omega) (s : Int) rfl
  rw [← EV.out]
  generalize bitsOf (val 4294967296 la) = bb at *
  go_enter Try.func92, Try.ntmps92
  go_wp2_with fail
  refine (C1.out).mono ?_
  rintro e w1 ⟨xd, m, cx, rfl, ox, b1⟩
  have C2' := Lib.hid (C2.out w1 b1)
  have HM := Lib.hid ox.rds.len
  rw [HM.out] at l1 hx1
  clear C1 C2
  have hm0 : ((m : Int) == 0) = false := by simp; omega
  have hn9 : ¬ 8388608 < n := by omega
  go_wp2_with fail
  refine (C2'.out).mono ?_
  clear C2'
  rintro e w2 ⟨rfl, b2⟩
  have rx := (ox.below b2 (Nat.le_refl _)).rds
  have BB := below_trans b1 b2
  clear ox b1 b2
  have hw : IntKind.i64.wrap (bb + n) = bb + n := IntWalk.i64_in _ (by omega)
  have hbn : ¬ 8388608 < bb + n := by omega
  have k0 := Blk.made w2 3 .i64 (List.replicate s 0) w2.heap.size rfl
  have b0 : Below w2.heap.size w2 (w2.alloc (.cells (nums .i64 (List.replicate s 0)).toArray 3)) := (Below.refl _ _).alloc (Nat.le_refl _) _
  have hr0 : RShlR w2 xs s (2 ^ r) 0 0 (.slice (some ⟨w2.heap.size, 0, none⟩) s s) (w2.alloc (.cells (nums .i64 (List.replicate s 0)).toArray 3)) := by
    have A := k0.app w2.heap.size (Nat.le_refl _) (by rw [List.length_replicate]; omega)
    rw [List.length_replicate] at A
    exact ⟨_, s, _, rfl, A, Dig.replicate _ (by omega) _, b0, b0.size, by omega, by omega, by rw [val_replicate]; simp [val]⟩
  clear k0 b0
  go_wp2_with fail
  clear hmk
  rw [hs]
  go_loopw [9, 8, 7] (fun i cy v wr => ∃ k : Nat, ∃ c : Int, k ≤ m ∧ i = .int .i64 k ∧ cy = .int .i64 c ∧ RShlR w2 xs s (2 ^ r) k c v wr) (fun i _ _ _ => m - (intOf i).toNat)
  case atStart => exact ⟨0, 0, Nat.zero_le _, rfl, rfl, hr0⟩
  case round =>
    clear hr0
    obtain ⟨k, c, hk, rfl, rfl, ad3, c3, ds, rfl, g1, g2, g3, g4, g5, g6, g7⟩ := hrel
    have H7 := Lib.hid g7
    clear g7
    by_cases hkm : k < m
    · obtain ⟨a, rfl, hxl⟩ := (rx.below g3 (Nat.le_refl _)).cell k hkm
      have bx := dx.get (by omega) k
      have HE := Lib.hid (rshl_step xs ds s k (2 ^ r) c (xs[k]?.getD 0 * 2 ^ r + c) g1.len rfl H7.out)
      clear H7
      generalize xs[k]?.getD 0 = x at *
      have P0 : 0 ≤ x * 2 ^ r := Int.mul_nonneg bx.1 (by omega)
      have P1 : x * 2 ^ r ≤ 255 * 2 ^ r := Int.mul_le_mul_of_nonneg_right (by omega) (by omega)
      have W1 : IntKind.i64.wrap (x * 2 ^ r) = x * 2 ^ r := IntWalk.i64_in _ (by omega)
      have W2 : IntKind.i64.wrap (x * 2 ^ r + c) = x * 2 ^ r + c := IntWalk.i64_in _ (by omega)
      have W3 : (0 : Int) ≤ (k : Int) := by omega
      have Q0 : 0 ≤ x * 2 ^ r + c := by omega
      have Q1 : (x * 2 ^ r + c) / 256 < 2 ^ r := Int.ediv_lt_of_lt_mul (by omega) (by omega)
      have Q2 : 0 ≤ (x * 2 ^ r + c) / 256 := by omega
      have Q3 : 0 ≤ (x * 2 ^ r + c) % 256 ∧ (x * 2 ^ r + c) % 256 < 256 := by omega
      go_wp2_with fail
      go_quiet ((go_at_call 108; exact quiet_left (power_calls r hr8 _)))
      have G1 := g1.drewN nq
      have G3 := below_drewN g3 nq
      have G4 : w2.heap.size ≤ (wr.drewN nq).heap.size := g4
      clear W1 W2 W3 P1 hxl g1 g3 g4
      generalize wr.drewN nq = w3 at *
      go_wp2_with (at_builtin; refine app_one w2.heap.size rfl (.tmp 46) (.tmp 49) 94 3 .i64 8 rfl Try.underlying94 info_int (by omega) ad3 (s + k) c3 ds ((x * 2 ^ r + c) % 256) rfl rfl G1 G3 G4 (by omega) ?_; intro ad4 c4 w4 k1 k2 k3)
      go_roundw
      case rel => exact ⟨k + 1, _, by omega, by go_num, rfl, ad4, c4, _, rfl, k1, g2.append (Dig.cons Q3.1 Q3.2 (Dig.nil _)), k2, k3, Q2, Q1, HE.out⟩
      case measure => simp [intOf]; omega
    · obtain rfl : k = m := by omega
      have hv : val 256 (ds ++ [c]) = 256 ^ s * 2 ^ r * val 4294967296 la := by
        have := H7.out
        rw [List.take_of_length_le (by rw [HM.out]; exact Nat.le_refl _), show val 256 xs = val 4294967296 la from vx.out] at this
        rw [val_append, ← this, g1.len]
        simp [val]
      have HV := Lib.hid hv
      have dd : Dig 256 (ds ++ [c]) := g2.append (Dig.cons g5 (by omega) (Dig.nil _))
      clear hv
      go_wp2_with (at_builtin; refine app_one w2.heap.size rfl (.tmp 53) (.tmp 55) 94 3 .i64 8 rfl Try.underlying94 info_int (by omega) ad3 (s + k) c3 ds c rfl rfl g1 g3 g4 (by omega) ?_; intro ad4 c4 w4 k1 k2 k3)
      have hl := limbs_calls ad4 (s + k + 1) c4 (ds ++ [c]) w4 (by omega) k1.own.le k1.rds dd
      rw [HV.out] at hl
      refine hl.mono ?_
      rintro e w' hr
      obtain ⟨rd, nr, cr, rfl, or, br⟩ := hr.after (below_trans BB k2)
      go_wp2_with fail
      go_ret2
      exact ⟨_, _, _, rfl, or, br⟩

/-- crucibleref01.Shl at any number. -/
theorem rshl_calls (ad : Option Addr) (nn c : Nat) (la : List Int) (n : Int) (w : World) (hn : nn ≤ 1099511627776) (hr : Rds w .u32 ad nn la) (da : Dig 4294967296 la) (hnb : -9223372036854775808 ≤ n ∧ n < 9223372036854775808) :
    Calls Try.prog 92 #[.slice ad nn c, .int .i64 n] w (RetLB 78 .u32 (dg 4294967296 (shlNum (val 4294967296 la) n)) (shlOk (val 4294967296 la) n) w) := by
  obtain ⟨hn1, hn2⟩ := hnb
  have C1 := Lib.hid (bytes_calls ad nn c la w (by omega) hr da)
  have hV0 := val_nonneg (by omega) da
  by_cases h0 : n < 0
  · have hok : shlOk (val 4294967296 la) n = false := decide_eq_false (by omega)
    have HN := Lib.hid (show shlNum (val 4294967296 la) n = 0 by unfold shlNum; rw [hok]; rfl)
    have HO := Lib.hid hok
    clear hok
    go_enter Try.func92, Try.ntmps92
    go_wp2
    go_ret2
    rw [HN.out, HO.out, dg_zero]
    exact ⟨none, 0, 0, rfl, Own.nil _ _ _ _ _, Below.refl _ _⟩
  · by_cases hV : val 4294967296 la = 0
    · have hok : shlOk (val 4294967296 la) n = true := decide_eq_true ⟨by omega, .inl hV⟩
      have HN := Lib.hid (show shlNum (val 4294967296 la) n = 0 by unfold shlNum; rw [if_pos hok, hV, Int.zero_mul])
      have HO := Lib.hid hok
      have HX := Lib.hid ((dg_nil 256 _ (by omega) hV0).2 hV)
      clear hok hV
      go_enter Try.func92, Try.ntmps92
      go_wp2_with fail
      refine (C1.out).mono ?_
      rintro e w1 ⟨xd, m, cx, rfl, ox, b1⟩
      have hm := ox.len
      rw [show dg 256 (val 4294967296 la) = [] from HX.out] at hm
      simp only [List.length_nil] at hm
      subst hm
      go_wp2
      go_ret2
      rw [HN.out, HO.out, dg_zero]
      exact ⟨none, 0, 0, rfl, Own.nil _ _ _ _ _, b1⟩
    · by_cases hlim : n ≤ 8388608 - bitsOf (val 4294967296 la)
      · have hok : shlOk (val 4294967296 la) n = true := decide_eq_true ⟨by omega, .inr hlim⟩
        have := rshl_good ad nn c la n w hn hr da (by omega) hV hlim
        unfold shlNum
        rw [if_pos hok, hok]
        exact this
      · have hok : shlOk (val 4294967296 la) n = false := decide_eq_false (by unfold bitsOf at hlim; omega)
        have HN := Lib.hid (show shlNum (val 4294967296 la) n = 0 by unfold shlNum; rw [hok]; rfl)
        have HO := Lib.hid hok
        have l1 := bytes_len hr.len da
        have hx0 : dg 256 (val 4294967296 la) ≠ [] := fun e => hV ((dg_nil 256 _ (by omega) hV0).1 e)
        have hx1 := List.length_pos_iff.2 hx0
        have C2 := Lib.hid (fun (w1 : World) (h : Below w.heap.size w w1) => rlen_calls ad nn c la w1 (by omega) (hr.below h (Nat.le_refl _)) da)
        have hb0 : 0 ≤ bitsOf (val 4294967296 la) := by unfold bitsOf; omega
        have hb1 : bitsOf (val 4294967296 la) ≤ 35184372088832 := by
          have h1 := val_lt (by omega) da
          rw [hr.len, show (4294967296 : Int) = 2 ^ 32 from rfl, ← Int.pow_mul] at h1
          unfold bitsOf
          by_cases h2 : (val 4294967296 la).toNat = 0
          · rw [h2, blen_zero]; decide
          · have h3 := blen_ge (val 4294967296 la).toNat h2
            have h4 : (val 4294967296 la).toNat < 2 ^ (32 * nn) := by
              have : ((2 ^ (32 * nn) : Nat) : Int) = 2 ^ (32 * nn) := by simp
              rw [show (4294967296 : Int) = 2 ^ 32 from rfl] at hV0 ⊢
              omega
            have h5 := (Nat.pow_lt_pow_iff_right (by omega : 1 < 2)).1 (Nat.lt_of_le_of_lt h3 h4)
            omega
        clear hok hV hx0 hr hV0
        generalize bitsOf (val 4294967296 la) = bb at *
        go_enter Try.func92, Try.ntmps92
        go_wp2_with fail
        refine (C1.out).mono ?_
        rintro e w1 ⟨xd, m, cx, rfl, ox, b1⟩
        have C2' := Lib.hid (C2.out w1 b1)
        rw [ox.len] at l1 hx1
        clear C1 C2 ox
        have hm0 : ((m : Int) == 0) = false := by simp; omega
        by_cases hbig : 8388608 < n
        · go_wp2
          go_ret2
          rw [HN.out, HO.out, dg_zero]
          exact ⟨none, 0, 0, rfl, Own.nil _ _ _ _ _, b1⟩
        · have hw : IntKind.i64.wrap (bb + n) = bb + n := IntWalk.i64_in _ (by omega)
          have hbn : 8388608 < bb + n := by omega
          go_wp2_with fail
          refine (C2'.out).mono ?_
          clear C2'
          rintro e w2 ⟨rfl, b2⟩
          go_wp2
          go_ret2
          rw [HN.out, HO.out, dg_zero]
          exact ⟨none, 0, 0, rfl, Own.nil _ _ _ _ _, below_trans b1 b2⟩
end Go.Proofs.Ytgnophflogmmaaa

/- RSub by worth alone. -/
namespace Go.Proofs.Ytgnophflogmmaaa
open Go.RowKit

theorem num_rsub (ad bd : Option Addr) (n m c d : Nat) (V U : Int) (w : World) (h : Num w ad n c V) (k : Num w bd m d U) (hn : n ≤ 1099511627776) (hm : m ≤ 1099511627776) :
    Calls Try.prog 78 #[.slice ad n c, .slice bd m d] w (RetCB (V - U) (decide (U ≤ V)) w) := by
  obtain ⟨xs, h1, h2, rfl⟩ := h.row
  obtain ⟨zs, k1, k2, rfl⟩ := k.row
  exact (rsub_calls ad bd n m c d xs zs w (by omega) (by omega) h1 k1 h2 k2).mono fun e w' q => q.can
end Go.Proofs.Ytgnophflogmmaaa

/- RShl by worth alone. -/
namespace Go.Proofs.Ytgnophflogmmaaa
open Go.RowKit

theorem num_rshl (ad : Option Addr) (n c : Nat) (V : Int) (r : Int) (w : World) (h : Num w ad n c V) (hn : n ≤ 1099511627776) (hr : -9223372036854775808 ≤ r ∧ r < 9223372036854775808) :
    Calls Try.prog 92 #[.slice ad n c, .int .i64 r] w (RetCB (shlNum V r) (shlOk V r) w) := by
  obtain ⟨xs, h1, h2, rfl⟩ := h.row
  exact (rshl_calls ad n c xs r w (by omega) h1 h2 hr).mono fun e w' q => q.can
end Go.Proofs.Ytgnophflogmmaaa

/- Parts of whole numbers; natural numbers as words on values; the contracts of crucibleref01 by them. -/
namespace Go.Proofs.Ytgnophflogmmaaa
open Go Go.RowKit

def PM (V : Int) (v : Value) (w : World) (B : Bx) : Prop := ∃ ad n c, v = .slice ad n c ∧ Num w ad n c V ∧ n ≤ LIM
/-- A list of worth V. -/
def IsM (V : Int) : VP := ⟨PM V, fun v w B w' B' h hp => by
  obtain ⟨ad, n, c, e, k, l⟩ := hp
  obtain ⟨xs, h1, h2, h3⟩ := k.row
  exact ⟨ad, n, c, e, ⟨k.le, xs, h1.mv h (.inl rfl), h2, h3⟩, l⟩⟩
def PC (V : Int) (v : Value) (w : World) (B : Bx) : Prop := ∃ ad n c, v = .slice ad n c ∧ Can w ad n c V ∧ n ≤ LIM ∧ 0 ≤ V
/-- The list of the number V. -/
def IsC (V : Int) : VP := ⟨PC V, fun v w B w' B' h hp => by
  obtain ⟨ad, n, c, e, k, l, hV⟩ := hp
  exact ⟨ad, n, c, e, ⟨k.le, k.rds.mv h (.inl rfl)⟩, l, hV⟩⟩
/-- A bool that is the sign of X, where X is not 0. -/
def IsSg (X : Int) : VP := ⟨fun v _ _ => ∃ ng : Bool, v = .bool ng ∧ X = sI ng (X.natAbs : Int), fun _ _ _ _ _ _ h => h⟩
theorem weakCM {V : Int} (v : Value) (w : World) (B : Bx) (h : (IsC V).p v w B) : (IsM V).p v w B := by
  obtain ⟨ad, n, c, e, k, l, hV⟩ := h
  exact ⟨ad, n, c, e, k.num hV, l⟩
theorem weakZN (v : Value) (w : World) (B : Bx) (h : Zero2.p v w B) : (IsN 0).p v w B := by
  obtain rfl := h
  exact weakIN _ _ _ (zero_isI w B)
theorem weakZI (v : Value) (w : World) (B : Bx) (h : Zero2.p v w B) : (IsI 0).p v w B := by
  obtain rfl := h
  exact zero_isI w B
theorem weakNilM (v : Value) (w : World) (B : Bx) (h : (Lit (.slice none 0 0)).p v w B) : (IsC 0).p v w B := by
  obtain rfl := h
  refine ⟨none, 0, 0, rfl, ⟨Nat.le_refl _, ?_⟩, Nat.zero_le _, Int.le_refl _⟩
  rw [dg_zero]
  exact Rds.nil _ _ _
theorem PM.nonneg {V : Int} {v : Value} {w : World} {B : Bx} (h : (IsM V).p v w B) : 0 ≤ V := by
  obtain ⟨ad, n, c, e, k, l⟩ := h
  exact k.nonneg
theorem PM.fit {V : Int} {v : Value} {w : World} {B : Bx} (h : (IsM V).p v w B) : Fits V := by
  have h0 := PM.nonneg h
  obtain ⟨ad, n, c, e, k, l⟩ := h
  refine ⟨n, l, ?_⟩
  unfold FitK
  have := k.lt
  omega
section
variable {need : List (Tmp × FD)} {d : Option Tmp} {ty : TypeId} {pos : String} {af : Array Edge} {g : Option (Nat × Bool)} {x : Operand} {D : VP}
set_option maxRecDepth 50000 in
theorem ok_addrI0 (h : Opd need x (.box 25 2 D)) : OpOk Try.prog ⟨d, .fieldAddr 25 x 0, ty, pos, af, g⟩ need (.ptr 25 2 D 0) false :=
  ok_fieldAddr 0 0 Try.underlying25 rfl rfl (fun w => ⟨1, by go_simp, by decide⟩) h
set_option maxRecDepth 50000 in
theorem ok_addrI1 (h : Opd need x (.box 25 2 D)) : OpOk Try.prog ⟨d, .fieldAddr 25 x 1, ty, pos, af, g⟩ need (.ptr 25 2 D 1) false :=
  ok_fieldAddr 1 1 Try.underlying25 rfl rfl (fun w => ⟨1, by go_simp, by decide⟩) h
theorem aggBool (w : World) : (isAgg 4).run Try.prog w = .ok false w := by go_simp
theorem aggNat (w : World) : (isAgg 23).run Try.prog w = .ok false w := by go_simp
theorem ok_loadNegI {N : Int} (h : Opd need x (.ptr 25 2 (IsI N) 0)) : OpOk Try.prog ⟨d, .load 4 x, ty, pos, af, g⟩ need (.val (IsB (decide (N < 0)))) false :=
  ok_loadPtr1 aggBool h (by decide) fun cs v w B ⟨ad, n, c, e, _⟩ hv => by
    injection e with e
    subst e
    simp at hv
    exact hv.symm
theorem ok_loadNegA {ng : Bool} {n : Nat} {xs : List Int} (h : Opd need x (.ptr 25 2 (IsArg ng n xs) 0)) : OpOk Try.prog ⟨d, .load 4 x, ty, pos, af, g⟩ need (.val (IsB ng)) false :=
  ok_loadPtr1 aggBool h (by decide) fun cs v w B ⟨ad, c, e, _⟩ hv => by
    injection e with e
    subst e
    simp at hv
    exact hv.symm
theorem ok_loadNegN {N : Int} (h : Opd need x (.ptr 25 2 (IsN N) 0)) : OpOk Try.prog ⟨d, .load 4 x, ty, pos, af, g⟩ need (.val (IsSg N)) false :=
  ok_loadPtr1 aggBool h (by decide) fun cs v w B ⟨ng, ad, n, c, V, e, k, l, hN⟩ hv => by
    injection e with e
    subst e
    simp at hv
    exact ⟨ng, hv.symm, by rw [hN, sI_abs ng V k.nonneg]⟩
theorem ok_loadMagI {N : Int} (h : Opd need x (.ptr 25 2 (IsI N) 1)) : OpOk Try.prog ⟨d, .load 23 x, ty, pos, af, g⟩ need (.val (IsC (N.natAbs : Int))) false :=
  ok_loadPtr1 aggNat h (by decide) fun cs v w B ⟨ad, n, c, e, k, l⟩ hv => by
    injection e with e
    subst e
    simp at hv
    exact ⟨ad, n, c, hv.symm, k, l, by omega⟩
theorem ok_loadMagN {N : Int} (h : Opd need x (.ptr 25 2 (IsN N) 1)) : OpOk Try.prog ⟨d, .load 23 x, ty, pos, af, g⟩ need (.val (IsM (N.natAbs : Int))) false :=
  ok_loadPtr1 aggNat h (by decide) fun cs v w B ⟨ng, ad, n, c, V, e, k, l, hN⟩ hv => by
    injection e with e
    subst e
    simp at hv
    exact ⟨ad, n, c, hv.symm, by rw [hN, sI_abs ng V k.nonneg]; exact k, l⟩
set_option maxRecDepth 50000 in
theorem run_build0 (w : World) : (Instr.build 25 #[]).run Try.prog w = .ok (.agg #[.bool false, .slice none 0 0]) w := by go_simp
set_option maxRecDepth 50000 in
theorem run_build2 (b : Bool) (ad : Option Addr) (n c : Nat) (w : World) : (Instr.build 25 #[(0, .bool b), (1, .slice ad n c)]).run Try.prog w = .ok (.agg #[.bool b, .slice ad n c]) w := by go_simp
set_option maxRecDepth 50000 in
theorem run_build1 (ad : Option Addr) (n c : Nat) (w : World) : (Instr.build 25 #[(1, .slice ad n c)]).run Try.prog w = .ok (.agg #[.bool false, .slice ad n c]) w := by go_simp
set_option maxRecDepth 50000 in
theorem ok_build0 : OpOk Try.prog ⟨d, .build 25 #[], ty, pos, af, g⟩ need (.val Zero2) false :=
  OpOk.value fun a w B hF => ⟨.agg #[.bool false, .slice none 0 0], by simp [execOp, Sem.run_bind, run_build0], rfl⟩

set_option maxRecDepth 50000 in
theorem ok_buildSN {y : Operand} {N : Int} (h : Opd need x (.val (IsSg N))) (h' : Opd need y (.val (IsM (N.natAbs : Int)))) : OpOk Try.prog ⟨d, .build 25 #[(0, x), (1, y)], ty, pos, af, g⟩ need (.val (IsN N)) false :=
  ok_via2 h h' fun ρ w B v u ⟨ng, e1, hN⟩ ⟨ad, n, c, e2, k, l⟩ h1 h2 => by
    refine ⟨.agg #[.bool ng, .slice ad n c], ?_, ng, ad, n, c, _, rfl, k, l, hN⟩
    have := run_build2 ng ad n c w
    simp [execOp, h1, h2, e1, e2, this]
set_option maxRecDepth 50000 in
theorem ok_buildBN {y : Operand} {b : Bool} {V : Int} (h : Opd need x (.val (IsB b))) (h' : Opd need y (.val (IsM V))) : OpOk Try.prog ⟨d, .build 25 #[(0, x), (1, y)], ty, pos, af, g⟩ need (.val (IsN (sI b V))) false :=
  ok_via2 h h' fun ρ w B v u e1 ⟨ad, n, c, e2, k, l⟩ h1 h2 => by
    refine ⟨.agg #[.bool b, .slice ad n c], ?_, b, ad, n, c, _, rfl, k, l, rfl⟩
    have := run_build2 b ad n c w
    have e1 : v = .bool b := e1
    simp [execOp, h1, h2, e1, e2, this]
set_option maxRecDepth 50000 in
theorem ok_buildI {y : Operand} {b : Bool} {N : Int} (hb : b = decide (N < 0)) (h : Opd need x (.val (IsB b))) (h' : Opd need y (.val (IsC (N.natAbs : Int)))) : OpOk Try.prog ⟨d, .build 25 #[(0, x), (1, y)], ty, pos, af, g⟩ need (.val (IsI N)) false :=
  ok_via2 h h' fun ρ w B v u e1 ⟨ad, n, c, e2, k, l, hV⟩ h1 h2 => by
    refine ⟨.agg #[.bool b, .slice ad n c], ?_, ad, n, c, by rw [hb], k, l⟩
    have := run_build2 b ad n c w
    have e1 : v = .bool b := e1
    simp [execOp, h1, h2, e1, e2, this]
set_option maxRecDepth 50000 in
theorem ok_buildN1 {V : Int} (h : Opd need x (.val (IsM V))) : OpOk Try.prog ⟨d, .build 25 #[(1, x)], ty, pos, af, g⟩ need (.val (IsN V)) false :=
  ok_via h fun ρ w B v ⟨ad, n, c, e2, k, l⟩ h1 => by
    refine ⟨.agg #[.bool false, .slice ad n c], ?_, false, ad, n, c, _, rfl, k, l, rfl⟩
    have := run_build1 ad n c w
    simp [execOp, h1, e2, this]
set_option maxRecDepth 50000 in
theorem ok_buildI1 {V : Int} (h : Opd need x (.val (IsC V))) : OpOk Try.prog ⟨d, .build 25 #[(1, x)], ty, pos, af, g⟩ need (.val (IsI V)) false :=
  ok_via h fun ρ w B v ⟨ad, n, c, e2, k, l, hV⟩ h1 => by
    refine ⟨.agg #[.bool false, .slice ad n c], ?_, ad, n, c, by rw [decide_eq_false (by omega)], by rw [show ((V.natAbs : Nat) : Int) = V by omega]; exact k, l⟩
    have := run_build1 ad n c w
    simp [execOp, h1, e2, this]
theorem ok_notSg {N : Int} {t : TypeId} (h : Opd need x (.val (IsSg N))) : OpOk Try.prog ⟨d, .unOp .not t x, ty, pos, af, g⟩ need (.val (IsSg (-N))) false :=
  ok_via h fun ρ w B v ⟨ng, e1, hN⟩ h1 => by
    refine ⟨.bool (!ng), by simp [execOp, h1, e1, Op.unary, Sem.run_bind], !ng, rfl, ?_⟩
    rw [Int.natAbs_neg, hN, sI_abs ng _ (by omega)]
    unfold sI
    cases ng <;> simp
theorem len_run (ad : Option Addr) (n c : Nat) (ρ : Operand → Value) (w : World) (hx : ρ x = .slice ad n c) : (execOp ρ ⟨d, .call { callee := .builtin .len, args := #[x], argTypes := #[23] }, 3, pos, af, g⟩).run Try.prog w = .ok (.value (.int .i64 n)) w := by
  unfold execOp
  simp only [hx, resolve, List.map_toArray, List.map_cons, List.map_nil]
  go_simp
end

theorem Opd.eqM {need : List (Tmp × FD)} {x : Operand} {V U : Int} (h : Opd need x (.val (IsM V))) (e : U = V) : Opd need x (.val (IsM U)) := e ▸ h
theorem FitK.sI {k : Nat} {V : Int} {b : Bool} (h : FitK k V) : FitK k (sI b V) := by
  cases b
  · exact h
  · exact h.neg

/-! ### The document's numbers -/
theorem RetC.con {V : Int} {w : World} {B : Bx} {e : Ending} {w' : World} (hV : 0 ≤ V) (hN : Fits V) (h : RetC V w e w') : ∃ v, e = .returned v ∧ (IsC V).p v w' B ∧ Below w.heap.size w w' := by
  obtain ⟨ad, n, c, rfl, k, hb⟩ := h
  obtain ⟨q, hq, hf⟩ := hN
  unfold FitK at hf
  exact ⟨_, rfl, ⟨ad, n, c, rfl, k, Nat.le_trans (k.len_le q (by omega)) hq, hV⟩, hb⟩
theorem con_radd (V U : Int) (hf : Fits (V + U)) : Con Try.prog 77 [IsM V, IsM U] (IsC (V + U)) := by
  refine ⟨fun _ _ => by go_simp, fun vs w B hB hV => ?_⟩
  match vs, hV with
  | [v, u], ⟨h1, h2, _⟩ =>
    have z1 := PM.nonneg h1
    have z2 := PM.nonneg h2
    obtain ⟨ad, n, c, rfl, k, l⟩ := h1
    obtain ⟨ad2, n2, c2, rfl, k2, l2⟩ := h2
    exact (num_radd ad ad2 n n2 c c2 V U w k k2 (by have := lim_eq; omega) (by have := lim_eq; omega)).mono fun e w' h => h.con (by omega) hf
theorem con_rmul (V U : Int) (hf : Fits (V * U)) : Con Try.prog 79 [IsM V, IsM U] (IsC (V * U)) := by
  refine ⟨fun _ _ => by go_simp, fun vs w B hB hV => ?_⟩
  match vs, hV with
  | [v, u], ⟨h1, h2, _⟩ =>
    have z1 := PM.nonneg h1
    have z2 := PM.nonneg h2
    obtain ⟨ad, n, c, rfl, k, l⟩ := h1
    obtain ⟨ad2, n2, c2, rfl, k2, l2⟩ := h2
    exact (num_rmul ad ad2 n n2 c c2 V U w k k2 (by have := lim_eq; omega) (by have := lim_eq; omega)).mono fun e w' h => h.con (Int.mul_nonneg z1 z2) hf
theorem con_rnorm (V : Int) : Con Try.prog 70 [IsM V] (IsC V) := by
  refine ⟨fun _ _ => by go_simp, fun vs w B hB hV => ?_⟩
  match vs, hV with
  | [v], ⟨h1, _⟩ =>
    have z1 := PM.nonneg h1
    have hf := PM.fit h1
    obtain ⟨ad, n, c, rfl, k, l⟩ := h1
    exact (num_rnorm ad n c V w k (by have := lim_eq; omega)).mono fun e w' h => h.con z1 hf
theorem con_rcmp (V U : Int) : Con Try.prog 76 [IsM V, IsM U] (Lit (.int .i64 (cmpI V U))) := by
  refine ⟨fun _ _ => by go_simp, fun vs w B hB hV => ?_⟩
  match vs, hV with
  | [v, u], ⟨h1, h2, _⟩ =>
    obtain ⟨ad, n, c, rfl, k, l⟩ := h1
    obtain ⟨ad2, n2, c2, rfl, k2, l2⟩ := h2
    exact (num_rcmp ad ad2 n n2 c c2 V U w k k2 (by have := lim_eq; omega) (by have := lim_eq; omega)).mono fun e w' h => ⟨_, h.1, rfl, h.2⟩
/-- V - U, if it is none below 0. -/
theorem con_rsub (V U : Int) : Con Try.prog 78 [IsM V, IsM U] (Tup [IsC (if U ≤ V then V - U else 0), IsB (decide (U ≤ V))]) := by
  refine ⟨fun _ _ => by go_simp, fun vs w B hB hV => ?_⟩
  match vs, hV with
  | [v, u], ⟨h1, h2, _⟩ =>
    have z1 := PM.nonneg h1
    have z2 := PM.nonneg h2
    obtain ⟨q, hq, hf⟩ := PM.fit h1
    obtain ⟨ad, n, c, rfl, k, l⟩ := h1
    obtain ⟨ad2, n2, c2, rfl, k2, l2⟩ := h2
    refine (num_rsub ad ad2 n n2 c c2 V U w k k2 (by have := lim_eq; omega) (by have := lim_eq; omega)).mono ?_
    rintro e w' ⟨a1, m1, d1, rfl, k1, hb⟩
    have k3 : Can w' a1 m1 d1 (if U ≤ V then V - U else 0) := by
      by_cases h : U ≤ V
      · rw [if_pos h]; exact k1
      · rw [if_neg h]
        refine ⟨k1.le, ?_⟩
        have := k1.rds
        rw [show dg 4294967296 (V - U) = dg 4294967296 0 from by unfold dg; rw [show (V - U).toNat = (0 : Int).toNat by omega]] at this
        exact this
    unfold FitK at hf
    exact ⟨_, rfl, ⟨_, rfl, ⟨a1, m1, d1, rfl, k3, Nat.le_trans (k3.len_le q (by split <;> omega)) hq, by split <;> omega⟩, rfl, trivial⟩, hb⟩
theorem con_rlen (V : Int) : Con Try.prog 64 [IsM V] (Lit (.int .i64 (bitsOf V))) := by
  refine ⟨fun _ _ => by go_simp, fun vs w B hB hV => ?_⟩
  match vs, hV with
  | [v], ⟨h1, _⟩ =>
    obtain ⟨ad, n, c, rfl, k, l⟩ := h1
    exact (num_rlen ad n c V w k (by have := lim_eq; omega)).mono fun e w' h => ⟨_, h.1, rfl, h.2⟩
theorem con_r3norm (X : Int) : Con Try.prog 34 [IsN X] (IsI X) := by
  refine ⟨fun _ _ => by go_simp, fun vs w B hB hV => ?_⟩
  match vs, hV with
  | [v], ⟨h1, _⟩ =>
    have hf := PN.fit h1
    obtain ⟨ng, ad, n, c, V, rfl, k, l, rfl⟩ := h1
    exact (r3norm_calls ng ad n c V w k (by have := lim_eq; omega)).mono fun e w' h => h.con hf
theorem con_r3below (X : Int) : Con Try.prog 54 [IsN X] (IsB (decide (X < 0))) := by
  refine ⟨fun _ _ => by go_simp, fun vs w B hB hV => ?_⟩
  match vs, hV with
  | [v], ⟨h1, _⟩ =>
    obtain ⟨ng, ad, n, c, V, rfl, k, l, rfl⟩ := h1
    exact (r3below_calls ng ad n c V w k (by have := lim_eq; omega)).mono fun e w' h => ⟨_, h.1, rfl, h.2⟩
theorem con_r3from (n : Int) (hn : -9223372036854775808 ≤ n ∧ n < 9223372036854775808) : Con Try.prog 36 [Lit (.int .i64 n)] (IsI n) := by
  refine ⟨fun _ _ => by go_simp, fun vs w B hB hV => ?_⟩
  match vs, hV with
  | [v], ⟨h1, _⟩ =>
    obtain rfl := h1
    exact (r3from_calls n w hn).mono fun e w' h => h.con ⟨2, by have := lim_eq; omega, FitK.i64 hn⟩
theorem con_r3int64 (X : Int) : Con Try.prog 31 [IsN X] (Tup [Lit (.int .i64 (if okI64 X then X else 0)), IsB (okI64 X)]) := by
  refine ⟨fun _ _ => by go_simp, fun vs w B hB hV => ?_⟩
  match vs, hV with
  | [v], ⟨h1, _⟩ =>
    obtain ⟨ng, ad, n, c, V, rfl, k, l, rfl⟩ := h1
    exact (r3int64_calls ng ad n c V w k (by have := lim_eq; omega)).mono fun e w' h => ⟨_, h.1, ⟨_, rfl, rfl, rfl, trivial⟩, h.2⟩
theorem con_r3uint64 (X : Int) : Con Try.prog 32 [IsN X] (Tup [Lit (.int .u64 (if okU64 X then X else 0)), IsB (okU64 X)]) := by
  refine ⟨fun _ _ => by go_simp, fun vs w B hB hV => ?_⟩
  match vs, hV with
  | [v], ⟨h1, _⟩ =>
    obtain ⟨ng, ad, n, c, V, rfl, k, l, rfl⟩ := h1
    exact (r3uint64_calls ng ad n c V w k (by have := lim_eq; omega)).mono fun e w' h => ⟨_, h.1, ⟨_, rfl, rfl, rfl, trivial⟩, h.2⟩
end Go.Proofs.Ytgnophflogmmaaa
