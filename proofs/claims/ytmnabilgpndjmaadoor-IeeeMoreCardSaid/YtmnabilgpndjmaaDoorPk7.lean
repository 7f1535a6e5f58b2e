/- Contracts of functions, and plain facts, part 7. -/
import Derived.Laws.Rows
import Derived.Test.YtmnabilgpndjmaaDoorProg
import Derived.Lib.TrailingZeros
import Derived.Laws.Bits64b
import Derived.Test.YtmnabilgpndjmaaDoorPk1
import Derived.Test.YtmnabilgpndjmaaDoorPk3
import Derived.Test.YtmnabilgpndjmaaDoorPk4
import Derived.Test.YtmnabilgpndjmaaDoorPk5
import Derived.Test.YtmnabilgpndjmaaDoorPk6
set_option linter.unusedVariables false
set_option linter.unusedSimpArgs false
/- Printed by ieee.py. -/
namespace Go.Proofs.YtmnabilgpndjmaaDoor
open Go.RowKit

theorem of_64 (w : World) (hS : Shapes w) : Calls Tryd.prog 120 #[] w (fun e w' => e = .returned (.agg #[.int .i64 52, .int .i64 (-1074), .int .i64 11]) ∧ Below w.heap.size w w') := by
  have b0 : Below w.heap.size w (w.alloc (.cells #[.int .i64 0, .int .i64 0, .int .i64 0] 142)) := (Below.refl _ _).alloc (Nat.le_refl _) _
  obtain ⟨c0, c1, c2, c3, c4, c5, c6, c7, c8⟩ := hS.below b0 (Nat.le_refl _)
  have x0 : bits BinOp.xor .u64 (if IntKind.u64.signed = true then -1 else IntKind.u64.max) 0 = 18446744073709551615 := by decide
  have x1 : bits BinOp.xor .u64 IntKind.u64.max 0 = 18446744073709551615 := by decide
  have x2 : IntKind.u64.wrap 18446744073709551615 = 18446744073709551615 := by decide
  clear b0
  go_enter Tryd.func120, Tryd.ntmps120
  go_wp2
  refine bodyPost_ret (results_cell_row rfl _ _ w.heap.size 142 #[.int .i64 52, .int .i64 (-1074), .int .i64 11] (0, 0) _ rfl (heap_alloc_new _ _) Tryd.underlying142 rfl size_shape) rfl ?_
  exact ⟨rfl, (Below.refl _ _).alloc (Nat.le_refl _) _⟩
end Go.Proofs.YtmnabilgpndjmaaDoor

/- Printed by ieee.py. -/
namespace Go.Proofs.YtmnabilgpndjmaaDoor
open Go.RowKit

theorem of_Own (w : World) (hS : Shapes w) : Calls Tryd.prog 121 #[] w (fun e w' => e = .returned (.agg #[.int .i64 23, .int .i64 (-149), .int .i64 8]) ∧ Below w.heap.size w w') := by
  have b0 : Below w.heap.size w (w.alloc (.cells #[.int .i64 0, .int .i64 0, .int .i64 0] 142)) := (Below.refl _ _).alloc (Nat.le_refl _) _
  obtain ⟨c0, c1, c2, c3, c4, c5, c6, c7, c8⟩ := hS.below b0 (Nat.le_refl _)
  have x0 : bits BinOp.xor .u32 (if IntKind.u32.signed = true then -1 else IntKind.u32.max) 0 = 4294967295 := by decide
  have x1 : bits BinOp.xor .u32 IntKind.u32.max 0 = 4294967295 := by decide
  have x2 : IntKind.u64.wrap 4294967295 = 4294967295 := by decide
  clear b0
  go_enter Tryd.func121, Tryd.ntmps121
  go_wp2
  refine bodyPost_ret (results_cell_row rfl _ _ w.heap.size 142 #[.int .i64 23, .int .i64 (-149), .int .i64 8] (0, 0) _ rfl (heap_alloc_new _ _) Tryd.underlying142 rfl size_shape) rfl ?_
  exact ⟨rfl, (Below.refl _ _).alloc (Nat.le_refl _) _⟩
end Go.Proofs.YtmnabilgpndjmaaDoor

/- crucibleref04: Of, Inf, NaN, Class, Total, Cmp, Next. -/
namespace Go.Proofs.YtmnabilgpndjmaaDoor
open Go.RowKit

theorem size_rshape : (Tryd.prog.info? 113).map (·.size) = some 3 := by kernel_rfl

/-- What Of answers. -/
def topW (W : Nat) : Int := 2 ^ shE W - 1
theorem rof_calls (W : Nat) (hW : Wide W) (w : World) : Calls Tryd.prog 87 #[.int .i64 W] w (fun e w' => e = .returned (.agg #[.int .i64 (shF W), .int .i64 (shL W), .int .i64 (topW W)]) ∧ Below w.heap.size w w') := by
  rcases hW with rfl | rfl | rfl
  · go_enter Tryd.func87, Tryd.ntmps87
    go_wp2
    refine bodyPost_ret (results_cell_row rfl _ _ w.heap.size 113 #[.int .i64 10, .int .i64 (-24), .int .i64 31] (0, 0) _ rfl (heap_alloc_new _ _) Tryd.underlying113 rfl size_rshape) rfl ?_
    exact ⟨rfl, (Below.refl _ _).alloc (Nat.le_refl _) _⟩
  · go_enter Tryd.func87, Tryd.ntmps87
    go_wp2
    refine bodyPost_ret (results_cell_row rfl _ _ w.heap.size 113 #[.int .i64 23, .int .i64 (-149), .int .i64 255] (0, 0) _ rfl (heap_alloc_new _ _) Tryd.underlying113 rfl size_rshape) rfl ?_
    exact ⟨rfl, (Below.refl _ _).alloc (Nat.le_refl _) _⟩
  · go_enter Tryd.func87, Tryd.ntmps87
    go_wp2
    refine bodyPost_ret (results_cell_row rfl _ _ w.heap.size 113 #[.int .i64 52, .int .i64 (-1074), .int .i64 2047] (0, 0) _ rfl (heap_alloc_new _ _) Tryd.underlying113 rfl size_rshape) rfl ?_
    exact ⟨rfl, (Below.refl _ _).alloc (Nat.le_refl _) _⟩


theorem rof_16 (w : World) : Calls Tryd.prog 87 #[.int .i64 16] w (fun e w' => e = .returned (.agg #[.int .i64 10, .int .i64 (-24), .int .i64 31]) ∧ Below w.heap.size w w') := rof_calls 16 (by unfold Wide; omega) w

theorem rof_32 (w : World) : Calls Tryd.prog 87 #[.int .i64 32] w (fun e w' => e = .returned (.agg #[.int .i64 23, .int .i64 (-149), .int .i64 255]) ∧ Below w.heap.size w w') := rof_calls 32 (by unfold Wide; omega) w

theorem rof_64 (w : World) : Calls Tryd.prog 87 #[.int .i64 64] w (fun e w' => e = .returned (.agg #[.int .i64 52, .int .i64 (-1074), .int .i64 2047]) ∧ Below w.heap.size w w') := rof_calls 64 (by unfold Wide; omega) w
theorem rtwo_9 (w : World) : Calls Tryd.prog 86 #[.int .i64 9] w (fun e w' => e = .returned (.int .u64 512) ∧ w = w') := by
  have h := rtwo_calls 9 (by omega) w
  rw [show (2 : Int) ^ 9 = 512 from by decide] at h
  exact h
theorem rtwo_10 (w : World) : Calls Tryd.prog 86 #[.int .i64 10] w (fun e w' => e = .returned (.int .u64 1024) ∧ w = w') := by
  have h := rtwo_calls 10 (by omega) w
  rw [show (2 : Int) ^ 10 = 1024 from by decide] at h
  exact h
theorem rtwo_22 (w : World) : Calls Tryd.prog 86 #[.int .i64 22] w (fun e w' => e = .returned (.int .u64 4194304) ∧ w = w') := by
  have h := rtwo_calls 22 (by omega) w
  rw [show (2 : Int) ^ 22 = 4194304 from by decide] at h
  exact h
theorem rtwo_23 (w : World) : Calls Tryd.prog 86 #[.int .i64 23] w (fun e w' => e = .returned (.int .u64 8388608) ∧ w = w') := by
  have h := rtwo_calls 23 (by omega) w
  rw [show (2 : Int) ^ 23 = 8388608 from by decide] at h
  exact h
theorem rtwo_51 (w : World) : Calls Tryd.prog 86 #[.int .i64 51] w (fun e w' => e = .returned (.int .u64 2251799813685248) ∧ w = w') := by
  have h := rtwo_calls 51 (by omega) w
  rw [show (2 : Int) ^ 51 = 2251799813685248 from by decide] at h
  exact h
theorem rtwo_52 (w : World) : Calls Tryd.prog 86 #[.int .i64 52] w (fun e w' => e = .returned (.int .u64 4503599627370496) ∧ w = w') := by
  have h := rtwo_calls 52 (by omega) w
  rw [show (2 : Int) ^ 52 = 4503599627370496 from by decide] at h
  exact h

theorem rinf_16 (w : World) : Calls Tryd.prog 63 #[.int .i64 16] w (fun e w' => e = .returned (.int .u64 31744) ∧ Below w.heap.size w w') := by
  have h1 := Lib.hid (rof_16)
  have h2 := Lib.hid (rtwo_10)
  have hf0 : ∀ w, (Instr.field 113 (.agg #[.int .i64 10, .int .i64 (-24), .int .i64 31]) 0).run Tryd.prog w = .ok (.int .i64 10) w := fun _ => by kernel_rfl
  have hf2 : ∀ w, (Instr.field 113 (.agg #[.int .i64 10, .int .i64 (-24), .int .i64 31]) 2).run Tryd.prog w = .ok (.int .i64 31) w := fun _ => by kernel_rfl
  go_enter Tryd.func63, Tryd.ntmps63
  go_wp2_with fail
  refine (h1.out w).mono ?_
  rintro e w1 ⟨rfl, b1⟩
  go_wp2_with fail
  refine (h1.out w1).mono ?_
  rintro e w2 ⟨rfl, b2⟩
  go_wp2_with fail
  refine (h2.out w2).mono ?_
  rintro e w3 ⟨rfl, rfl⟩
  go_wp2
  go_ret
  exact ⟨by first | rfl | simp, below_trans b1 b2⟩
theorem rnan_16 (w : World) : Calls Tryd.prog 100 #[.int .i64 16] w (fun e w' => e = .returned (.int .u64 32256) ∧ Below w.heap.size w w') := by
  have h1 := Lib.hid (rof_16)
  have h2 := Lib.hid (rinf_16)
  have hf0 : ∀ w, (Instr.field 113 (.agg #[.int .i64 10, .int .i64 (-24), .int .i64 31]) 0).run Tryd.prog w = .ok (.int .i64 10) w := fun _ => by kernel_rfl
  have h3 := Lib.hid (rtwo_9)
  have hw : IntKind.i64.wrap 9 = 9 := by decide
  go_enter Tryd.func100, Tryd.ntmps100
  go_wp2_with fail
  refine (h2.out w).mono ?_
  rintro e w1 ⟨rfl, b1⟩
  go_wp2_with fail
  refine (h1.out w1).mono ?_
  rintro e w2 ⟨rfl, b2⟩
  go_wp2_with fail
  refine (h3.out w2).mono ?_
  rintro e w3 ⟨rfl, rfl⟩
  go_wp2
  go_ret
  exact ⟨by first | rfl | simp, below_trans b1 b2⟩

theorem rinf_32 (w : World) : Calls Tryd.prog 63 #[.int .i64 32] w (fun e w' => e = .returned (.int .u64 2139095040) ∧ Below w.heap.size w w') := by
  have h1 := Lib.hid (rof_32)
  have h2 := Lib.hid (rtwo_23)
  have hf0 : ∀ w, (Instr.field 113 (.agg #[.int .i64 23, .int .i64 (-149), .int .i64 255]) 0).run Tryd.prog w = .ok (.int .i64 23) w := fun _ => by kernel_rfl
  have hf2 : ∀ w, (Instr.field 113 (.agg #[.int .i64 23, .int .i64 (-149), .int .i64 255]) 2).run Tryd.prog w = .ok (.int .i64 255) w := fun _ => by kernel_rfl
  go_enter Tryd.func63, Tryd.ntmps63
  go_wp2_with fail
  refine (h1.out w).mono ?_
  rintro e w1 ⟨rfl, b1⟩
  go_wp2_with fail
  refine (h1.out w1).mono ?_
  rintro e w2 ⟨rfl, b2⟩
  go_wp2_with fail
  refine (h2.out w2).mono ?_
  rintro e w3 ⟨rfl, rfl⟩
  go_wp2
  go_ret
  exact ⟨by first | rfl | simp, below_trans b1 b2⟩
theorem rnan_32 (w : World) : Calls Tryd.prog 100 #[.int .i64 32] w (fun e w' => e = .returned (.int .u64 2143289344) ∧ Below w.heap.size w w') := by
  have h1 := Lib.hid (rof_32)
  have h2 := Lib.hid (rinf_32)
  have hf0 : ∀ w, (Instr.field 113 (.agg #[.int .i64 23, .int .i64 (-149), .int .i64 255]) 0).run Tryd.prog w = .ok (.int .i64 23) w := fun _ => by kernel_rfl
  have h3 := Lib.hid (rtwo_22)
  have hw : IntKind.i64.wrap 22 = 22 := by decide
  go_enter Tryd.func100, Tryd.ntmps100
  go_wp2_with fail
  refine (h2.out w).mono ?_
  rintro e w1 ⟨rfl, b1⟩
  go_wp2_with fail
  refine (h1.out w1).mono ?_
  rintro e w2 ⟨rfl, b2⟩
  go_wp2_with fail
  refine (h3.out w2).mono ?_
  rintro e w3 ⟨rfl, rfl⟩
  go_wp2
  go_ret
  exact ⟨by first | rfl | simp, below_trans b1 b2⟩

theorem rinf_64 (w : World) : Calls Tryd.prog 63 #[.int .i64 64] w (fun e w' => e = .returned (.int .u64 9218868437227405312) ∧ Below w.heap.size w w') := by
  have h1 := Lib.hid (rof_64)
  have h2 := Lib.hid (rtwo_52)
  have hf0 : ∀ w, (Instr.field 113 (.agg #[.int .i64 52, .int .i64 (-1074), .int .i64 2047]) 0).run Tryd.prog w = .ok (.int .i64 52) w := fun _ => by kernel_rfl
  have hf2 : ∀ w, (Instr.field 113 (.agg #[.int .i64 52, .int .i64 (-1074), .int .i64 2047]) 2).run Tryd.prog w = .ok (.int .i64 2047) w := fun _ => by kernel_rfl
  go_enter Tryd.func63, Tryd.ntmps63
  go_wp2_with fail
  refine (h1.out w).mono ?_
  rintro e w1 ⟨rfl, b1⟩
  go_wp2_with fail
  refine (h1.out w1).mono ?_
  rintro e w2 ⟨rfl, b2⟩
  go_wp2_with fail
  refine (h2.out w2).mono ?_
  rintro e w3 ⟨rfl, rfl⟩
  go_wp2
  go_ret
  exact ⟨by first | rfl | simp, below_trans b1 b2⟩
theorem rnan_64 (w : World) : Calls Tryd.prog 100 #[.int .i64 64] w (fun e w' => e = .returned (.int .u64 9221120237041090560) ∧ Below w.heap.size w w') := by
  have h1 := Lib.hid (rof_64)
  have h2 := Lib.hid (rinf_64)
  have hf0 : ∀ w, (Instr.field 113 (.agg #[.int .i64 52, .int .i64 (-1074), .int .i64 2047]) 0).run Tryd.prog w = .ok (.int .i64 52) w := fun _ => by kernel_rfl
  have h3 := Lib.hid (rtwo_51)
  have hw : IntKind.i64.wrap 51 = 51 := by decide
  go_enter Tryd.func100, Tryd.ntmps100
  go_wp2_with fail
  refine (h2.out w).mono ?_
  rintro e w1 ⟨rfl, b1⟩
  go_wp2_with fail
  refine (h1.out w1).mono ?_
  rintro e w2 ⟨rfl, b2⟩
  go_wp2_with fail
  refine (h3.out w2).mono ?_
  rintro e w3 ⟨rfl, rfl⟩
  go_wp2
  go_ret
  exact ⟨by first | rfl | simp, below_trans b1 b2⟩

theorem rinf_calls (W : Nat) (hW : Wide W) (w : World) : Calls Tryd.prog 63 #[.int .i64 W] w (fun e w' => e = .returned (.int .u64 (infW W)) ∧ Below w.heap.size w w') := by
  rcases hW with rfl | rfl | rfl
  · rw [inf16]; exact rinf_16 w
  · rw [inf32]; exact rinf_32 w
  · rw [inf64]; exact rinf_64 w
theorem rnan_calls (W : Nat) (hW : Wide W) (w : World) : Calls Tryd.prog 100 #[.int .i64 W] w (fun e w' => e = .returned (.int .u64 (nanW W)) ∧ Below w.heap.size w w') := by
  rcases hW with rfl | rfl | rfl
  · rw [nan16]; exact rnan_16 w
  · rw [nan32]; exact rnan_32 w
  · rw [nan64]; exact rnan_64 w
end Go.Proofs.YtmnabilgpndjmaaDoor

/- RShl by worth alone. -/
namespace Go.Proofs.YtmnabilgpndjmaaDoor
open Go.RowKit

theorem num_rshl (ad : Option Addr) (n c : Nat) (V : Int) (r : Int) (w : World) (h : Num w ad n c V) (hn : n ≤ 1099511627776) (hr : -9223372036854775808 ≤ r ∧ r < 9223372036854775808) :
    Calls Tryd.prog 92 #[.slice ad n c, .int .i64 r] w (RetCB (shlNum V r) (shlOk V r) w) := by
  obtain ⟨xs, h1, h2, rfl⟩ := h.row
  exact (rshl_calls ad n c xs r w (by omega) h1 h2 hr).mono fun e w' q => q.can
end Go.Proofs.YtmnabilgpndjmaaDoor

/- math/bits.TrailingZeros64, and a number's odd part. -/
namespace Go.Proofs.YtmnabilgpndjmaaDoor
open Go.RowKit

/-- The table of places as its initialiser lays it. -/
def Tab (w : World) : Prop := ∀ j, j < 64 → w.cell? ⟨1, j, none⟩ = some (.int .u8 ((Lib.deBruijn64tab.getD j 0 : Nat) : Int))
theorem Tab.below {w w1 : World} (h : Tab w) {B : Nat} (hb : Below B w w1) (hB : w.heap.size ≤ B) : Tab w1 := fun j hj => below_cell hb hB (h j hj)

/-- How many noughts a number ends in; what stands before them. -/
def tzI (x : Int) : Int := (Lib.ctz 64 x.toNat : Nat)
def oddI (x : Int) : Int := x / 2 ^ Lib.ctz 64 x.toNat

theorem tz_key (x a : Nat) (hx : x < 2 ^ 64) (hx0 : x ≠ 0) (hlow : x &&& (2 ^ 64 - x) = a) :
    IntKind.u64.wrap (bits BinOp.and IntKind.u64 (x : Int) (IntKind.u64.wrap (-(x : Int))) * 285870213051353865) / 288230376151711744 = ((a * 285870213051353865 % 18446744073709551616 / 288230376151711744 : Nat) : Int) := by
  rw [show (2 : Nat) ^ 64 = 18446744073709551616 from by decide] at hx hlow
  have e1 : IntKind.u64.wrap (-(x : Int)) = ((18446744073709551616 - x : Nat) : Int) := by rw [IntKind.wrap_u64]; omega
  rw [e1, Go.bits_and_u64_nat x _ hx (by omega), hlow, IntKind.wrap_u64]
  omega

theorem tz_core (x : Int) (k idx : Nat) (w : World) (hx0 : (x == 0) = false)
    (key : IntKind.u64.wrap (bits BinOp.and IntKind.u64 x (IntKind.u64.wrap (-x)) * 285870213051353865) / 288230376151711744 = (idx : Int))
    (hi : idx < 64) (hk : k < 64) (hcell : w.cell? ⟨1, idx, none⟩ = some (.int .u8 k)) :
    Calls Tryd.prog 133 #[.int .u64 x] w fun e w' => e = .returned (.int .i64 k) ∧ w = w' := by
  go_enter Tryd.func133, Tryd.ntmps133
  go_wp2_with (simp only [key])
  go_ret
  exact ⟨rfl, rfl⟩

theorem tz_calls (x : Int) (hx : 0 < x ∧ x < 18446744073709551616) (w : World) (hT : Tab w) :
    Calls Tryd.prog 133 #[.int .u64 x] w fun e w' => e = .returned (.int .i64 (tzI x)) ∧ w = w' := by
  obtain ⟨x, rfl⟩ := Int.eq_ofNat_of_zero_le (Int.le_of_lt hx.1)
  have hx1 : x < 2 ^ 64 := by rw [show (2 : Nat) ^ 64 = 18446744073709551616 from by decide]; omega
  obtain ⟨hlow, hk⟩ := Lib.lowest_bit 64 x (by omega) hx1
  obtain ⟨hi, htab⟩ := Lib.deBruijn64_at _ hk
  have hcell := hT _ hi
  rw [htab] at hcell
  have hc0 : ((x : Int) == 0) = false := by simp; omega
  exact tz_core x _ _ w hc0 (tz_key x _ hx1 (by omega) hlow) hi hk hcell

theorem two_split {a b c d : Nat} (h : 2 ^ a * (2 * b + 1) = 2 ^ c * (2 * d + 1)) : a = c ∧ b = d := by
  have aux : ∀ a b c d : Nat, a < c → 2 ^ a * (2 * b + 1) ≠ 2 ^ c * (2 * d + 1) := by
    intro a b c d hac h
    obtain ⟨k, rfl⟩ : ∃ k, c = a + (k + 1) := ⟨c - a - 1, by omega⟩
    rw [Nat.pow_add, Nat.mul_assoc] at h
    have h2 := Nat.eq_of_mul_eq_mul_left (Nat.two_pow_pos a) h
    rw [Nat.pow_succ, Nat.mul_comm (2 ^ k) 2, Nat.mul_assoc] at h2
    omega
  have hac : a = c := by
    rcases Nat.lt_trichotomy a c with h1 | h1 | h1
    · exact absurd h (aux a b c d h1)
    · exact h1
    · exact absurd h.symm (aux c d a b h1)
  subst hac
  have := Nat.eq_of_mul_eq_mul_left (Nat.two_pow_pos a) h
  omega

/-- An odd number and a power of 2: the odd part and the place. -/
theorem odd_of (x m : Int) (k : Nat) (hx : 0 < x) (hx1 : x < 18446744073709551616) (h : x = m * 2 ^ k) (hm : m % 2 = 1) : oddI x = m ∧ tzI x = k := by
  obtain ⟨n, rfl⟩ := Int.eq_ofNat_of_zero_le (Int.le_of_lt hx)
  have hp : (0 : Int) < 2 ^ k := Int.pow_pos (by omega)
  have hm0 : 0 ≤ m := by
    rcases Int.lt_or_le m 0 with h0 | h0
    · have := Int.mul_neg_of_neg_of_pos h0 hp
      omega
    · exact h0
  obtain ⟨m, rfl⟩ := Int.eq_ofNat_of_zero_le hm0
  have h2 : n = m * 2 ^ k := by
    have : (n : Int) = ((m * 2 ^ k : Nat) : Int) := by rw [h]; simp
    omega
  have hn64 : n < 2 ^ 64 := by rw [show (2 : Nat) ^ 64 = 18446744073709551616 from by decide]; omega
  obtain ⟨j, hj, -⟩ := Lib.ctzFrom_spec 64 n (by omega) hn64
  have hc : Lib.ctz 64 n = Lib.ctzFrom 64 n := by unfold Lib.ctz; rw [if_neg (by omega)]
  rw [← hc] at hj
  have hmo : m = 2 * (m / 2) + 1 := by omega
  have h3 : 2 ^ Lib.ctz 64 n * (2 * j + 1) = 2 ^ k * (2 * (m / 2) + 1) := by rw [← hj, h2, ← hmo, Nat.mul_comm]
  obtain ⟨e1, e2⟩ := two_split h3
  unfold oddI tzI
  rw [Int.toNat_natCast, e1]
  refine ⟨?_, rfl⟩
  rw [h]
  exact Int.mul_ediv_cancel _ (by omega)

theorem odd_spec (x : Int) (hx : 0 < x) (hx1 : x < 18446744073709551616) : x = oddI x * 2 ^ (tzI x).toNat ∧ oddI x % 2 = 1 ∧ 0 < oddI x ∧ oddI x ≤ x ∧ 0 ≤ tzI x ∧ tzI x < 64 := by
  obtain ⟨n, rfl⟩ := Int.eq_ofNat_of_zero_le (Int.le_of_lt hx)
  have hn64 : n < 2 ^ 64 := by rw [show (2 : Nat) ^ 64 = 18446744073709551616 from by decide]; omega
  obtain ⟨j, hj, hlt⟩ := Lib.ctzFrom_spec 64 n (by omega) hn64
  have hc : Lib.ctz 64 n = Lib.ctzFrom 64 n := by unfold Lib.ctz; rw [if_neg (by omega)]
  rw [← hc] at hj hlt
  have e : oddI (n : Int) = (2 * j + 1 : Nat) ∧ tzI (n : Int) = (Lib.ctz 64 n : Nat) := by
    refine odd_of _ _ _ hx hx1 ?_ (by omega)
    have : ((n : Nat) : Int) = ((2 ^ Lib.ctz 64 n * (2 * j + 1) : Nat) : Int) := by rw [← hj]
    rw [this, Nat.mul_comm]
    simp
  have hp := Nat.two_pow_pos (Lib.ctz 64 n)
  have hle : 2 * j + 1 ≤ n := by
    have := Nat.mul_le_mul_right (2 * j + 1) hp
    omega
  rw [e.1, e.2, Int.toNat_natCast]
  refine ⟨?_, by omega, by omega, by omega, by omega, by omega⟩
  have : ((n : Nat) : Int) = ((2 ^ Lib.ctz 64 n * (2 * j + 1) : Nat) : Int) := by rw [← hj]
  rw [this, Nat.mul_comm]
  simp

/-- The parts of a pattern. -/
def pOk (W : Nat) (x : Int) : Bool := decide (sizeW W x < infW W)
def pNeg (W : Nat) (x : Int) : Bool := pOk W x && negW W x
def rawM (W : Nat) (x : Int) : Int := (numM (shF W) (sizeW W x).toNat : Nat)
def rawE (W : Nat) (x : Int) : Int := shL W + (numP (shF W) (sizeW W x).toNat : Nat)
def pM (W : Nat) (x : Int) : Int := if pOk W x && !decide (sizeW W x = 0) then oddI (rawM W x) else 0
def pE (W : Nat) (x : Int) : Int := if pOk W x && !decide (sizeW W x = 0) then rawE W x + tzI (rawM W x) else 0

/-- The whole number that a pattern is. -/
def intOk (W : Nat) (x : Int) : Bool := pOk W x && decide (0 ≤ pE W x)
def intV (W : Nat) (x : Int) : Int := if intOk W x then pM W x * 2 ^ (pE W x).toNat else 0
def intN (W : Nat) (x : Int) : Int := if pNeg W x then -intV W x else intV W x

theorem results_tmp4 {fn : Func} {t u v s : Tmp} (h : fn.results = #[.tmp t, .tmp u, .tmp v, .tmp s]) (tmps : Array Value) (P : Program) (w : World) :
    (results fn tmps).run P w = .ok (.tuple #[tmps.getD t undef, tmps.getD u undef, tmps.getD v undef, tmps.getD s undef]) w := by
  simp [results, h]

theorem raw_pos {W : Nat} (x : Int) (h : 0 < sizeW W x) : 0 < rawM W x := by
  unfold rawM numM
  have := Nat.two_pow_pos (shF W)
  split <;> omega
theorem raw_lt {W : Nat} (hW : Wide W) (x : Int) : rawM W x < 9007199254740992 := by
  have h2 := numM_lt (shF W) (sizeW W x).toNat
  have h3 : 2 ^ (shF W + 1) ≤ 2 ^ 53 := Nat.pow_le_pow_right (by omega) (by rcases hW with rfl | rfl | rfl <;> decide)
  have h4 : (2 : Nat) ^ 53 = 9007199254740992 := by decide
  unfold rawM
  omega
theorem rawE_bd {W : Nat} (hW : Wide W) (x : Int) (h : sizeW W x ≤ infW W) : -1074 ≤ rawE W x ∧ rawE W x ≤ 2048 := by
  have h2 := numP_le hW (sizeW W x).toNat (by have := infW_eq hW; omega)
  have h3 : 2 ^ shE W ≤ 2048 := by rcases hW with rfl | rfl | rfl <;> decide
  have h4 : -1074 ≤ shL W ∧ shL W ≤ -24 := by rcases hW with rfl | rfl | rfl <;> decide
  unfold rawE
  omega
theorem pM_bd {W : Nat} (hW : Wide W) (x : Int) : 0 ≤ pM W x ∧ pM W x < 9007199254740992 := by
  unfold pM
  split
  · rename_i h
    simp only [Bool.and_eq_true, Bool.not_eq_true', decide_eq_false_iff_not] at h
    have h1 : 0 ≤ rawM W x := by unfold rawM; omega
    rcases Int.lt_or_eq_of_le h1 with h2 | h2
    · have h3 := raw_lt hW x
      have h4 := odd_spec _ h2 (by omega)
      omega
    · rw [← h2]
      decide
  · omega
theorem pE_bd {W : Nat} (hW : Wide W) (x : Int) : -1074 ≤ pE W x ∧ pE W x ≤ 2200 := by
  unfold pE
  split
  · rename_i h
    simp only [Bool.and_eq_true, Bool.not_eq_true', decide_eq_false_iff_not] at h
    have h0 : sizeW W x < infW W := of_decide_eq_true h.1
    have h1 := rawE_bd hW x (Int.le_of_lt h0)
    have h2 : 0 ≤ rawM W x := by unfold rawM; omega
    rcases Int.lt_or_eq_of_le h2 with h3 | h3
    · have h4 := raw_lt hW x
      have h5 := odd_spec _ h3 (by omega)
      omega
    · rw [← h3]
      have : tzI 0 = 64 := by decide
      omega
  · omega
end Go.Proofs.YtmnabilgpndjmaaDoor

/- Printed by ieee.py. -/
namespace Go.Proofs.YtmnabilgpndjmaaDoor
open Go.RowKit

/-- split: the sign, and the pattern without it. -/
theorem split_16 (w : World) (hS : Shapes w) (x : Int) (hx : 0 ≤ x ∧ x < 65536) : Calls Tryd.prog 110 #[.int .u16 x] w (fun e w' => e = .returned (.tuple #[.bool (negW 16 x), .int .u64 (sizeW 16 x)]) ∧ Below w.heap.size w w') := by
  have h1 := Lib.hid (of_16 w hS)
  have HN := Lib.hid (and_sign_16 x (by omega))
  have HA := Lib.hid (andNot_sign_16 x (by omega))
  go_enter Tryd.func110, Tryd.ntmps110
  go_wp2_with fail
  refine (h1.out).mono ?_
  rintro e w1 ⟨rfl, b1⟩
  have h2 := Lib.hid (shsign_16 w1)
  go_wp2_with fail
  refine (h2.out).mono ?_
  rintro e w2 ⟨rfl, b2⟩
  go_wp2
  go_ret2
  rw [← HN.out, ← HA.out]
  exact ⟨rfl, below_trans b1 b2⟩
end Go.Proofs.YtmnabilgpndjmaaDoor

/- What the walks of layer 4 carry along. -/
namespace Go.Proofs.YtmnabilgpndjmaaDoor
open Go.RowKit

theorem limb_pow (n : Nat) : (4294967296 : Int) ^ n = 2 ^ (32 * n) := by
  rw [Int.pow_mul]
  rfl

theorem blen_limbs (V : Int) (n : Nat) (h0 : 0 ≤ V) (h : V < 4294967296 ^ n) : blen V.toNat ≤ 32 * n := by
  by_cases hz : V.toNat = 0
  · rw [hz]; exact Nat.zero_le _
  · have h1 := blen_ge V.toNat hz
    rw [limb_pow] at h
    have h2 : V.toNat < 2 ^ (32 * n) := by
      have : ((V.toNat : Nat) : Int) < ((2 ^ (32 * n) : Nat) : Int) := by
        rw [Int.toNat_of_nonneg h0]
        simpa using h
      exact Int.ofNat_lt.1 this
    have h3 := (Nat.pow_lt_pow_iff_right (show 1 < 2 by omega)).1 (Nat.lt_of_le_of_lt h1 h2)
    omega

theorem Num.nonneg {w : World} {ad : Option Addr} {n c : Nat} {V : Int} (h : Num w ad n c V) : 0 ≤ V := by
  obtain ⟨xs, h1, h2, rfl⟩ := h.row
  exact val_nonneg (by omega) h2
theorem Num.lt {w : World} {ad : Option Addr} {n c : Nat} {V : Int} (h : Num w ad n c V) : V < 4294967296 ^ n := by
  obtain ⟨xs, h1, h2, rfl⟩ := h.row
  have := val_lt (by omega) h2
  rwa [h1.len] at this
theorem Num.bits_le {w : World} {ad : Option Addr} {n c : Nat} {V : Int} (h : Num w ad n c V) : 0 ≤ bitsOf V ∧ bitsOf V ≤ 32 * n := by
  have := blen_limbs V n h.nonneg h.lt
  unfold bitsOf
  omega
theorem bits_zero_iff (V : Int) (hV : 0 ≤ V) : bitsOf V = 0 ↔ V = 0 := by
  unfold bitsOf
  constructor
  · intro h
    by_cases hz : V.toNat = 0
    · omega
    · have := blen_pos V.toNat hz
      omega
  · rintro rfl; rfl

theorem lt_limbs (M : Int) (b k : Nat) (h : M < 2 ^ b) (hb : b ≤ 32 * k) : M < 4294967296 ^ k := by
  rw [limb_pow]
  exact Int.lt_of_lt_of_le h (pow_le (by omega) hb)

/-- A number of few limbs has room to be moved up. -/
theorem shl_fits (V : Int) (n : Nat) (r : Int) (h0 : 0 ≤ V) (h : V < 4294967296 ^ n) (hn : n ≤ 4096) (hr : 0 ≤ r ∧ r ≤ 32 * 4096) :
    shlOk V r = true ∧ shlNum V r = V * 2 ^ r.toNat ∧ 0 ≤ V * 2 ^ r.toNat ∧ V * 2 ^ r.toNat < 4294967296 ^ (n + 4097) := by
  have h1 := blen_limbs V n h0 h
  have e1 : shlOk V r = true := decide_eq_true ⟨hr.1, .inr (by omega)⟩
  have h2 : (0 : Int) < 2 ^ r.toNat := Int.pow_pos (by omega)
  refine ⟨e1, by unfold shlNum; rw [if_pos e1], Int.mul_nonneg h0 (Int.le_of_lt h2), ?_⟩
  refine pow_mul_lt _ _ _ _ h0 (Int.le_of_lt h2) h ?_
  rw [limb_pow]
  have h3 := pow_le (b := 2) (by omega) (show r.toNat + 1 ≤ 32 * 4097 by omega)
  rw [Int.pow_succ] at h3
  omega

theorem double_lt {V : Int} {n : Nat} (h0 : 0 ≤ V) (h : V < 4294967296 ^ n) : V + V + 1 < 4294967296 ^ (n + 1) := by
  rw [Int.pow_succ]
  omega

theorem num_one (w : World) : Num (w.alloc (.cells #[.int .u32 1] 76)) (some ⟨w.heap.size, 0, none⟩) 1 1 1 :=
  ⟨Nat.le_refl _, [1], (Blk.made w 76 .u32 [1] _ rfl).rds, Dig.cons (by omega) (by omega) (Dig.nil _), rfl⟩

theorem bits_lt (V : Int) (hV : 0 ≤ V) (b : Nat) (h : bitsOf V ≤ b) : V < 2 ^ b := by
  have h1 := blen_lt V.toNat
  unfold bitsOf at h
  have h2 : 2 ^ blen V.toNat ≤ 2 ^ b := Nat.pow_le_pow_right (by omega) (by omega)
  have h3 : ((V.toNat : Nat) : Int) < ((2 ^ b : Nat) : Int) := by omega
  rw [Int.toNat_of_nonneg hV] at h3
  simpa using h3

theorem and_one (q : Int) (hq : 0 ≤ q ∧ q < 18446744073709551616) : bits .and .u64 q 1 = q % 2 := by
  obtain ⟨q, rfl⟩ := Int.eq_ofNat_of_zero_le hq.1
  have e : bits .and .u64 (q : Int) ((1 : Nat) : Int) = ((q &&& 1 : Nat) : Int) := Go.bits_and_u64_nat q 1 (by omega) (by omega)
  rw [Nat.and_one_is_mod] at e
  exact e

/-- The local shape, in block b. -/
structure ShAt (F L E : Int) (b : Nat) (w : World) : Prop where
  c0 : w.cell? ⟨b, 0, none⟩ = some (.int .i64 F)
  c1 : w.cell? ⟨b, 1, none⟩ = some (.int .i64 L)
  c2 : w.cell? ⟨b, 2, none⟩ = some (.int .i64 E)
theorem ShAt.below {F L E : Int} {b : Nat} {w w1 : World} (h : ShAt F L E b w) (k : Below w.heap.size w w1) : ShAt F L E b w1 :=
  ⟨below_cell k (Nat.le_refl _) h.c0, below_cell k (Nat.le_refl _) h.c1, below_cell k (Nat.le_refl _) h.c2⟩
theorem ShAt.made (F L E : Int) (w : World) : ShAt F L E w.heap.size (w.alloc (.cells #[.int .i64 F, .int .i64 L, .int .i64 E] 142)) :=
  ⟨World.cell?_alloc_at _ _ _ _ rfl, World.cell?_alloc_at _ _ _ _ rfl, World.cell?_alloc_at _ _ _ _ rfl⟩

/-- The number that is looked for, and where the walk stands. -/
structure PNum (W : Nat) (F L E : Int) (b : Nat) (w wx : World) (T : Nat) (ad : Option Addr) (n c : Nat) (M p N : Int) : Prop where
  num : Num wx ad n c M
  pos : 0 < M
  len : n ≤ 1099511627778
  bd : -3000 - N ≤ p ∧ p ≤ 2000
  nb : 0 ≤ N ∧ N ≤ 1125899906842624
  bits : Hid (N = bitsOf M)
  near : Hid (T = nearE W M.toNat p)
  sh : ShAt F L E b wx
  shp : Shapes wx
  bel : Below w.heap.size w wx
theorem PNum.below {W : Nat} {F L E : Int} {b : Nat} {w wx wy : World} {T : Nat} {ad : Option Addr} {n c : Nat} {M p N : Int} (h : PNum W F L E b w wx T ad n c M p N) (k : Below wx.heap.size wx wy) : PNum W F L E b w wy T ad n c M p N :=
  ⟨h.num.below k (Nat.le_refl _), h.pos, h.len, h.bd, h.nb, h.bits, h.near, h.sh.below k, h.shp.below k (Nat.le_refl _), below_trans h.bel k⟩
/-- Where it stands when the digits are found. -/
structure PAt (F L E : Int) (b : Nat) (w wx : World) : Prop where
  sh : ShAt F L E b wx
  shp : Shapes wx
  bel : Below w.heap.size w wx
end Go.Proofs.YtmnabilgpndjmaaDoor

/- Printed by ieee.py. -/
namespace Go.Proofs.YtmnabilgpndjmaaDoor
open Go.RowKit

/-- split: the sign, and the pattern without it. -/
theorem split_32 (w : World) (hS : Shapes w) (x : Int) (hx : 0 ≤ x ∧ x < 4294967296) : Calls Tryd.prog 113 #[.int .u32 x] w (fun e w' => e = .returned (.tuple #[.bool (negW 32 x), .int .u64 (sizeW 32 x)]) ∧ Below w.heap.size w w') := by
  have h1 := Lib.hid (of_32 w hS)
  have HN := Lib.hid (and_sign_32 x (by omega))
  have HA := Lib.hid (andNot_sign_32 x (by omega))
  go_enter Tryd.func113, Tryd.ntmps113
  go_wp2_with fail
  refine (h1.out).mono ?_
  rintro e w1 ⟨rfl, b1⟩
  have h2 := Lib.hid (shsign_32 w1)
  go_wp2_with fail
  refine (h2.out).mono ?_
  rintro e w2 ⟨rfl, b2⟩
  go_wp2
  go_ret2
  rw [← HN.out, ← HA.out]
  exact ⟨rfl, below_trans b1 b2⟩
end Go.Proofs.YtmnabilgpndjmaaDoor

/- Printed by ieee.py. -/
namespace Go.Proofs.YtmnabilgpndjmaaDoor
open Go.RowKit

/-- split: the sign, and the pattern without it. -/
theorem split_64 (w : World) (hS : Shapes w) (x : Int) (hx : 0 ≤ x ∧ x < 18446744073709551616) : Calls Tryd.prog 111 #[.int .u64 x] w (fun e w' => e = .returned (.tuple #[.bool (negW 64 x), .int .u64 (sizeW 64 x)]) ∧ Below w.heap.size w w') := by
  have h1 := Lib.hid (of_64 w hS)
  have HN := Lib.hid (and_sign_64 x (by omega))
  have HA := Lib.hid (andNot_sign_64 x (by omega))
  go_enter Tryd.func111, Tryd.ntmps111
  go_wp2_with fail
  refine (h1.out).mono ?_
  rintro e w1 ⟨rfl, b1⟩
  have h2 := Lib.hid (shsign_64 w1)
  go_wp2_with fail
  refine (h2.out).mono ?_
  rintro e w2 ⟨rfl, b2⟩
  go_wp2
  go_ret2
  rw [← HN.out, ← HA.out]
  exact ⟨rfl, below_trans b1 b2⟩
end Go.Proofs.YtmnabilgpndjmaaDoor

/- Printed by ieee.py. -/
namespace Go.Proofs.YtmnabilgpndjmaaDoor
open Go.RowKit

/-- split: the sign, and the pattern without it. -/
theorem split_Own (w : World) (hS : Shapes w) (x : Int) (hx : 0 ≤ x ∧ x < 4294967296) : Calls Tryd.prog 112 #[.int .u32 x] w (fun e w' => e = .returned (.tuple #[.bool (negW 32 x), .int .u64 (sizeW 32 x)]) ∧ Below w.heap.size w w') := by
  have h1 := Lib.hid (of_Own w hS)
  have HN := Lib.hid (and_sign_32 x (by omega))
  have HA := Lib.hid (andNot_sign_32 x (by omega))
  go_enter Tryd.func112, Tryd.ntmps112
  go_wp2_with fail
  refine (h1.out).mono ?_
  rintro e w1 ⟨rfl, b1⟩
  have h2 := Lib.hid (shsign_32 w1)
  go_wp2_with fail
  refine (h2.out).mono ?_
  rintro e w2 ⟨rfl, b2⟩
  go_wp2
  go_ret2
  rw [← HN.out, ← HA.out]
  exact ⟨rfl, below_trans b1 b2⟩
end Go.Proofs.YtmnabilgpndjmaaDoor
