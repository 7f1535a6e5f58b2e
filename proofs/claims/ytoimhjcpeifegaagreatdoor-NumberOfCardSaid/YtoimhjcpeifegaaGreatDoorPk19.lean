/- Contracts of functions, and plain facts, part 19. -/
import Derived.IntWalk
import Derived.Test.YtoimhjcpeifegaaGreatDoorPk14
import Derived.Test.YtoimhjcpeifegaaGreatDoorPk16
import Derived.Test.YtoimhjcpeifegaaGreatDoorPk17
set_option linter.unusedVariables false
set_option linter.unusedSimpArgs false
/- Printed by ieee3.py. -/
namespace Go.Proofs.YtoimhjcpeifegaaGreatDoor
open Go.RowKit

theorem or_sign_64 (z : Int) (hz : 0 ≤ z ∧ z < 9223372036854775808) : bits .or .u64 z 9223372036854775808 = 9223372036854775808 + z := by
  obtain ⟨z, rfl⟩ := Int.eq_ofNat_of_zero_le hz.1
  have e : bits .or .u64 (z : Int) ((9223372036854775808 : Nat) : Int) = ((z ||| 9223372036854775808 : Nat) : Int) := Go.bits_or_u64_nat z _ (by omega) (by omega)
  have h := Nat.two_pow_add_eq_or_of_lt (show z < 2 ^ 63 by rw [show (2 : Nat) ^ 63 = 9223372036854775808 from by decide]; omega) 1
  rw [Nat.mul_one, show (2 : Nat) ^ 63 = 9223372036854775808 from by decide, Nat.or_comm] at h
  rw [← h] at e
  exact e.trans (by simp)

theorem signed_64 (w : World) (hS : Shapes w) (neg : Bool) (z : Int) (hz : 0 ≤ z ∧ z < 9223372036854775808) : Calls Tryz.prog 60 #[.bool neg, .int .u64 z] w (fun e w' => e = .returned (.int .u64 ((if neg then sgnW 64 else 0) + z)) ∧ Below w.heap.size w w') := by
  have H1 := Lib.hid (of_64 w hS)
  have HO := or_sign_64 z hz
  rw [sgn64]
  cases neg
  · have W1 : IntKind.u64.wrap z = z := by rw [IntKind.wrap_u64]; omega
    have W2 : z % 18446744073709551616 = z := by omega
    have W3 : 0 + z = z := by omega
    clear HO
    go_enter Tryz.func60, Tryz.ntmps60
    go_wp2
    go_ret
    exact ⟨by first | rfl | simp, Below.refl _ _⟩
  · have W1 : IntKind.u64.wrap (9223372036854775808 + z) = 9223372036854775808 + z := by rw [IntKind.wrap_u64]; omega
    have W2 : (9223372036854775808 + z) % 18446744073709551616 = 9223372036854775808 + z := by omega
    go_enter Tryz.func60, Tryz.ntmps60
    go_wp2_with fail
    refine (H1.out).mono ?_
    rintro e w1 ⟨rfl, b1⟩
    go_wp2_with fail
    refine (shsign_64 w1).mono ?_
    rintro e w2 ⟨rfl, b2⟩
    go_wp2
    go_ret
    exact ⟨by first | rfl | simp, below_trans b1 b2⟩
end Go.Proofs.YtoimhjcpeifegaaGreatDoor

/- Printed by ieee3.py. -/
namespace Go.Proofs.YtoimhjcpeifegaaGreatDoor
open Go.RowKit

theorem or_sign_16 (z : Int) (hz : 0 ≤ z ∧ z < 32768) : bits .or .u64 z 32768 = 32768 + z := by
  obtain ⟨z, rfl⟩ := Int.eq_ofNat_of_zero_le hz.1
  have e : bits .or .u64 (z : Int) ((32768 : Nat) : Int) = ((z ||| 32768 : Nat) : Int) := Go.bits_or_u64_nat z _ (by omega) (by omega)
  have h := Nat.two_pow_add_eq_or_of_lt (show z < 2 ^ 15 by rw [show (2 : Nat) ^ 15 = 32768 from by decide]; omega) 1
  rw [Nat.mul_one, show (2 : Nat) ^ 15 = 32768 from by decide, Nat.or_comm] at h
  rw [← h] at e
  exact e.trans (by simp)

theorem signed_16 (w : World) (hS : Shapes w) (neg : Bool) (z : Int) (hz : 0 ≤ z ∧ z < 32768) : Calls Tryz.prog 94 #[.bool neg, .int .u64 z] w (fun e w' => e = .returned (.int .u16 ((if neg then sgnW 16 else 0) + z)) ∧ Below w.heap.size w w') := by
  have H1 := Lib.hid (of_16 w hS)
  have HO := or_sign_16 z hz
  rw [sgn16]
  cases neg
  · have W1 : IntKind.u16.wrap z = z := by rw [IntKind.wrap_u16]; omega
    have W2 : z % 65536 = z := by omega
    have W3 : 0 + z = z := by omega
    clear HO
    go_enter Tryz.func94, Tryz.ntmps94
    go_wp2
    go_ret
    exact ⟨by first | rfl | simp, Below.refl _ _⟩
  · have W1 : IntKind.u16.wrap (32768 + z) = 32768 + z := by rw [IntKind.wrap_u16]; omega
    have W2 : (32768 + z) % 65536 = 32768 + z := by omega
    go_enter Tryz.func94, Tryz.ntmps94
    go_wp2_with fail
    refine (H1.out).mono ?_
    rintro e w1 ⟨rfl, b1⟩
    go_wp2_with fail
    refine (shsign_16 w1).mono ?_
    rintro e w2 ⟨rfl, b2⟩
    go_wp2
    go_ret
    exact ⟨by first | rfl | simp, below_trans b1 b2⟩
end Go.Proofs.YtoimhjcpeifegaaGreatDoor

/- Printed by ieee3.py. -/
namespace Go.Proofs.YtoimhjcpeifegaaGreatDoor
open Go.RowKit

theorem or_sign_32 (z : Int) (hz : 0 ≤ z ∧ z < 2147483648) : bits .or .u64 z 2147483648 = 2147483648 + z := by
  obtain ⟨z, rfl⟩ := Int.eq_ofNat_of_zero_le hz.1
  have e : bits .or .u64 (z : Int) ((2147483648 : Nat) : Int) = ((z ||| 2147483648 : Nat) : Int) := Go.bits_or_u64_nat z _ (by omega) (by omega)
  have h := Nat.two_pow_add_eq_or_of_lt (show z < 2 ^ 31 by rw [show (2 : Nat) ^ 31 = 2147483648 from by decide]; omega) 1
  rw [Nat.mul_one, show (2 : Nat) ^ 31 = 2147483648 from by decide, Nat.or_comm] at h
  rw [← h] at e
  exact e.trans (by simp)

theorem signed_32 (w : World) (hS : Shapes w) (neg : Bool) (z : Int) (hz : 0 ≤ z ∧ z < 2147483648) : Calls Tryz.prog 97 #[.bool neg, .int .u64 z] w (fun e w' => e = .returned (.int .u32 ((if neg then sgnW 32 else 0) + z)) ∧ Below w.heap.size w w') := by
  have H1 := Lib.hid (of_32 w hS)
  have HO := or_sign_32 z hz
  rw [sgn32]
  cases neg
  · have W1 : IntKind.u32.wrap z = z := by rw [IntKind.wrap_u32]; omega
    have W2 : z % 4294967296 = z := by omega
    have W3 : 0 + z = z := by omega
    clear HO
    go_enter Tryz.func97, Tryz.ntmps97
    go_wp2
    go_ret
    exact ⟨by first | rfl | simp, Below.refl _ _⟩
  · have W1 : IntKind.u32.wrap (2147483648 + z) = 2147483648 + z := by rw [IntKind.wrap_u32]; omega
    have W2 : (2147483648 + z) % 4294967296 = 2147483648 + z := by omega
    go_enter Tryz.func97, Tryz.ntmps97
    go_wp2_with fail
    refine (H1.out).mono ?_
    rintro e w1 ⟨rfl, b1⟩
    go_wp2_with fail
    refine (shsign_32 w1).mono ?_
    rintro e w2 ⟨rfl, b2⟩
    go_wp2
    go_ret
    exact ⟨by first | rfl | simp, below_trans b1 b2⟩
end Go.Proofs.YtoimhjcpeifegaaGreatDoor

/- The nearest pattern: greater numbers, numbers that are patterns, the middle. Plain facts. -/
namespace Go.Proofs.YtoimhjcpeifegaaGreatDoor

theorem Nearest.mono {F I U X Y r s : Nat} (h : Nearest F I U X r) (k : Nearest F I U Y s) (hXY : X ≤ Y) : r ≤ s := by
  obtain ⟨a, a0, a1, a2, e⟩ := h
  obtain ⟨b, b0, b1, b2, e'⟩ := k
  have hab : a ≤ b := by
    rcases Nat.lt_or_ge b a with hlt | hge
    · exfalso
      have h2 := b2 (by omega)
      have m := Nat.mul_le_mul_right U (numN_mono F (show b + 1 ≤ a from hlt))
      omega
    · exact hge
  rcases Nat.lt_or_ge a b with hlt | hge
  · have h1 : r ≤ a + 1 := by rw [e]; split <;> (try split) <;> omega
    have h2 : b ≤ s := by rw [e']; split <;> (try split) <;> omega
    omega
  · obtain rfl : a = b := by omega
    rw [e, e']
    by_cases ha : a = I
    · rw [if_pos ha, if_pos ha]; exact Nat.le_refl _
    · rw [if_neg ha, if_neg ha]
      by_cases hu : (numN F a + numN F (a + 1)) * U < 2 * X ∨ (2 * X = (numN F a + numN F (a + 1)) * U ∧ a % 2 = 1)
      · rw [if_pos hu, if_pos (by omega)]; exact Nat.le_refl _
      · rw [if_neg hu]
        split <;> omega

theorem nearE_mono {W : Nat} (A B : Nat) (e : Int) (h : A ≤ B) : nearE W A e ≤ nearE W B e :=
  (nearN_spec _ _ _ _).mono (nearN_spec _ _ _ _) (Nat.mul_le_mul_right _ h)

/-- A number that is a pattern's. -/
theorem nearE_self {W : Nat} (hW : Wide W) (M z : Nat) (e : Int) (hz : z ≤ infN W) (h : rX (shL W) e M = numN (shF W) z * rU (shL W) e) : nearE W M e = z := by
  refine nearN_eq ⟨z, hz, Nat.le_of_eq h.symm, fun _ => by rw [h]; exact Nat.mul_lt_mul_of_pos_right (numN_lt_succ _ _) (rU_pos _ _), ?_⟩
  by_cases hI : z = infN W
  · rw [if_pos hI]; exact hI
  · rw [if_neg hI, if_neg]
    have h1 := Nat.mul_lt_mul_of_pos_right (numN_lt_succ (shF W) z) (rU_pos (shL W) e)
    rw [Nat.add_mul]
    omega

/-- How the nearest one stands to the middles around it: below, and above. -/
theorem near_middle {W : Nat} (M : Nat) (e : Int) (r : Nat) (hr : r = nearE W M e) :
    (r < infN W → 2 * rX (shL W) e M < (numN (shF W) r + numN (shF W) (r + 1)) * rU (shL W) e ∨ (2 * rX (shL W) e M = (numN (shF W) r + numN (shF W) (r + 1)) * rU (shL W) e ∧ r % 2 = 0)) ∧
    (0 < r → (numN (shF W) (r - 1) + numN (shF W) r) * rU (shL W) e < 2 * rX (shL W) e M ∨ ((numN (shF W) (r - 1) + numN (shF W) r) * rU (shL W) e = 2 * rX (shL W) e M ∧ r % 2 = 0)) := by
  obtain ⟨low, l0, l1, l2, e1⟩ := nearN_spec (shF W) (infN W) (rU (shL W) e) (rX (shL W) e M)
  have hr2 : r = nearN (shF W) (infN W) (rU (shL W) e) (rX (shL W) e M) := hr
  rw [e1] at hr2
  clear hr e1
  have hU := rU_pos (shL W) e
  generalize rU (shL W) e = U at *
  generalize rX (shL W) e M = X at *
  have st : ∀ z, numN (shF W) z * U < numN (shF W) (z + 1) * U := fun z => Nat.mul_lt_mul_of_pos_right (numN_lt_succ _ _) hU
  by_cases hI : low = infN W
  · rw [if_pos hI] at hr2
    subst hI hr2
    refine ⟨fun h => absurd h (Nat.lt_irrefl _), fun h => .inl ?_⟩
    have s1 := st (infN W - 1)
    rw [show infN W - 1 + 1 = infN W by omega] at s1
    rw [Nat.add_mul]
    omega
  · rw [if_neg hI] at hr2
    have x2 := l2 (by omega)
    split at hr2
    · rename_i hu
      subst hr2
      refine ⟨fun h => .inl ?_, fun _ => ?_⟩
      · have s1 := st (low + 1)
        rw [Nat.add_mul]
        omega
      · rw [Nat.add_sub_cancel]
        rcases hu with hu | hu
        · exact .inl hu
        · exact .inr ⟨hu.1.symm, by omega⟩
    · rename_i hu
      subst hr2
      refine ⟨fun h => by omega, fun h => .inl ?_⟩
      have s1 := st (r - 1)
      rw [show r - 1 + 1 = r by omega] at s1
      rw [Nat.add_mul]
      omega

/-- Two numbers between the same two of more digits than a pattern has have one nearest pattern. -/
theorem nearE_like2 {W : Nat} (hW : Wide W) (A B Q T : Nat) (e : Int) (hQ : 2 ^ (shF W + 2) ≤ Q) (a1 : Q * 2 ^ T < A) (a2 : A < (Q + 1) * 2 ^ T) (b1 : Q * 2 ^ T < B) (b2 : B < (Q + 1) * 2 ^ T) : nearE W A e = nearE W B e := by
  refine nearN_eq ((nearN_spec (shF W) (infN W) (rU (shL W) e) (rX (shL W) e B)).like ?_)
  intro k d hk
  have hk2 : k ≤ Q := Nat.le_trans hk hQ
  unfold rU rX
  generalize (shL W - e).toNat = u
  generalize (e - shL W).toNat = v
  have key : ∀ C : Nat, Q * 2 ^ T < C → C < (Q + 1) * 2 ^ T →
      ((k * 2 ^ d * 2 ^ u ≤ 2 * (C * 2 ^ v) ↔ k * 2 ^ (d + u) ≤ Q * 2 ^ (T + v + 1)) ∧ (2 * (C * 2 ^ v) ≤ k * 2 ^ d * 2 ^ u ↔ (Q + 1) * 2 ^ (T + v + 1) ≤ k * 2 ^ (d + u))) := by
    intro C c1 c2
    have e1 : k * 2 ^ d * 2 ^ u = k * 2 ^ (d + u) := by rw [Nat.mul_assoc, ← Nat.pow_add]
    have e2 : 2 * (C * 2 ^ v) = C * 2 ^ (v + 1) := by rw [Nat.pow_succ, Nat.mul_comm (2 ^ v) 2, ← Nat.mul_assoc, ← Nat.mul_assoc, Nat.mul_comm 2]
    have hv := Nat.two_pow_pos (v + 1)
    have f1 : Q * 2 ^ (T + v + 1) < C * 2 ^ (v + 1) := by
      rw [Nat.add_assoc, Nat.pow_add 2 T (v + 1), ← Nat.mul_assoc]
      exact Nat.mul_lt_mul_of_pos_right c1 hv
    have f2 : C * 2 ^ (v + 1) < (Q + 1) * 2 ^ (T + v + 1) := by
      rw [Nat.add_assoc, Nat.pow_add 2 T (v + 1), ← Nat.mul_assoc]
      exact Nat.mul_lt_mul_of_pos_right c2 hv
    have gap : Q * 2 ^ (T + v + 1) < k * 2 ^ (d + u) → (Q + 1) * 2 ^ (T + v + 1) ≤ k * 2 ^ (d + u) := by
      intro h
      have hle : T + v + 1 ≤ d + u := by
        rcases Nat.lt_or_ge (d + u) (T + v + 1) with hlt | hge
        · exfalso
          have h3 : 2 ^ (d + u) ≤ 2 ^ (T + v + 1) := Nat.pow_le_pow_right (by omega) (by omega)
          have h4 := Nat.mul_le_mul hk2 h3
          omega
        · exact hge
      obtain ⟨x, hx⟩ : ∃ x, d + u = x + (T + v + 1) := ⟨d + u - (T + v + 1), by omega⟩
      rw [hx, Nat.pow_add 2 x, ← Nat.mul_assoc] at h ⊢
      have h5 := Nat.lt_of_mul_lt_mul_right h
      exact Nat.mul_le_mul_right _ h5
    rw [e1, e2]
    constructor
    · constructor
      · intro h
        rcases Nat.lt_or_ge (Q * 2 ^ (T + v + 1)) (k * 2 ^ (d + u)) with h1 | h1
        · have := gap h1; omega
        · exact h1
      · intro h; omega
    · constructor
      · intro h; exact gap (by omega)
      · intro h; omega
  have kA := key A a1 a2
  have kB := key B b1 b2
  exact ⟨kB.1.trans kA.1.symm, kB.2.trans kA.2.symm⟩

/-- 40 digits behind enough of them say no more than that something does. -/
theorem nearE_behind {W : Nat} (hW : Wide W) (V c k : Nat) (e : Int) (hV : 2 ^ (shF W + 2) ≤ V) (hk : 0 < k) (hc0 : 0 < c) (hc1 : c < 2 ^ k) : nearE W (V * 2 ^ k + c) (e - k) = nearE W (2 * V + 1) (e - 1) := by
  have h1 := nearE_shift W (2 * V + 1) (k - 1) (e - 1)
  rw [show e - 1 - ((k - 1 : Nat) : Int) = e - k by omega] at h1
  rw [← h1]
  obtain ⟨j, rfl⟩ : ∃ j, k = j + 1 := ⟨k - 1, by omega⟩
  have hp := Nat.two_pow_pos j
  rw [Nat.add_sub_cancel]
  refine nearE_like2 hW _ _ V (j + 1) _ hV (by omega) ?_ ?_ ?_
  · rw [Nat.add_mul]; omega
  · rw [Nat.pow_succ, Nat.add_mul, Nat.mul_comm 2 V, Nat.mul_assoc, Nat.mul_comm 2 (2 ^ j)]; omega
  · rw [Nat.pow_succ, Nat.add_mul, Nat.mul_comm 2 V, Nat.mul_assoc, Nat.mul_comm 2 (2 ^ j), Nat.add_mul]; omega
end Go.Proofs.YtoimhjcpeifegaaGreatDoor

/- Printed by ieee.py. -/
namespace Go.Proofs.YtoimhjcpeifegaaGreatDoor
open Go.RowKit

/-- split: the sign, and the pattern without it. -/
theorem split_Own (w : World) (hS : Shapes w) (x : Int) (hx : 0 ≤ x ∧ x < 4294967296) : Calls Tryz.prog 158 #[.int .u32 x] w (fun e w' => e = .returned (.tuple #[.bool (negW 32 x), .int .u64 (sizeW 32 x)]) ∧ Below w.heap.size w w') := by
  have h1 := Lib.hid (of_Own w hS)
  have HN := Lib.hid (and_sign_32 x (by omega))
  have HA := Lib.hid (andNot_sign_32 x (by omega))
  go_enter Tryz.func158, Tryz.ntmps158
  go_wp2_with fail
  refine (h1.out).mono ?_
  rintro e w1 ⟨rfl, b1⟩
  have h2 := Lib.hid (shsign_32 w1)
  go_wp2_with fail
  refine (h2.out).mono ?_
  rintro e w2 ⟨rfl, b2⟩
  go_wp2
  go_ret2
  rw [← HN.out, ← HA.out]
  exact ⟨rfl, below_trans b1 b2⟩
end Go.Proofs.YtoimhjcpeifegaaGreatDoor

/- Printed by ieee3.py. -/
namespace Go.Proofs.YtoimhjcpeifegaaGreatDoor
open Go.RowKit

theorem rnumber_16 (z : Int) (hz : 0 ≤ z ∧ z < 18446744073709551616) (w : World) : Calls Tryz.prog 173 #[.int .i64 16, .int .u64 z] w (fun e w' => e = .returned (.tuple #[.int .u64 (numM 10 z.toNat : Nat), .int .i64 (-24 + (numP 10 z.toNat : Nat))]) ∧ Below w.heap.size w w') := by
  have h1 := Lib.hid (rof_16)
  have h2 := Lib.hid (rtwo_10)
  by_cases hlt : z < 1024
  · have HM := Lib.hid (show ((numM 10 z.toNat : Nat) : Int) = z by unfold numM; rw [if_pos (by rw [show (2 : Nat) ^ 10 = 1024 from by decide]; omega)]; omega)
    have HP := Lib.hid (show (-24 : Int) + ((numP 10 z.toNat : Nat) : Int) = -24 by unfold numP; rw [if_pos (by rw [show (2 : Nat) ^ 10 = 1024 from by decide]; omega)]; rfl)
    go_enter Tryz.func173, Tryz.ntmps173
    go_wp2_with fail
    refine (h1.out w).mono ?_
    rintro e w1 ⟨rfl, b1⟩
    have bA : Below w1.heap.size w1 (w1.alloc (.cells #[.int .i64 10, .int .i64 (-24), .int .i64 31] 177)) := (Below.refl _ _).alloc (Nat.le_refl _) _
    have c0 : (w1.alloc (.cells #[.int .i64 10, .int .i64 (-24), .int .i64 31] 177)).cell? ⟨w1.heap.size, 0, none⟩ = some (.int .i64 10) := World.cell?_alloc_at _ _ _ _ rfl
    have c1 : (w1.alloc (.cells #[.int .i64 10, .int .i64 (-24), .int .i64 31] 177)).cell? ⟨w1.heap.size, 1, none⟩ = some (.int .i64 (-24)) := World.cell?_alloc_at _ _ _ _ rfl
    go_wp2_with fail
    refine (h2.out _).mono ?_
    rintro e w2 ⟨rfl, rfl⟩
    go_wp2_with fail
    go_quiet (fail)
    go_wp2
    go_ret2
    rw [HM.out, HP.out]
    exact ⟨by first | rfl | simp, below_drewN (below_trans b1 bA) _⟩
  · have HM := Lib.hid (show ((numM 10 z.toNat : Nat) : Int) = 1024 + z % 1024 by unfold numM; rw [if_neg (by rw [show (2 : Nat) ^ 10 = 1024 from by decide]; omega), show (2 : Nat) ^ 10 = 1024 from by decide]; omega)
    have HP := Lib.hid (show (-24 : Int) + ((numP 10 z.toNat : Nat) : Int) = -24 - 1 + z / 1024 by unfold numP; rw [if_neg (by rw [show (2 : Nat) ^ 10 = 1024 from by decide]; omega), show (2 : Nat) ^ 10 = 1024 from by decide]; omega)
    have W1 : IntKind.u64.wrap (1024 + z % 1024) = 1024 + z % 1024 := by rw [IntKind.wrap_u64]; omega
    have W2 : z.tmod 1024 = z % 1024 := Int.tmod_eq_emod_of_nonneg (by omega)
    have W3 : z.tdiv 1024 = z / 1024 := Int.tdiv_eq_ediv_of_nonneg (by omega)
    have W4 : IntKind.i64.wrap (z / 1024) = z / 1024 := IntWalk.i64_in _ (by omega)
    have W5 : IntKind.i64.wrap (-25 + z / 1024) = -25 + z / 1024 := IntWalk.i64_in _ (by omega)
    have W6 : (1024 + z % 1024) % 18446744073709551616 = 1024 + z % 1024 := by omega
    go_enter Tryz.func173, Tryz.ntmps173
    go_wp2_with fail
    refine (h1.out w).mono ?_
    rintro e w1 ⟨rfl, b1⟩
    have bA : Below w1.heap.size w1 (w1.alloc (.cells #[.int .i64 10, .int .i64 (-24), .int .i64 31] 177)) := (Below.refl _ _).alloc (Nat.le_refl _) _
    have c0 : (w1.alloc (.cells #[.int .i64 10, .int .i64 (-24), .int .i64 31] 177)).cell? ⟨w1.heap.size, 0, none⟩ = some (.int .i64 10) := World.cell?_alloc_at _ _ _ _ rfl
    have c1 : (w1.alloc (.cells #[.int .i64 10, .int .i64 (-24), .int .i64 31] 177)).cell? ⟨w1.heap.size, 1, none⟩ = some (.int .i64 (-24)) := World.cell?_alloc_at _ _ _ _ rfl
    go_wp2_with fail
    refine (h2.out _).mono ?_
    rintro e w2 ⟨rfl, rfl⟩
    go_wp2_with fail
    go_quiet (fail)
    go_wp2
    go_ret2
    rw [HM.out, HP.out]
    exact ⟨by first | rfl | simp, below_drewN (below_trans b1 bA) _⟩

theorem rnumber_32 (z : Int) (hz : 0 ≤ z ∧ z < 18446744073709551616) (w : World) : Calls Tryz.prog 173 #[.int .i64 32, .int .u64 z] w (fun e w' => e = .returned (.tuple #[.int .u64 (numM 23 z.toNat : Nat), .int .i64 (-149 + (numP 23 z.toNat : Nat))]) ∧ Below w.heap.size w w') := by
  have h1 := Lib.hid (rof_32)
  have h2 := Lib.hid (rtwo_23)
  by_cases hlt : z < 8388608
  · have HM := Lib.hid (show ((numM 23 z.toNat : Nat) : Int) = z by unfold numM; rw [if_pos (by rw [show (2 : Nat) ^ 23 = 8388608 from by decide]; omega)]; omega)
    have HP := Lib.hid (show (-149 : Int) + ((numP 23 z.toNat : Nat) : Int) = -149 by unfold numP; rw [if_pos (by rw [show (2 : Nat) ^ 23 = 8388608 from by decide]; omega)]; rfl)
    go_enter Tryz.func173, Tryz.ntmps173
    go_wp2_with fail
    refine (h1.out w).mono ?_
    rintro e w1 ⟨rfl, b1⟩
    have bA : Below w1.heap.size w1 (w1.alloc (.cells #[.int .i64 23, .int .i64 (-149), .int .i64 255] 177)) := (Below.refl _ _).alloc (Nat.le_refl _) _
    have c0 : (w1.alloc (.cells #[.int .i64 23, .int .i64 (-149), .int .i64 255] 177)).cell? ⟨w1.heap.size, 0, none⟩ = some (.int .i64 23) := World.cell?_alloc_at _ _ _ _ rfl
    have c1 : (w1.alloc (.cells #[.int .i64 23, .int .i64 (-149), .int .i64 255] 177)).cell? ⟨w1.heap.size, 1, none⟩ = some (.int .i64 (-149)) := World.cell?_alloc_at _ _ _ _ rfl
    go_wp2_with fail
    refine (h2.out _).mono ?_
    rintro e w2 ⟨rfl, rfl⟩
    go_wp2_with fail
    go_quiet (fail)
    go_wp2
    go_ret2
    rw [HM.out, HP.out]
    exact ⟨by first | rfl | simp, below_drewN (below_trans b1 bA) _⟩
  · have HM := Lib.hid (show ((numM 23 z.toNat : Nat) : Int) = 8388608 + z % 8388608 by unfold numM; rw [if_neg (by rw [show (2 : Nat) ^ 23 = 8388608 from by decide]; omega), show (2 : Nat) ^ 23 = 8388608 from by decide]; omega)
    have HP := Lib.hid (show (-149 : Int) + ((numP 23 z.toNat : Nat) : Int) = -149 - 1 + z / 8388608 by unfold numP; rw [if_neg (by rw [show (2 : Nat) ^ 23 = 8388608 from by decide]; omega), show (2 : Nat) ^ 23 = 8388608 from by decide]; omega)
    have W1 : IntKind.u64.wrap (8388608 + z % 8388608) = 8388608 + z % 8388608 := by rw [IntKind.wrap_u64]; omega
    have W2 : z.tmod 8388608 = z % 8388608 := Int.tmod_eq_emod_of_nonneg (by omega)
    have W3 : z.tdiv 8388608 = z / 8388608 := Int.tdiv_eq_ediv_of_nonneg (by omega)
    have W4 : IntKind.i64.wrap (z / 8388608) = z / 8388608 := IntWalk.i64_in _ (by omega)
    have W5 : IntKind.i64.wrap (-150 + z / 8388608) = -150 + z / 8388608 := IntWalk.i64_in _ (by omega)
    have W6 : (8388608 + z % 8388608) % 18446744073709551616 = 8388608 + z % 8388608 := by omega
    go_enter Tryz.func173, Tryz.ntmps173
    go_wp2_with fail
    refine (h1.out w).mono ?_
    rintro e w1 ⟨rfl, b1⟩
    have bA : Below w1.heap.size w1 (w1.alloc (.cells #[.int .i64 23, .int .i64 (-149), .int .i64 255] 177)) := (Below.refl _ _).alloc (Nat.le_refl _) _
    have c0 : (w1.alloc (.cells #[.int .i64 23, .int .i64 (-149), .int .i64 255] 177)).cell? ⟨w1.heap.size, 0, none⟩ = some (.int .i64 23) := World.cell?_alloc_at _ _ _ _ rfl
    have c1 : (w1.alloc (.cells #[.int .i64 23, .int .i64 (-149), .int .i64 255] 177)).cell? ⟨w1.heap.size, 1, none⟩ = some (.int .i64 (-149)) := World.cell?_alloc_at _ _ _ _ rfl
    go_wp2_with fail
    refine (h2.out _).mono ?_
    rintro e w2 ⟨rfl, rfl⟩
    go_wp2_with fail
    go_quiet (fail)
    go_wp2
    go_ret2
    rw [HM.out, HP.out]
    exact ⟨by first | rfl | simp, below_drewN (below_trans b1 bA) _⟩

theorem rnumber_64 (z : Int) (hz : 0 ≤ z ∧ z < 18446744073709551616) (w : World) : Calls Tryz.prog 173 #[.int .i64 64, .int .u64 z] w (fun e w' => e = .returned (.tuple #[.int .u64 (numM 52 z.toNat : Nat), .int .i64 (-1074 + (numP 52 z.toNat : Nat))]) ∧ Below w.heap.size w w') := by
  have h1 := Lib.hid (rof_64)
  have h2 := Lib.hid (rtwo_52)
  by_cases hlt : z < 4503599627370496
  · have HM := Lib.hid (show ((numM 52 z.toNat : Nat) : Int) = z by unfold numM; rw [if_pos (by rw [show (2 : Nat) ^ 52 = 4503599627370496 from by decide]; omega)]; omega)
    have HP := Lib.hid (show (-1074 : Int) + ((numP 52 z.toNat : Nat) : Int) = -1074 by unfold numP; rw [if_pos (by rw [show (2 : Nat) ^ 52 = 4503599627370496 from by decide]; omega)]; rfl)
    go_enter Tryz.func173, Tryz.ntmps173
    go_wp2_with fail
    refine (h1.out w).mono ?_
    rintro e w1 ⟨rfl, b1⟩
    have bA : Below w1.heap.size w1 (w1.alloc (.cells #[.int .i64 52, .int .i64 (-1074), .int .i64 2047] 177)) := (Below.refl _ _).alloc (Nat.le_refl _) _
    have c0 : (w1.alloc (.cells #[.int .i64 52, .int .i64 (-1074), .int .i64 2047] 177)).cell? ⟨w1.heap.size, 0, none⟩ = some (.int .i64 52) := World.cell?_alloc_at _ _ _ _ rfl
    have c1 : (w1.alloc (.cells #[.int .i64 52, .int .i64 (-1074), .int .i64 2047] 177)).cell? ⟨w1.heap.size, 1, none⟩ = some (.int .i64 (-1074)) := World.cell?_alloc_at _ _ _ _ rfl
    go_wp2_with fail
    refine (h2.out _).mono ?_
    rintro e w2 ⟨rfl, rfl⟩
    go_wp2_with fail
    go_quiet (fail)
    go_wp2
    go_ret2
    rw [HM.out, HP.out]
    exact ⟨by first | rfl | simp, below_drewN (below_trans b1 bA) _⟩
  · have HM := Lib.hid (show ((numM 52 z.toNat : Nat) : Int) = 4503599627370496 + z % 4503599627370496 by unfold numM; rw [if_neg (by rw [show (2 : Nat) ^ 52 = 4503599627370496 from by decide]; omega), show (2 : Nat) ^ 52 = 4503599627370496 from by decide]; omega)
    have HP := Lib.hid (show (-1074 : Int) + ((numP 52 z.toNat : Nat) : Int) = -1074 - 1 + z / 4503599627370496 by unfold numP; rw [if_neg (by rw [show (2 : Nat) ^ 52 = 4503599627370496 from by decide]; omega), show (2 : Nat) ^ 52 = 4503599627370496 from by decide]; omega)
    have W1 : IntKind.u64.wrap (4503599627370496 + z % 4503599627370496) = 4503599627370496 + z % 4503599627370496 := by rw [IntKind.wrap_u64]; omega
    have W2 : z.tmod 4503599627370496 = z % 4503599627370496 := Int.tmod_eq_emod_of_nonneg (by omega)
    have W3 : z.tdiv 4503599627370496 = z / 4503599627370496 := Int.tdiv_eq_ediv_of_nonneg (by omega)
    have W4 : IntKind.i64.wrap (z / 4503599627370496) = z / 4503599627370496 := IntWalk.i64_in _ (by omega)
    have W5 : IntKind.i64.wrap (-1075 + z / 4503599627370496) = -1075 + z / 4503599627370496 := IntWalk.i64_in _ (by omega)
    have W6 : (4503599627370496 + z % 4503599627370496) % 18446744073709551616 = 4503599627370496 + z % 4503599627370496 := by omega
    go_enter Tryz.func173, Tryz.ntmps173
    go_wp2_with fail
    refine (h1.out w).mono ?_
    rintro e w1 ⟨rfl, b1⟩
    have bA : Below w1.heap.size w1 (w1.alloc (.cells #[.int .i64 52, .int .i64 (-1074), .int .i64 2047] 177)) := (Below.refl _ _).alloc (Nat.le_refl _) _
    have c0 : (w1.alloc (.cells #[.int .i64 52, .int .i64 (-1074), .int .i64 2047] 177)).cell? ⟨w1.heap.size, 0, none⟩ = some (.int .i64 52) := World.cell?_alloc_at _ _ _ _ rfl
    have c1 : (w1.alloc (.cells #[.int .i64 52, .int .i64 (-1074), .int .i64 2047] 177)).cell? ⟨w1.heap.size, 1, none⟩ = some (.int .i64 (-1074)) := World.cell?_alloc_at _ _ _ _ rfl
    go_wp2_with fail
    refine (h2.out _).mono ?_
    rintro e w2 ⟨rfl, rfl⟩
    go_wp2_with fail
    go_quiet (fail)
    go_wp2
    go_ret2
    rw [HM.out, HP.out]
    exact ⟨by first | rfl | simp, below_drewN (below_trans b1 bA) _⟩

theorem rnumber_calls (W : Nat) (hW : Wide W) (z : Int) (hz : 0 ≤ z ∧ z < 18446744073709551616) (w : World) : Calls Tryz.prog 173 #[.int .i64 W, .int .u64 z] w (fun e w' => e = .returned (.tuple #[.int .u64 (numM (shF W) z.toNat : Nat), .int .i64 (shL W + (numP (shF W) z.toNat : Nat))]) ∧ Below w.heap.size w w') := by
  rcases hW with rfl | rfl | rfl
  · exact rnumber_16 z hz w
  · exact rnumber_32 z hz w
  · exact rnumber_64 z hz w
end Go.Proofs.YtoimhjcpeifegaaGreatDoor

/- crucibleref04: Class, Total, Cmp, Next. -/
namespace Go.Proofs.YtoimhjcpeifegaaGreatDoor
open Go.RowKit

theorem rclass_calls (W : Nat) (hW : Wide W) (x : Int) (hx : 0 ≤ x ∧ x < 18446744073709551616) (w : World) :
    Calls Tryz.prog 131 #[.int .i64 W, .int .u64 x] w (fun e w' => e = .returned (.int .i8 (clsW W x)) ∧ Below w.heap.size w w') := by
  have h1 := Lib.hid (rsize_calls W hW x hx w)
  have h2 := Lib.hid (rinf_calls W hW)
  have h3 := Lib.hid (rof_calls W hW)
  have h4 := Lib.hid (rtwo_calls (shF W) (by rcases hW with rfl | rfl | rfl <;> decide))
  have hf0 : ∀ (a b c : Int) w, (Instr.field 177 (.agg #[.int .i64 a, .int .i64 b, .int .i64 c]) 0).run Tryz.prog w = .ok (.int .i64 a) w := fun _ _ _ _ => by kernel_rfl
  have HC := Lib.hid (show clsW W x = if infW W < sizeW W x then 5 else if sizeW W x = infW W then 4 else if sizeW W x = 0 then 1 else if sizeW W x < 2 ^ shF W then 2 else 3 from rfl)
  clear hW
  generalize clsW W x = C at *
  generalize sizeW W x = z at *
  generalize infW W = I at *
  generalize shF W = F at *
  generalize shL W = L at *
  generalize topW W = T at *
  obtain ⟨P, hP⟩ : ∃ P : Int, 2 ^ F = P := ⟨_, rfl⟩
  rw [hP] at h4 HC
  clear hP
  by_cases t1 : I < z
  · have HR := Lib.hid (show C = 5 by rw [HC.out, if_pos t1])
    go_enter Tryz.func131, Tryz.ntmps131
    go_wp2_with fail
    refine (h1.out).mono ?_
    rintro e w' ⟨rfl, rfl⟩
    go_wp2_with fail
    refine (h2.out w).mono ?_
    rintro e w1 ⟨rfl, b1⟩
    go_wp2
    go_ret
    rw [HR.out]
    exact ⟨rfl, b1⟩
  · by_cases t2 : z = I
    · have HR := Lib.hid (show C = 4 by rw [HC.out, if_neg t1, if_pos t2])
      have t2' : (z == I) = true := by simpa using t2
      clear t2
      go_enter Tryz.func131, Tryz.ntmps131
      go_wp2_with fail
      refine (h1.out).mono ?_
      rintro e w' ⟨rfl, rfl⟩
      go_wp2_with fail
      refine (h2.out w).mono ?_
      rintro e w1 ⟨rfl, b1⟩
      go_wp2_with fail
      refine (h2.out w1).mono ?_
      rintro e w2 ⟨rfl, b2⟩
      go_wp2
      go_ret
      rw [HR.out]
      exact ⟨rfl, below_trans b1 b2⟩
    · have t2' : (z == I) = false := by simpa using t2
      by_cases t3 : z = 0
      · have HR := Lib.hid (show C = 1 by rw [HC.out, if_neg t1, if_neg t2, if_pos t3])
        have t3' : (z == 0) = true := by simpa using t3
        clear t3 t2
        go_enter Tryz.func131, Tryz.ntmps131
        go_wp2_with fail
        refine (h1.out).mono ?_
        rintro e w' ⟨rfl, rfl⟩
        go_wp2_with fail
        refine (h2.out w).mono ?_
        rintro e w1 ⟨rfl, b1⟩
        go_wp2_with fail
        refine (h2.out w1).mono ?_
        rintro e w2 ⟨rfl, b2⟩
        go_wp2
        go_ret
        rw [HR.out]
        exact ⟨rfl, below_trans b1 b2⟩
      · have t3' : (z == 0) = false := by simpa using t3
        by_cases t4 : z < P
        · have HR := Lib.hid (show C = 2 by rw [HC.out, if_neg t1, if_neg t2, if_neg t3, if_pos t4])
          clear t3 t2
          go_enter Tryz.func131, Tryz.ntmps131
          go_wp2_with fail
          refine (h1.out).mono ?_
          rintro e w' ⟨rfl, rfl⟩
          go_wp2_with fail
          refine (h2.out w).mono ?_
          rintro e w1 ⟨rfl, b1⟩
          go_wp2_with fail
          refine (h2.out w1).mono ?_
          rintro e w2 ⟨rfl, b2⟩
          go_wp2_with fail
          refine (h3.out w2).mono ?_
          rintro e w3 ⟨rfl, b3⟩
          go_wp2_with fail
          refine (h4.out w3).mono ?_
          rintro e w4 ⟨rfl, rfl⟩
          go_wp2
          go_ret
          rw [HR.out]
          exact ⟨rfl, below_trans b1 (below_trans b2 b3)⟩
        · have HR := Lib.hid (show C = 3 by rw [HC.out, if_neg t1, if_neg t2, if_neg t3, if_neg t4])
          clear t3 t2
          go_enter Tryz.func131, Tryz.ntmps131
          go_wp2_with fail
          refine (h1.out).mono ?_
          rintro e w' ⟨rfl, rfl⟩
          go_wp2_with fail
          refine (h2.out w).mono ?_
          rintro e w1 ⟨rfl, b1⟩
          go_wp2_with fail
          refine (h2.out w1).mono ?_
          rintro e w2 ⟨rfl, b2⟩
          go_wp2_with fail
          refine (h3.out w2).mono ?_
          rintro e w3 ⟨rfl, b3⟩
          go_wp2_with fail
          refine (h4.out w3).mono ?_
          rintro e w4 ⟨rfl, rfl⟩
          go_wp2
          go_ret
          rw [HR.out]
          exact ⟨rfl, below_trans b1 (below_trans b2 b3)⟩

theorem rtotal_calls (W : Nat) (hW : Wide W) (x y : Int) (w : World) :
    Calls Tryz.prog 143 #[.int .i64 W, .int .u64 x, .int .u64 y] w (fun e w' => e = .returned (.int .i64 (totalW W x y)) ∧ w = w') := by
  have h1 := Lib.hid (rneg_calls W hW x)
  have h2 := Lib.hid (rneg_calls W hW y)
  have HT := Lib.hid (show totalW W x y = if negW W x then (if negW W y then cmpI y x else -1) else (if negW W y then 1 else cmpI x y) from rfl)
  clear hW
  generalize totalW W x y = T at *
  generalize negW W x = n1 at *
  generalize negW W y = n2 at *
  cases n1 <;> cases n2
  · rcases Int.lt_trichotomy x y with t | t | t
    · have HR := Lib.hid (show T = -1 by rw [HT.out]; exact cmpI_lt t)
      have t' : ¬ y < x := by omega
      clear HT
      go_enter Tryz.func143, Tryz.ntmps143
      go_wp2_with fail
      refine (h1.out w).mono ?_
      rintro e w' ⟨rfl, rfl⟩
      go_wp2_with fail
      refine (h2.out w).mono ?_
      rintro e w' ⟨rfl, rfl⟩
      go_wp2_with fail
      refine (h1.out w).mono ?_
      rintro e w' ⟨rfl, rfl⟩
      go_wp2
      go_ret
      rw [HR.out]
      exact ⟨rfl, rfl⟩
    · have HR := Lib.hid (show T = 0 by rw [HT.out]; exact cmpI_eq t)
      have t' : ¬ y < x := by omega
      have t'' : ¬ x < y := by omega
      clear HT t
      go_enter Tryz.func143, Tryz.ntmps143
      go_wp2_with fail
      refine (h1.out w).mono ?_
      rintro e w' ⟨rfl, rfl⟩
      go_wp2_with fail
      refine (h2.out w).mono ?_
      rintro e w' ⟨rfl, rfl⟩
      go_wp2_with fail
      refine (h1.out w).mono ?_
      rintro e w' ⟨rfl, rfl⟩
      go_wp2
      go_ret
      rw [HR.out]
      exact ⟨rfl, rfl⟩
    · have HR := Lib.hid (show T = 1 by rw [HT.out]; exact cmpI_gt t)
      have t' : ¬ x < y := by omega
      clear HT
      go_enter Tryz.func143, Tryz.ntmps143
      go_wp2_with fail
      refine (h1.out w).mono ?_
      rintro e w' ⟨rfl, rfl⟩
      go_wp2_with fail
      refine (h2.out w).mono ?_
      rintro e w' ⟨rfl, rfl⟩
      go_wp2_with fail
      refine (h1.out w).mono ?_
      rintro e w' ⟨rfl, rfl⟩
      go_wp2
      go_ret
      rw [HR.out]
      exact ⟨rfl, rfl⟩
  · have HR := Lib.hid (show T = 1 by rw [HT.out]; rfl)
    clear HT
    go_enter Tryz.func143, Tryz.ntmps143
    go_wp2_with fail
    refine (h1.out w).mono ?_
    rintro e w' ⟨rfl, rfl⟩
    go_wp2_with fail
    refine (h2.out w).mono ?_
    rintro e w' ⟨rfl, rfl⟩
    go_wp2_with fail
    refine (h1.out w).mono ?_
    rintro e w' ⟨rfl, rfl⟩
    go_wp2
    go_ret
    rw [HR.out]
    exact ⟨rfl, rfl⟩
  · have HR := Lib.hid (show T = -1 by rw [HT.out]; rfl)
    clear HT
    go_enter Tryz.func143, Tryz.ntmps143
    go_wp2_with fail
    refine (h1.out w).mono ?_
    rintro e w' ⟨rfl, rfl⟩
    go_wp2_with fail
    refine (h2.out w).mono ?_
    rintro e w' ⟨rfl, rfl⟩
    go_wp2_with fail
    refine (h1.out w).mono ?_
    rintro e w' ⟨rfl, rfl⟩
    go_wp2
    go_ret
    rw [HR.out]
    exact ⟨rfl, rfl⟩
  · rcases Int.lt_trichotomy x y with t | t | t
    · have HR := Lib.hid (show T = 1 by rw [HT.out]; exact cmpI_gt t)
      have t' : ¬ y < x := by omega
      clear HT
      go_enter Tryz.func143, Tryz.ntmps143
      go_wp2_with fail
      refine (h1.out w).mono ?_
      rintro e w' ⟨rfl, rfl⟩
      go_wp2_with fail
      refine (h2.out w).mono ?_
      rintro e w' ⟨rfl, rfl⟩
      go_wp2_with fail
      refine (h1.out w).mono ?_
      rintro e w' ⟨rfl, rfl⟩
      go_wp2
      go_ret
      rw [HR.out]
      exact ⟨by first | rfl | simp, rfl⟩
    · have HR := Lib.hid (show T = 0 by rw [HT.out]; exact cmpI_eq t.symm)
      have t' : ¬ y < x := by omega
      have t'' : ¬ x < y := by omega
      clear HT t
      go_enter Tryz.func143, Tryz.ntmps143
      go_wp2_with fail
      refine (h1.out w).mono ?_
      rintro e w' ⟨rfl, rfl⟩
      go_wp2_with fail
      refine (h2.out w).mono ?_
      rintro e w' ⟨rfl, rfl⟩
      go_wp2_with fail
      refine (h1.out w).mono ?_
      rintro e w' ⟨rfl, rfl⟩
      go_wp2
      go_ret
      rw [HR.out]
      exact ⟨by first | rfl | simp, rfl⟩
    · have HR := Lib.hid (show T = -1 by rw [HT.out]; exact cmpI_lt t)
      have t' : ¬ x < y := by omega
      clear HT
      go_enter Tryz.func143, Tryz.ntmps143
      go_wp2_with fail
      refine (h1.out w).mono ?_
      rintro e w' ⟨rfl, rfl⟩
      go_wp2_with fail
      refine (h2.out w).mono ?_
      rintro e w' ⟨rfl, rfl⟩
      go_wp2_with fail
      refine (h1.out w).mono ?_
      rintro e w' ⟨rfl, rfl⟩
      go_wp2
      go_ret
      rw [HR.out]
      exact ⟨by first | rfl | simp, rfl⟩
end Go.Proofs.YtoimhjcpeifegaaGreatDoor
