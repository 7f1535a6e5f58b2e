/- Contracts of functions, and plain facts, part 16. -/
import Derived.Deep.RegionHeld3
import Derived.Test.YtoimhjcpeifegaaGreatDoorPk7
import Derived.Test.YtoimhjcpeifegaaGreatDoorPk14
set_option linter.unusedVariables false
set_option linter.unusedSimpArgs false
/- The document's way to the nearest pattern: halving, and what stands behind 200 digits. Plain facts. -/
namespace Go.Proofs.YtoimhjcpeifegaaGreatDoor

theorem scale_le (A B a1 b1 a2 b2 : Nat) (h : a1 + b2 = a2 + b1) : A * 2 ^ a1 ≤ B * 2 ^ b1 ↔ A * 2 ^ a2 ≤ B * 2 ^ b2 := by
  have e1 : A * 2 ^ a1 ≤ B * 2 ^ b1 ↔ A * 2 ^ a1 * 2 ^ b2 ≤ B * 2 ^ b1 * 2 ^ b2 := (Nat.mul_le_mul_right_iff (Nat.two_pow_pos b2)).symm
  have e2 : A * 2 ^ a2 ≤ B * 2 ^ b2 ↔ A * 2 ^ a2 * 2 ^ b1 ≤ B * 2 ^ b2 * 2 ^ b1 := (Nat.mul_le_mul_right_iff (Nat.two_pow_pos b1)).symm
  rw [e1, e2, Nat.mul_assoc, Nat.mul_assoc, Nat.mul_assoc A, Nat.mul_assoc B, ← Nat.pow_add, ← Nat.pow_add, ← Nat.pow_add, ← Nat.pow_add, h, Nat.add_comm b1 b2]

theorem scale_eq (A B a1 b1 a2 b2 : Nat) (h : a1 + b2 = a2 + b1) : A * 2 ^ a1 = B * 2 ^ b1 ↔ A * 2 ^ a2 = B * 2 ^ b2 := by
  have h1 := scale_le A B a1 b1 a2 b2 h
  have h2 := scale_le B A b1 a1 b2 a2 (by omega)
  omega

/-- Number: a size as m times 2 to the power of e. -/
def numM (F : Nat) (z : Nat) : Nat := if z < 2 ^ F then z else 2 ^ F + z % 2 ^ F
def numP (F : Nat) (z : Nat) : Nat := if z < 2 ^ F then 0 else z / 2 ^ F - 1
theorem numN_parts (F z : Nat) : numN F z = numM F z * 2 ^ numP F z := by
  unfold numN numM numP
  split
  · simp
  · rfl
theorem numP_succ (F z : Nat) : numP F (z + 1) = numP F z ∨ numP F (z + 1) = numP F z + 1 := by
  have hP := Nat.two_pow_pos F
  unfold numP
  by_cases h1 : z + 1 < 2 ^ F
  · rw [if_pos h1, if_pos (by omega)]
    exact .inl rfl
  · rw [if_neg h1]
    by_cases h2 : z < 2 ^ F
    · rw [if_pos h2]
      have e : z + 1 = 2 ^ F := by omega
      rw [e, Nat.div_self hP]
      exact .inl rfl
    · rw [if_neg h2]
      have h3 : 1 ≤ z / 2 ^ F := (Nat.le_div_iff_mul_le hP).2 (by omega)
      rcases Nat.lt_or_ge (z % 2 ^ F + 1) (2 ^ F) with h4 | h4
      · left
        have e : (z + 1) / 2 ^ F = z / 2 ^ F := by
          have h5 := Nat.div_add_mod z (2 ^ F)
          apply Nat.div_eq_of_lt_le
          · rw [Nat.mul_comm]; omega
          · rw [Nat.succ_mul, Nat.mul_comm]; omega
        rw [e]
      · right
        have h6 := Nat.mod_lt z hP
        have e : (z + 1) / 2 ^ F = z / 2 ^ F + 1 := by
          have h5 := Nat.div_add_mod z (2 ^ F)
          apply Nat.div_eq_of_lt_le
          · rw [Nat.add_mul, Nat.mul_comm]; omega
          · rw [Nat.succ_mul, Nat.add_mul, Nat.mul_comm]; omega
        rw [e]
        omega

theorem numP_le {W : Nat} (hW : Wide W) (z : Nat) (h : z ≤ infN W) : numP (shF W) z + 2 ≤ 2 ^ shE W := by
  have hP := Nat.two_pow_pos (shF W)
  have h2 : 4 ≤ 2 ^ shE W := by rcases hW with rfl | rfl | rfl <;> decide
  unfold numP
  split
  · omega
  · have : z / 2 ^ shF W ≤ 2 ^ shE W - 1 := by
      unfold infN at h
      exact Nat.le_of_lt_succ ((Nat.div_lt_iff_lt_mul hP).2 (by rw [Nat.succ_mul]; omega))
    omega

theorem numM_lt (F z : Nat) : numM F z < 2 ^ (F + 1) := by
  have hP := Nat.two_pow_pos F
  have := Nat.mod_lt z hP
  unfold numM
  rw [Nat.pow_succ]
  split <;> omega

/-- Is the size z not above M 2^e? -/
theorem cmp_num (F z M : Nat) (L e : Int) : (numN F z * rU L e ≤ rX L e M ↔ numM F z * 2 ^ (L + numP F z - e).toNat ≤ M * 2 ^ (e - (L + numP F z)).toNat) := by
  rw [numN_parts]
  unfold rU rX
  rw [Nat.mul_assoc, ← Nat.pow_add]
  exact scale_le _ _ _ _ _ _ (by omega)

/-- The middle of two sizes beside each other, in halves of the lower one's step. -/
def midM (F z : Nat) : Nat := if numP F z < numP F (z + 1) then numM F z + 2 * numM F (z + 1) else numM F z + numM F (z + 1)
theorem mid_num (F z : Nat) : numN F z + numN F (z + 1) = midM F z * 2 ^ numP F z := by
  rw [numN_parts, numN_parts F (z + 1)]
  unfold midM
  rcases numP_succ F z with h | h
  · rw [h, if_neg (Nat.lt_irrefl _), Nat.add_mul]
  · rw [h, if_pos (Nat.lt_succ_self _), Nat.add_mul, Nat.pow_succ]
    rw [Nat.mul_comm 2 (numM F (z + 1)), Nat.mul_assoc, Nat.mul_comm (2 ^ numP F z) 2]
theorem cmp_mid_lt (F z M : Nat) (L e : Int) : ((numN F z + numN F (z + 1)) * rU L e < 2 * rX L e M ↔ midM F z * 2 ^ (L + numP F z - 1 - e).toNat < M * 2 ^ (e - (L + numP F z - 1)).toNat) := by
  rw [mid_num]
  unfold rU rX
  rw [Nat.mul_assoc, ← Nat.pow_add, show 2 * (M * 2 ^ (e - L).toNat) = M * 2 ^ ((e - L).toNat + 1) by rw [Nat.pow_succ, Nat.mul_comm (2 ^ (e - L).toNat) 2, ← Nat.mul_assoc, ← Nat.mul_assoc, Nat.mul_comm 2]]
  have := scale_le M (midM F z) ((e - L).toNat + 1) (numP F z + (L - e).toNat) (e - (L + numP F z - 1)).toNat (L + numP F z - 1 - e).toNat (by omega)
  omega
theorem cmp_mid_eq (F z M : Nat) (L e : Int) : (2 * rX L e M = (numN F z + numN F (z + 1)) * rU L e ↔ M * 2 ^ (e - (L + numP F z - 1)).toNat = midM F z * 2 ^ (L + numP F z - 1 - e).toNat) := by
  rw [mid_num]
  unfold rU rX
  rw [Nat.mul_assoc, ← Nat.pow_add, show 2 * (M * 2 ^ (e - L).toNat) = M * 2 ^ ((e - L).toNat + 1) by rw [Nat.pow_succ, Nat.mul_comm (2 ^ (e - L).toNat) 2, ← Nat.mul_assoc, ← Nat.mul_assoc, Nat.mul_comm 2]]
  exact scale_eq _ _ _ _ _ _ (by omega)

/-- m 2^e against n 2^f. -/
def cmp2 (A e B f : Int) : Int := cmpI (A * 2 ^ (e - f).toNat) (B * 2 ^ (f - e).toNat)

theorem cmp2_le (A B : Nat) (e f : Int) : cmp2 A e B f ≤ 0 ↔ A * 2 ^ (e - f).toNat ≤ B * 2 ^ (f - e).toNat := by
  have h : ((A : Int) * 2 ^ (e - f).toNat ≤ (B : Int) * 2 ^ (f - e).toNat) ↔ A * 2 ^ (e - f).toNat ≤ B * 2 ^ (f - e).toNat := by
    rw [← Int.ofNat_le]
    simp
  rw [← h]
  unfold cmp2
  constructor
  · intro k
    rcases Int.lt_or_le ((B : Int) * 2 ^ (f - e).toNat) ((A : Int) * 2 ^ (e - f).toNat) with h1 | h1
    · rw [cmpI_gt h1] at k; omega
    · exact h1
  · exact cmpI_le
theorem cmp2_gt (A B : Nat) (e f : Int) : 0 < cmp2 A e B f ↔ B * 2 ^ (f - e).toNat < A * 2 ^ (e - f).toNat := by
  have := cmp2_le A B e f
  omega
theorem cmp2_eq (A B : Nat) (e f : Int) : cmp2 A e B f = 0 ↔ A * 2 ^ (e - f).toNat = B * 2 ^ (f - e).toNat := by
  have h : ((A : Int) * 2 ^ (e - f).toNat = (B : Int) * 2 ^ (f - e).toNat) ↔ A * 2 ^ (e - f).toNat = B * 2 ^ (f - e).toNat := by
    rw [← Int.ofNat_inj]
    simp
  rw [← h]
  unfold cmp2
  constructor
  · intro k
    rcases Int.lt_trichotomy ((A : Int) * 2 ^ (e - f).toNat) ((B : Int) * 2 ^ (f - e).toNat) with h1 | h1 | h1
    · rw [cmpI_lt h1] at k; omega
    · exact h1
    · rw [cmpI_gt h1] at k; omega
  · exact cmpI_eq

/-- What stands at the end of the halving. -/
theorem nearE_found {W : Nat} (M low : Nat) (e : Int) (h0 : low ≤ infN W) (h1 : numN (shF W) low * rU (shL W) e ≤ rX (shL W) e M) (h2 : low < infN W → rX (shL W) e M < numN (shF W) (low + 1) * rU (shL W) e) :
    nearE W M e = if low = infN W then infN W else if 0 < cmp2 M e (midM (shF W) low) (shL W + numP (shF W) low - 1) ∨ (cmp2 M e (midM (shF W) low) (shL W + numP (shF W) low - 1) = 0 ∧ low % 2 = 1) then low + 1 else low := by
  refine nearN_eq ⟨low, h0, h1, h2, ?_⟩
  have i1 := cmp_mid_lt (shF W) low M (shL W) e
  have i2 := cmp_mid_eq (shF W) low M (shL W) e
  simp only [i1, i2, cmp2_gt, cmp2_eq]

/-- Two numbers between the same two of 60 digits and more have one nearest pattern. -/
theorem nearE_like {W : Nat} (hW : Wide W) (A B Q T : Nat) (e : Int) (hQ : 2 ^ 60 ≤ Q) (a1 : Q * 2 ^ T < A) (a2 : A < (Q + 1) * 2 ^ T) (b1 : Q * 2 ^ T < B) (b2 : B < (Q + 1) * 2 ^ T) : nearE W A e = nearE W B e := by
  have hF : shF W + 2 ≤ 60 := by rcases hW with rfl | rfl | rfl <;> decide
  refine nearN_eq ((nearN_spec (shF W) (infN W) (rU (shL W) e) (rX (shL W) e B)).like ?_)
  intro k d hk
  have hk2 : k ≤ Q := Nat.le_trans hk (Nat.le_trans (Nat.pow_le_pow_right (by omega) hF) hQ)
  unfold rU rX
  generalize (shL W - e).toNat = u
  generalize (e - shL W).toNat = v
  have key : ∀ C : Nat, Q * 2 ^ T < C → C < (Q + 1) * 2 ^ T →
      ((k * 2 ^ d * 2 ^ u ≤ 2 * (C * 2 ^ v) ↔ k * 2 ^ (d + u) ≤ Q * 2 ^ (T + v + 1)) ∧ (2 * (C * 2 ^ v) ≤ k * 2 ^ d * 2 ^ u ↔ (Q + 1) * 2 ^ (T + v + 1) ≤ k * 2 ^ (d + u))) := by
    intro C c1 c2
    have e1 : k * 2 ^ d * 2 ^ u = k * 2 ^ (d + u) := by rw [Nat.mul_assoc, ← Nat.pow_add]
    have e2 : 2 * (C * 2 ^ v) = C * 2 ^ (v + 1) := by rw [Nat.pow_succ, Nat.mul_comm (2 ^ v) 2, ← Nat.mul_assoc, ← Nat.mul_assoc, Nat.mul_comm 2]
    have hv := Nat.two_pow_pos (v + 1)
    have f1 : Q * 2 ^ (T + v + 1) < C * 2 ^ (v + 1) := by
      rw [Nat.add_assoc, Nat.pow_add 2 T (v + 1), ← Nat.mul_assoc]
      exact Nat.mul_lt_mul_of_pos_right c1 hv
    have f2 : C * 2 ^ (v + 1) < (Q + 1) * 2 ^ (T + v + 1) := by
      rw [Nat.add_assoc, Nat.pow_add 2 T (v + 1), ← Nat.mul_assoc]
      exact Nat.mul_lt_mul_of_pos_right c2 hv
    have gap : Q * 2 ^ (T + v + 1) < k * 2 ^ (d + u) → (Q + 1) * 2 ^ (T + v + 1) ≤ k * 2 ^ (d + u) := by
      intro h
      have hle : T + v + 1 ≤ d + u := by
        rcases Nat.lt_or_ge (d + u) (T + v + 1) with hlt | hge
        · exfalso
          have h3 : 2 ^ (d + u) ≤ 2 ^ (T + v + 1) := Nat.pow_le_pow_right (by omega) (by omega)
          have h4 := Nat.mul_le_mul hk2 h3
          omega
        · exact hge
      obtain ⟨x, hx⟩ : ∃ x, d + u = x + (T + v + 1) := ⟨d + u - (T + v + 1), by omega⟩
      rw [hx, Nat.pow_add 2 x, ← Nat.mul_assoc] at h ⊢
      have h5 := Nat.lt_of_mul_lt_mul_right h
      exact Nat.mul_le_mul_right _ h5
    rw [e1, e2]
    constructor
    · constructor
      · intro h
        rcases Nat.lt_or_ge (Q * 2 ^ (T + v + 1)) (k * 2 ^ (d + u)) with h1 | h1
        · have := gap h1; omega
        · exact h1
      · intro h; omega
    · constructor
      · intro h; exact gap (by omega)
      · intro h; omega
  have kA := key A a1 a2
  have kB := key B b1 b2
  exact ⟨kB.1.trans kA.1.symm, kB.2.trans kA.2.symm⟩

/-- What stands behind 200 digits says no more than that something does. -/
theorem near_cut {W : Nat} (hW : Wide W) (V t : Nat) (e : Int) (more : Bool) (hq : 2 ^ 60 ≤ V / 2 ^ t) :
    nearE W (rM V more) (rE e more) = nearE W (rM ((V / 2 ^ t : Nat) : Int) (more || decide (V % 2 ^ t ≠ 0))) (rE (e + t) (more || decide (V % 2 ^ t ≠ 0))) := by
  have hP := Nat.two_pow_pos t
  have hm := Nat.mod_lt V hP
  have hd := Nat.div_add_mod V (2 ^ t)
  rw [Nat.mul_comm] at hd
  by_cases hb : more || decide (V % 2 ^ t ≠ 0)
  · rw [hb]
    have e1 : nearE W (rM V more) (rE e more) = nearE W (if more then 2 * V + 1 else 2 * V) (e - 1) := by
      cases more
      · show nearE W V e = nearE W (2 * V) (e - 1)
        have := nearE_shift W V 1 e
        rw [Nat.pow_one, Nat.mul_comm] at this
        exact this.symm
      · rfl
    have e2 : nearE W (rM ((V / 2 ^ t : Nat) : Int) true) (rE (e + t) true) = nearE W ((2 * (V / 2 ^ t) + 1) * 2 ^ t) (e - 1) := by
      have := nearE_shift W (2 * (V / 2 ^ t) + 1) t (e + t - 1)
      rw [show e + t - 1 - t = e - 1 by omega] at this
      rw [this]
      rfl
    rw [e1, e2]
    have hbv : 1 ≤ V % 2 ^ t ∨ more = true := by
      cases more
      · left
        simp at hb
        omega
      · exact .inr rfl
    generalize V / 2 ^ t = q at *
    generalize V % 2 ^ t = r at *
    subst hd
    refine nearE_like hW _ _ q (t + 1) _ hq ?_ ?_ ?_ ?_ <;> (try rw [Nat.pow_succ, ← Nat.mul_assoc])
    · split
      · omega
      · rename_i h
        rcases hbv with h1 | h1
        · omega
        · exact absurd h1 h
    · rw [Nat.add_mul, Nat.add_mul]
      split <;> omega
    · rw [Nat.add_mul, Nat.mul_assoc 2, Nat.mul_comm 2]
      omega
    · rw [Nat.add_mul, Nat.mul_assoc 2, Nat.mul_comm 2, Nat.add_mul, Nat.add_mul]
      omega
  · have hb' : (more || decide (V % 2 ^ t ≠ 0)) = false := by simpa using hb
    rw [hb']
    have h1 : more = false := by cases more <;> simp_all
    have h2 : V % 2 ^ t = 0 := by
      subst h1
      simpa using hb'
    subst h1
    show nearE W V e = nearE W (V / 2 ^ t) (e + t)
    have := nearE_shift W (V / 2 ^ t) t (e + t)
    rw [show e + (t : Int) - t = e by omega] at this
    rw [← this]
    congr 1
    omega
end Go.Proofs.YtoimhjcpeifegaaGreatDoor

/- Printed by ieee.py. -/
namespace Go.Proofs.YtoimhjcpeifegaaGreatDoor
open Go.RowKit

theorem of_64 (w : World) (hS : Shapes w) : Calls Tryz.prog 57 #[] w (fun e w' => e = .returned (.agg #[.int .i64 52, .int .i64 (-1074), .int .i64 11]) ∧ Below w.heap.size w w') := by
  have b0 : Below w.heap.size w (w.alloc (.cells #[.int .i64 0, .int .i64 0, .int .i64 0] 95)) := (Below.refl _ _).alloc (Nat.le_refl _) _
  obtain ⟨c0, c1, c2, c3, c4, c5, c6, c7, c8⟩ := hS.below b0 (Nat.le_refl _)
  have x0 : bits BinOp.xor .u64 (if IntKind.u64.signed = true then -1 else IntKind.u64.max) 0 = 18446744073709551615 := by decide
  have x1 : bits BinOp.xor .u64 IntKind.u64.max 0 = 18446744073709551615 := by decide
  have x2 : IntKind.u64.wrap 18446744073709551615 = 18446744073709551615 := by decide
  clear b0
  go_enter Tryz.func57, Tryz.ntmps57
  go_wp2
  refine bodyPost_ret (results_cell_row rfl _ _ w.heap.size 95 #[.int .i64 52, .int .i64 (-1074), .int .i64 11] (0, 0) _ rfl (heap_alloc_new _ _) Tryz.underlying95 rfl size_shape) rfl ?_
  exact ⟨rfl, (Below.refl _ _).alloc (Nat.le_refl _) _⟩
end Go.Proofs.YtoimhjcpeifegaaGreatDoor

/- Printed by ieee.py. -/
namespace Go.Proofs.YtoimhjcpeifegaaGreatDoor
open Go.RowKit

theorem shsign_16 (w : World) : Calls Tryz.prog 120 #[.agg #[.int .i64 10, .int .i64 (-24), .int .i64 5]] w (fun e w' => e = .returned (.int .u64 32768) ∧ Below w.heap.size w w') := by
  have b0 : Below w.heap.size w (w.alloc (.cells #[.int .i64 10, .int .i64 (-24), .int .i64 5] 95)) := (Below.refl _ _).alloc (Nat.le_refl _) _
  go_enter Tryz.func120, Tryz.ntmps120
  go_wp2
  go_ret
  exact ⟨rfl, b0⟩

theorem shinf_16 (w : World) : Calls Tryz.prog 61 #[.agg #[.int .i64 10, .int .i64 (-24), .int .i64 5]] w (fun e w' => e = .returned (.int .u64 31744) ∧ Below w.heap.size w w') := by
  have b0 : Below w.heap.size w (w.alloc (.cells #[.int .i64 10, .int .i64 (-24), .int .i64 5] 95)) := (Below.refl _ _).alloc (Nat.le_refl _) _
  go_enter Tryz.func61, Tryz.ntmps61
  go_wp2_with fail
  have c0 : (w.alloc (.cells #[.int .i64 10, .int .i64 (-24), .int .i64 5] 95)).cell? ⟨w.heap.size, 0, none⟩ = some (.int .i64 10) := World.cell?_alloc_at _ _ _ _ rfl
  have c1 : (w.alloc (.cells #[.int .i64 10, .int .i64 (-24), .int .i64 5] 95)).cell? ⟨w.heap.size, 1, none⟩ = some (.int .i64 (-24)) := World.cell?_alloc_at _ _ _ _ rfl
  have c2 : (w.alloc (.cells #[.int .i64 10, .int .i64 (-24), .int .i64 5] 95)).cell? ⟨w.heap.size, 2, none⟩ = some (.int .i64 5) := World.cell?_alloc_at _ _ _ _ rfl
  generalize w.alloc (.cells #[.int .i64 10, .int .i64 (-24), .int .i64 5] 95) = w1 at *
  have bd : Below w1.heap.size w1 w1.drew := below_drew (Below.refl _ _)
  go_region_held3 (fun w' => w'.cell? ⟨w.heap.size, 0, none⟩ = some (.int .i64 10) ∧ w'.cell? ⟨w.heap.size, 1, none⟩ = some (.int .i64 (-24)) ∧ w'.cell? ⟨w.heap.size, 2, none⟩ = some (.int .i64 5) ∧ Below w1.heap.size w1 w') (go_keep)
    (first
      | (go_at_call 120
         refine (shsign_16 _).mono ?_
         rintro e w2 ⟨rfl, hb⟩
         have d0 := below_cell hb (Nat.le_refl _) c0
         have d1 := below_cell hb (Nat.le_refl _) c1
         have d2 := below_cell hb (Nat.le_refl _) c2
         have bb : Below w1.heap.size w1 w2 := below_then bd (Nat.le_refl _) hb))
  go_wp2
  go_ret
  exact ⟨by first | rfl | simp, below_trans b0 (by assumption)⟩

theorem shnan_16 (w : World) : Calls Tryz.prog 58 #[.agg #[.int .i64 10, .int .i64 (-24), .int .i64 5]] w (fun e w' => e = .returned (.int .u64 32256) ∧ Below w.heap.size w w') := by
  have b0 : Below w.heap.size w (w.alloc (.cells #[.int .i64 10, .int .i64 (-24), .int .i64 5] 95)) := (Below.refl _ _).alloc (Nat.le_refl _) _
  have hw : IntKind.i64.wrap 9 = 9 := by decide
  go_enter Tryz.func58, Tryz.ntmps58
  go_wp2_with fail
  have c0 : (w.alloc (.cells #[.int .i64 10, .int .i64 (-24), .int .i64 5] 95)).cell? ⟨w.heap.size, 0, none⟩ = some (.int .i64 10) := World.cell?_alloc_at _ _ _ _ rfl
  have c1 : (w.alloc (.cells #[.int .i64 10, .int .i64 (-24), .int .i64 5] 95)).cell? ⟨w.heap.size, 1, none⟩ = some (.int .i64 (-24)) := World.cell?_alloc_at _ _ _ _ rfl
  have c2 : (w.alloc (.cells #[.int .i64 10, .int .i64 (-24), .int .i64 5] 95)).cell? ⟨w.heap.size, 2, none⟩ = some (.int .i64 5) := World.cell?_alloc_at _ _ _ _ rfl
  generalize w.alloc (.cells #[.int .i64 10, .int .i64 (-24), .int .i64 5] 95) = w1 at *
  have bd : Below w1.heap.size w1 w1.drew := below_drew (Below.refl _ _)
  go_region_held3 (fun w' => w'.cell? ⟨w.heap.size, 0, none⟩ = some (.int .i64 10) ∧ w'.cell? ⟨w.heap.size, 1, none⟩ = some (.int .i64 (-24)) ∧ w'.cell? ⟨w.heap.size, 2, none⟩ = some (.int .i64 5) ∧ Below w1.heap.size w1 w') (go_keep)
    (first
      | (go_at_call 61
         refine (shinf_16 _).mono ?_
         rintro e w2 ⟨rfl, hb⟩
         have d0 := below_cell hb (Nat.le_refl _) c0
         have d1 := below_cell hb (Nat.le_refl _) c1
         have d2 := below_cell hb (Nat.le_refl _) c2
         have bb : Below w1.heap.size w1 w2 := below_then bd (Nat.le_refl _) hb))
  go_wp2
  go_ret
  exact ⟨by first | rfl | simp, below_trans b0 (by assumption)⟩

theorem shsign_32 (w : World) : Calls Tryz.prog 120 #[.agg #[.int .i64 23, .int .i64 (-149), .int .i64 8]] w (fun e w' => e = .returned (.int .u64 2147483648) ∧ Below w.heap.size w w') := by
  have b0 : Below w.heap.size w (w.alloc (.cells #[.int .i64 23, .int .i64 (-149), .int .i64 8] 95)) := (Below.refl _ _).alloc (Nat.le_refl _) _
  go_enter Tryz.func120, Tryz.ntmps120
  go_wp2
  go_ret
  exact ⟨rfl, b0⟩

theorem shinf_32 (w : World) : Calls Tryz.prog 61 #[.agg #[.int .i64 23, .int .i64 (-149), .int .i64 8]] w (fun e w' => e = .returned (.int .u64 2139095040) ∧ Below w.heap.size w w') := by
  have b0 : Below w.heap.size w (w.alloc (.cells #[.int .i64 23, .int .i64 (-149), .int .i64 8] 95)) := (Below.refl _ _).alloc (Nat.le_refl _) _
  go_enter Tryz.func61, Tryz.ntmps61
  go_wp2_with fail
  have c0 : (w.alloc (.cells #[.int .i64 23, .int .i64 (-149), .int .i64 8] 95)).cell? ⟨w.heap.size, 0, none⟩ = some (.int .i64 23) := World.cell?_alloc_at _ _ _ _ rfl
  have c1 : (w.alloc (.cells #[.int .i64 23, .int .i64 (-149), .int .i64 8] 95)).cell? ⟨w.heap.size, 1, none⟩ = some (.int .i64 (-149)) := World.cell?_alloc_at _ _ _ _ rfl
  have c2 : (w.alloc (.cells #[.int .i64 23, .int .i64 (-149), .int .i64 8] 95)).cell? ⟨w.heap.size, 2, none⟩ = some (.int .i64 8) := World.cell?_alloc_at _ _ _ _ rfl
  generalize w.alloc (.cells #[.int .i64 23, .int .i64 (-149), .int .i64 8] 95) = w1 at *
  have bd : Below w1.heap.size w1 w1.drew := below_drew (Below.refl _ _)
  go_region_held3 (fun w' => w'.cell? ⟨w.heap.size, 0, none⟩ = some (.int .i64 23) ∧ w'.cell? ⟨w.heap.size, 1, none⟩ = some (.int .i64 (-149)) ∧ w'.cell? ⟨w.heap.size, 2, none⟩ = some (.int .i64 8) ∧ Below w1.heap.size w1 w') (go_keep)
    (first
      | (go_at_call 120
         refine (shsign_32 _).mono ?_
         rintro e w2 ⟨rfl, hb⟩
         have d0 := below_cell hb (Nat.le_refl _) c0
         have d1 := below_cell hb (Nat.le_refl _) c1
         have d2 := below_cell hb (Nat.le_refl _) c2
         have bb : Below w1.heap.size w1 w2 := below_then bd (Nat.le_refl _) hb))
  go_wp2
  go_ret
  exact ⟨by first | rfl | simp, below_trans b0 (by assumption)⟩

theorem shnan_32 (w : World) : Calls Tryz.prog 58 #[.agg #[.int .i64 23, .int .i64 (-149), .int .i64 8]] w (fun e w' => e = .returned (.int .u64 2143289344) ∧ Below w.heap.size w w') := by
  have b0 : Below w.heap.size w (w.alloc (.cells #[.int .i64 23, .int .i64 (-149), .int .i64 8] 95)) := (Below.refl _ _).alloc (Nat.le_refl _) _
  have hw : IntKind.i64.wrap 22 = 22 := by decide
  go_enter Tryz.func58, Tryz.ntmps58
  go_wp2_with fail
  have c0 : (w.alloc (.cells #[.int .i64 23, .int .i64 (-149), .int .i64 8] 95)).cell? ⟨w.heap.size, 0, none⟩ = some (.int .i64 23) := World.cell?_alloc_at _ _ _ _ rfl
  have c1 : (w.alloc (.cells #[.int .i64 23, .int .i64 (-149), .int .i64 8] 95)).cell? ⟨w.heap.size, 1, none⟩ = some (.int .i64 (-149)) := World.cell?_alloc_at _ _ _ _ rfl
  have c2 : (w.alloc (.cells #[.int .i64 23, .int .i64 (-149), .int .i64 8] 95)).cell? ⟨w.heap.size, 2, none⟩ = some (.int .i64 8) := World.cell?_alloc_at _ _ _ _ rfl
  generalize w.alloc (.cells #[.int .i64 23, .int .i64 (-149), .int .i64 8] 95) = w1 at *
  have bd : Below w1.heap.size w1 w1.drew := below_drew (Below.refl _ _)
  go_region_held3 (fun w' => w'.cell? ⟨w.heap.size, 0, none⟩ = some (.int .i64 23) ∧ w'.cell? ⟨w.heap.size, 1, none⟩ = some (.int .i64 (-149)) ∧ w'.cell? ⟨w.heap.size, 2, none⟩ = some (.int .i64 8) ∧ Below w1.heap.size w1 w') (go_keep)
    (first
      | (go_at_call 61
         refine (shinf_32 _).mono ?_
         rintro e w2 ⟨rfl, hb⟩
         have d0 := below_cell hb (Nat.le_refl _) c0
         have d1 := below_cell hb (Nat.le_refl _) c1
         have d2 := below_cell hb (Nat.le_refl _) c2
         have bb : Below w1.heap.size w1 w2 := below_then bd (Nat.le_refl _) hb))
  go_wp2
  go_ret
  exact ⟨by first | rfl | simp, below_trans b0 (by assumption)⟩

theorem shsign_64 (w : World) : Calls Tryz.prog 120 #[.agg #[.int .i64 52, .int .i64 (-1074), .int .i64 11]] w (fun e w' => e = .returned (.int .u64 9223372036854775808) ∧ Below w.heap.size w w') := by
  have b0 : Below w.heap.size w (w.alloc (.cells #[.int .i64 52, .int .i64 (-1074), .int .i64 11] 95)) := (Below.refl _ _).alloc (Nat.le_refl _) _
  go_enter Tryz.func120, Tryz.ntmps120
  go_wp2
  go_ret
  exact ⟨rfl, b0⟩

theorem shinf_64 (w : World) : Calls Tryz.prog 61 #[.agg #[.int .i64 52, .int .i64 (-1074), .int .i64 11]] w (fun e w' => e = .returned (.int .u64 9218868437227405312) ∧ Below w.heap.size w w') := by
  have b0 : Below w.heap.size w (w.alloc (.cells #[.int .i64 52, .int .i64 (-1074), .int .i64 11] 95)) := (Below.refl _ _).alloc (Nat.le_refl _) _
  go_enter Tryz.func61, Tryz.ntmps61
  go_wp2_with fail
  have c0 : (w.alloc (.cells #[.int .i64 52, .int .i64 (-1074), .int .i64 11] 95)).cell? ⟨w.heap.size, 0, none⟩ = some (.int .i64 52) := World.cell?_alloc_at _ _ _ _ rfl
  have c1 : (w.alloc (.cells #[.int .i64 52, .int .i64 (-1074), .int .i64 11] 95)).cell? ⟨w.heap.size, 1, none⟩ = some (.int .i64 (-1074)) := World.cell?_alloc_at _ _ _ _ rfl
  have c2 : (w.alloc (.cells #[.int .i64 52, .int .i64 (-1074), .int .i64 11] 95)).cell? ⟨w.heap.size, 2, none⟩ = some (.int .i64 11) := World.cell?_alloc_at _ _ _ _ rfl
  generalize w.alloc (.cells #[.int .i64 52, .int .i64 (-1074), .int .i64 11] 95) = w1 at *
  have bd : Below w1.heap.size w1 w1.drew := below_drew (Below.refl _ _)
  go_region_held3 (fun w' => w'.cell? ⟨w.heap.size, 0, none⟩ = some (.int .i64 52) ∧ w'.cell? ⟨w.heap.size, 1, none⟩ = some (.int .i64 (-1074)) ∧ w'.cell? ⟨w.heap.size, 2, none⟩ = some (.int .i64 11) ∧ Below w1.heap.size w1 w') (go_keep)
    (first
      | (go_at_call 120
         refine (shsign_64 _).mono ?_
         rintro e w2 ⟨rfl, hb⟩
         have d0 := below_cell hb (Nat.le_refl _) c0
         have d1 := below_cell hb (Nat.le_refl _) c1
         have d2 := below_cell hb (Nat.le_refl _) c2
         have bb : Below w1.heap.size w1 w2 := below_then bd (Nat.le_refl _) hb))
  go_wp2
  go_ret
  exact ⟨by first | rfl | simp, below_trans b0 (by assumption)⟩

theorem shnan_64 (w : World) : Calls Tryz.prog 58 #[.agg #[.int .i64 52, .int .i64 (-1074), .int .i64 11]] w (fun e w' => e = .returned (.int .u64 9221120237041090560) ∧ Below w.heap.size w w') := by
  have b0 : Below w.heap.size w (w.alloc (.cells #[.int .i64 52, .int .i64 (-1074), .int .i64 11] 95)) := (Below.refl _ _).alloc (Nat.le_refl _) _
  have hw : IntKind.i64.wrap 51 = 51 := by decide
  go_enter Tryz.func58, Tryz.ntmps58
  go_wp2_with fail
  have c0 : (w.alloc (.cells #[.int .i64 52, .int .i64 (-1074), .int .i64 11] 95)).cell? ⟨w.heap.size, 0, none⟩ = some (.int .i64 52) := World.cell?_alloc_at _ _ _ _ rfl
  have c1 : (w.alloc (.cells #[.int .i64 52, .int .i64 (-1074), .int .i64 11] 95)).cell? ⟨w.heap.size, 1, none⟩ = some (.int .i64 (-1074)) := World.cell?_alloc_at _ _ _ _ rfl
  have c2 : (w.alloc (.cells #[.int .i64 52, .int .i64 (-1074), .int .i64 11] 95)).cell? ⟨w.heap.size, 2, none⟩ = some (.int .i64 11) := World.cell?_alloc_at _ _ _ _ rfl
  generalize w.alloc (.cells #[.int .i64 52, .int .i64 (-1074), .int .i64 11] 95) = w1 at *
  have bd : Below w1.heap.size w1 w1.drew := below_drew (Below.refl _ _)
  go_region_held3 (fun w' => w'.cell? ⟨w.heap.size, 0, none⟩ = some (.int .i64 52) ∧ w'.cell? ⟨w.heap.size, 1, none⟩ = some (.int .i64 (-1074)) ∧ w'.cell? ⟨w.heap.size, 2, none⟩ = some (.int .i64 11) ∧ Below w1.heap.size w1 w') (go_keep)
    (first
      | (go_at_call 61
         refine (shinf_64 _).mono ?_
         rintro e w2 ⟨rfl, hb⟩
         have d0 := below_cell hb (Nat.le_refl _) c0
         have d1 := below_cell hb (Nat.le_refl _) c1
         have d2 := below_cell hb (Nat.le_refl _) c2
         have bb : Below w1.heap.size w1 w2 := below_then bd (Nat.le_refl _) hb))
  go_wp2
  go_ret
  exact ⟨by first | rfl | simp, below_trans b0 (by assumption)⟩
end Go.Proofs.YtoimhjcpeifegaaGreatDoor

/- The program's way to the nearest pattern: plain facts over whole numbers. -/
namespace Go.Proofs.YtoimhjcpeifegaaGreatDoor

theorem bitsOf_ge {M : Int} (hM : 0 < M) : 0 < bitsOf M ∧ 2 ^ (bitsOf M - 1).toNat ≤ M.toNat ∧ M.toNat < 2 ^ (bitsOf M).toNat := by
  have h0 : M.toNat ≠ 0 := by omega
  have h1 := blen_ge M.toNat h0
  have h2 := blen_lt M.toNat
  have h3 := blen_pos M.toNat h0
  unfold bitsOf
  refine ⟨by omega, ?_, ?_⟩
  · rw [show ((blen M.toNat : Int) - 1).toNat = blen M.toNat - 1 by omega]; exact h1
  · rw [Int.toNat_natCast]; exact h2

theorem prog_inf {W : Nat} (hW : Wide W) (M p last : Int) (hM : 0 < M) (h1 : last = bitsOf M - shF W - 1 + p) (h2 : 2 ^ shE W - 2 ≤ last - shL W) : nearE W M.toNat p = infN W := by
  obtain ⟨b0, b1, b2⟩ := bitsOf_ge hM
  refine nearE_inf hW _ _ p b1 ?_
  have h3 : (topP W : Int) = shF W + 2 ^ shE W - 2 := by rcases hW with rfl | rfl | rfl <;> decide
  omega

theorem prog_zero {W : Nat} (hW : Wide W) (V p : Int) (more : Bool) (hV : 0 ≤ V) (h : p < -3000 - bitsOf V) : nearE W (rM V more) (rE p more) = 0 := by
  have h1 := blen_lt V.toNat
  have h2 : rM V more < 2 ^ (blen V.toNat + 1) := by
    unfold rM
    rw [Nat.pow_succ]
    split <;> omega
  refine nearE_small hW _ _ _ h2 ?_
  have h3 : rE p more ≤ p := by unfold rE; split <;> omega
  have h4 : -1074 ≤ shL W := by rcases hW with rfl | rfl | rfl <;> decide
  unfold bitsOf at h
  omega

theorem prog_big {W : Nat} (hW : Wide W) (V p : Int) (more : Bool) (hV : 0 ≤ V) (h : ¬ (V = 0 ∧ more = false)) (hp : 2000 < p) : nearE W (rM V more) (rE p more) = infN W := by
  refine nearE_inf hW _ 0 _ ?_ ?_
  · rw [Nat.pow_zero]
    unfold rM
    cases more
    · have : V ≠ 0 := fun e => h ⟨e, rfl⟩
      simp
      omega
    · simp
  · have h1 : 2000 ≤ rE p more := by unfold rE; split <;> omega
    have h2 : (topP W : Int) + shL W ≤ 1100 := by rcases hW with rfl | rfl | rfl <;> decide
    omega

theorem bitsOf_double (V : Int) (hV : 0 ≤ V) : bitsOf (V + V + 1) = bitsOf V + 1 := by
  unfold bitsOf
  rw [blen_half (V + V + 1).toNat (by omega), show (V + V + 1).toNat / 2 = V.toNat by omega]
  omega

theorem pow_cast (k : Nat) : ((2 ^ k : Nat) : Int) = 2 ^ k := by simp

theorem prog_exact {W : Nat} (hW : Wide W) (M p N last d : Int) (hM : 0 < M) (hN : N = bitsOf M) (hl : N - shF W - 1 + p ≤ last) (h2 : d = last - shL W) (h0 : 0 ≤ d) (h3 : d < 2 ^ shE W - 2) (hor : d = 0 ∨ last = N - shF W - 1 + p) (hlp : last ≤ p) :
    (nearE W M.toNat p : Int) = d * 2 ^ shF W + M * 2 ^ (p - last).toNat ∧ M < 2 ^ (shF W + 1) ∧ M * 2 ^ (p - last).toNat < 2 ^ (shF W + 1) ∧ (d = 0 ∨ 2 ^ shF W ≤ M * 2 ^ (p - last).toNat) := by
  obtain ⟨b0, b1, b2⟩ := bitsOf_ge hM
  rw [← hN] at b0 b1 b2
  obtain ⟨m, rfl⟩ := Int.eq_ofNat_of_zero_le (Int.le_of_lt hM)
  obtain ⟨d, rfl⟩ := Int.eq_ofNat_of_zero_le h0
  rw [Int.toNat_natCast] at *
  obtain ⟨t, ht⟩ : ∃ t : Nat, p - last = t := ⟨(p - last).toNat, by omega⟩
  rw [ht, Int.toNat_natCast]
  have k1 : m * 2 ^ t < 2 ^ (shF W + 1) := by
    have h5 : 2 ^ N.toNat * 2 ^ t ≤ 2 ^ (shF W + 1) := by
      rw [← Nat.pow_add]
      exact Nat.pow_le_pow_right (by omega) (by omega)
    exact Nat.lt_of_lt_of_le (Nat.mul_lt_mul_of_pos_right b2 (Nat.two_pow_pos t)) h5
  have k2 : d = 0 ∨ 2 ^ shF W ≤ m * 2 ^ t := by
    rcases hor with h | h
    · left; omega
    · right
      refine Nat.le_trans ?_ (Nat.mul_le_mul_right _ b1)
      rw [← Nat.pow_add]
      exact Nat.pow_le_pow_right (by omega) (by omega)
  have k3 : d + 2 < 2 ^ shE W := by
    have : ((2 ^ shE W : Nat) : Int) = 2 ^ shE W := pow_cast _
    omega
  have k4 := nearE_exact hW m d t p (by omega) k2 k1 k3
  have k5 : m < 2 ^ (shF W + 1) := by
    have : m * 1 ≤ m * 2 ^ t := Nat.mul_le_mul_left m (Nat.one_le_two_pow)
    omega
  have c1 : ((m * 2 ^ t : Nat) : Int) = (m : Int) * 2 ^ t := by simp
  have c2 := pow_cast (shF W + 1)
  have c3 := pow_cast (shF W)
  refine ⟨by rw [k4]; simp, by omega, by omega, ?_⟩
  rcases k2 with h | h
  · left; omega
  · right; omega

theorem prog_cut {W : Nat} (hW : Wide W) (M p N last d q : Int) (hM : 0 < M) (hN : N = bitsOf M) (hl : N - shF W - 1 + p ≤ last) (h2 : d = last - shL W) (h0 : 0 ≤ d) (h3 : d < 2 ^ shE W - 2) (hor : d = 0 ∨ last = N - shF W - 1 + p) (hlp : p < last)
    (hq : q = M / 2 ^ (last - p - 1).toNat) (rest : Bool) (hr : rest = decide (M % 2 ^ (last - p - 1).toNat ≠ 0)) :
    (nearE W M.toNat p : Int) = d * 2 ^ shF W + (if q % 2 = 1 ∧ (rest = true ∨ q / 2 % 2 = 1) then q / 2 + 1 else q / 2) ∧ 0 ≤ q ∧ q < 2 ^ (shF W + 2) ∧ (d = 0 ∨ 2 ^ shF W ≤ q / 2) := by
  obtain ⟨b0, b1, b2⟩ := bitsOf_ge hM
  rw [← hN] at b0 b1 b2
  obtain ⟨m, rfl⟩ := Int.eq_ofNat_of_zero_le (Int.le_of_lt hM)
  obtain ⟨d, rfl⟩ := Int.eq_ofNat_of_zero_le h0
  rw [Int.toNat_natCast] at *
  obtain ⟨s, hs⟩ : ∃ s : Nat, last - p - 1 = s := ⟨(last - p - 1).toNat, by omega⟩
  rw [hs, Int.toNat_natCast] at hq hr
  have hq2 : q = ((m / 2 ^ s : Nat) : Int) := by rw [hq]; simp
  subst hq2
  clear hq
  have k1 : m / 2 ^ (s + 1) < 2 ^ (shF W + 1) := by
    rw [Nat.div_lt_iff_lt_mul (Nat.two_pow_pos _), ← Nat.pow_add]
    exact Nat.lt_of_lt_of_le b2 (Nat.pow_le_pow_right (by omega) (by omega))
  have k2 : d = 0 ∨ 2 ^ shF W ≤ m / 2 ^ (s + 1) := by
    rcases hor with h | h
    · left; omega
    · right
      rw [Nat.le_div_iff_mul_le (Nat.two_pow_pos _), ← Nat.pow_add]
      exact Nat.le_trans (Nat.pow_le_pow_right (by omega) (by omega)) b1
  have k3 : d + 2 < 2 ^ shE W := by
    have : ((2 ^ shE W : Nat) : Int) = 2 ^ shE W := pow_cast _
    omega
  have k4 := nearE_cut hW m d (s + 1) p (by omega) k2 k1 k3
  rw [rounded_prog m s _ rfl] at k4
  have e2 : m / 2 ^ (s + 1) = m / 2 ^ s / 2 := by rw [Nat.pow_succ, ← Nat.div_div_eq_div_mul]
  rw [e2] at k1 k2
  have c2 := pow_cast (shF W + 1)
  have c3 := pow_cast (shF W)
  have c4 : ((m : Int) % 2 ^ s) = ((m % 2 ^ s : Nat) : Int) := by simp
  rw [c4] at hr
  have hr2 : rest = true ↔ m % 2 ^ s ≠ 0 := by rw [hr]; simp only [decide_eq_true_eq]; omega
  generalize m / 2 ^ s = q at *
  refine ⟨?_, by omega, ?_, ?_⟩
  · rw [k4, ← pow_cast]
    have i1 : ((q : Int) % 2 = 1 ∧ (rest = true ∨ (q : Int) / 2 % 2 = 1)) ↔ (q % 2 = 1 ∧ (m % 2 ^ s ≠ 0 ∨ q / 2 % 2 = 1)) := by rw [hr2]; omega
    simp only [i1]
    rw [Int.natCast_add, Int.natCast_mul]
    split <;> simp
  · rw [Int.pow_succ]
    omega
  · rcases k2 with h | h
    · left; omega
    · right; omega
end Go.Proofs.YtoimhjcpeifegaaGreatDoor

/- Printed by ieee.py. -/
namespace Go.Proofs.YtoimhjcpeifegaaGreatDoor
open Go.RowKit

theorem of_16 (w : World) (hS : Shapes w) : Calls Tryz.prog 92 #[] w (fun e w' => e = .returned (.agg #[.int .i64 10, .int .i64 (-24), .int .i64 5]) ∧ Below w.heap.size w w') := by
  have b0 : Below w.heap.size w (w.alloc (.cells #[.int .i64 0, .int .i64 0, .int .i64 0] 95)) := (Below.refl _ _).alloc (Nat.le_refl _) _
  obtain ⟨c0, c1, c2, c3, c4, c5, c6, c7, c8⟩ := hS.below b0 (Nat.le_refl _)
  have x0 : bits BinOp.xor .u16 (if IntKind.u16.signed = true then -1 else IntKind.u16.max) 0 = 65535 := by decide
  have x1 : bits BinOp.xor .u16 IntKind.u16.max 0 = 65535 := by decide
  have x2 : IntKind.u64.wrap 65535 = 65535 := by decide
  clear b0
  go_enter Tryz.func92, Tryz.ntmps92
  go_wp2
  refine bodyPost_ret (results_cell_row rfl _ _ w.heap.size 95 #[.int .i64 10, .int .i64 (-24), .int .i64 5] (0, 0) _ rfl (heap_alloc_new _ _) Tryz.underlying95 rfl size_shape) rfl ?_
  exact ⟨rfl, (Below.refl _ _).alloc (Nat.le_refl _) _⟩
end Go.Proofs.YtoimhjcpeifegaaGreatDoor

/- Printed by ieee.py. -/
namespace Go.Proofs.YtoimhjcpeifegaaGreatDoor
open Go.RowKit

theorem of_32 (w : World) (hS : Shapes w) : Calls Tryz.prog 96 #[] w (fun e w' => e = .returned (.agg #[.int .i64 23, .int .i64 (-149), .int .i64 8]) ∧ Below w.heap.size w w') := by
  have b0 : Below w.heap.size w (w.alloc (.cells #[.int .i64 0, .int .i64 0, .int .i64 0] 95)) := (Below.refl _ _).alloc (Nat.le_refl _) _
  obtain ⟨c0, c1, c2, c3, c4, c5, c6, c7, c8⟩ := hS.below b0 (Nat.le_refl _)
  have x0 : bits BinOp.xor .u32 (if IntKind.u32.signed = true then -1 else IntKind.u32.max) 0 = 4294967295 := by decide
  have x1 : bits BinOp.xor .u32 IntKind.u32.max 0 = 4294967295 := by decide
  have x2 : IntKind.u64.wrap 4294967295 = 4294967295 := by decide
  clear b0
  go_enter Tryz.func96, Tryz.ntmps96
  go_wp2
  refine bodyPost_ret (results_cell_row rfl _ _ w.heap.size 95 #[.int .i64 23, .int .i64 (-149), .int .i64 8] (0, 0) _ rfl (heap_alloc_new _ _) Tryz.underlying95 rfl size_shape) rfl ?_
  exact ⟨rfl, (Below.refl _ _).alloc (Nat.le_refl _) _⟩
end Go.Proofs.YtoimhjcpeifegaaGreatDoor
