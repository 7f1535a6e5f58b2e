/- Contracts of functions, and plain facts, part 25. -/
import Derived.Test.YtmnabilgpndjmaaDoorPk4
import Derived.Test.YtmnabilgpndjmaaDoorPk6
import Derived.Test.YtmnabilgpndjmaaDoorPk7
import Derived.Test.YtmnabilgpndjmaaDoorPk8
import Derived.Test.YtmnabilgpndjmaaDoorPk11
import Derived.Test.YtmnabilgpndjmaaDoorPk17
import Derived.Test.YtmnabilgpndjmaaDoorPk18
set_option linter.unusedVariables false
set_option linter.unusedSimpArgs false
/- The nearest pattern: greater numbers, numbers that are patterns, the middle. Plain facts. -/
namespace Go.Proofs.YtmnabilgpndjmaaDoor

theorem Nearest.mono {F I U X Y r s : Nat} (h : Nearest F I U X r) (k : Nearest F I U Y s) (hXY : X ≤ Y) : r ≤ s := by
  obtain ⟨a, a0, a1, a2, e⟩ := h
  obtain ⟨b, b0, b1, b2, e'⟩ := k
  have hab : a ≤ b := by
    rcases Nat.lt_or_ge b a with hlt | hge
    · exfalso
      have h2 := b2 (by omega)
      have m := Nat.mul_le_mul_right U (numN_mono F (show b + 1 ≤ a from hlt))
      omega
    · exact hge
  rcases Nat.lt_or_ge a b with hlt | hge
  · have h1 : r ≤ a + 1 := by rw [e]; split <;> (try split) <;> omega
    have h2 : b ≤ s := by rw [e']; split <;> (try split) <;> omega
    omega
  · obtain rfl : a = b := by omega
    rw [e, e']
    by_cases ha : a = I
    · rw [if_pos ha, if_pos ha]; exact Nat.le_refl _
    · rw [if_neg ha, if_neg ha]
      by_cases hu : (numN F a + numN F (a + 1)) * U < 2 * X ∨ (2 * X = (numN F a + numN F (a + 1)) * U ∧ a % 2 = 1)
      · rw [if_pos hu, if_pos (by omega)]; exact Nat.le_refl _
      · rw [if_neg hu]
        split <;> omega

theorem nearE_mono {W : Nat} (A B : Nat) (e : Int) (h : A ≤ B) : nearE W A e ≤ nearE W B e :=
  (nearN_spec _ _ _ _).mono (nearN_spec _ _ _ _) (Nat.mul_le_mul_right _ h)

/-- A number that is a pattern's. -/
theorem nearE_self {W : Nat} (hW : Wide W) (M z : Nat) (e : Int) (hz : z ≤ infN W) (h : rX (shL W) e M = numN (shF W) z * rU (shL W) e) : nearE W M e = z := by
  refine nearN_eq ⟨z, hz, Nat.le_of_eq h.symm, fun _ => by rw [h]; exact Nat.mul_lt_mul_of_pos_right (numN_lt_succ _ _) (rU_pos _ _), ?_⟩
  by_cases hI : z = infN W
  · rw [if_pos hI]; exact hI
  · rw [if_neg hI, if_neg]
    have h1 := Nat.mul_lt_mul_of_pos_right (numN_lt_succ (shF W) z) (rU_pos (shL W) e)
    rw [Nat.add_mul]
    omega

/-- How the nearest one stands to the middles around it: below, and above. -/
theorem near_middle {W : Nat} (M : Nat) (e : Int) (r : Nat) (hr : r = nearE W M e) :
    (r < infN W → 2 * rX (shL W) e M < (numN (shF W) r + numN (shF W) (r + 1)) * rU (shL W) e ∨ (2 * rX (shL W) e M = (numN (shF W) r + numN (shF W) (r + 1)) * rU (shL W) e ∧ r % 2 = 0)) ∧
    (0 < r → (numN (shF W) (r - 1) + numN (shF W) r) * rU (shL W) e < 2 * rX (shL W) e M ∨ ((numN (shF W) (r - 1) + numN (shF W) r) * rU (shL W) e = 2 * rX (shL W) e M ∧ r % 2 = 0)) := by
  obtain ⟨low, l0, l1, l2, e1⟩ := nearN_spec (shF W) (infN W) (rU (shL W) e) (rX (shL W) e M)
  have hr2 : r = nearN (shF W) (infN W) (rU (shL W) e) (rX (shL W) e M) := hr
  rw [e1] at hr2
  clear hr e1
  have hU := rU_pos (shL W) e
  generalize rU (shL W) e = U at *
  generalize rX (shL W) e M = X at *
  have st : ∀ z, numN (shF W) z * U < numN (shF W) (z + 1) * U := fun z => Nat.mul_lt_mul_of_pos_right (numN_lt_succ _ _) hU
  by_cases hI : low = infN W
  · rw [if_pos hI] at hr2
    subst hI hr2
    refine ⟨fun h => absurd h (Nat.lt_irrefl _), fun h => .inl ?_⟩
    have s1 := st (infN W - 1)
    rw [show infN W - 1 + 1 = infN W by omega] at s1
    rw [Nat.add_mul]
    omega
  · rw [if_neg hI] at hr2
    have x2 := l2 (by omega)
    split at hr2
    · rename_i hu
      subst hr2
      refine ⟨fun h => .inl ?_, fun _ => ?_⟩
      · have s1 := st (low + 1)
        rw [Nat.add_mul]
        omega
      · rw [Nat.add_sub_cancel]
        rcases hu with hu | hu
        · exact .inl hu
        · exact .inr ⟨hu.1.symm, by omega⟩
    · rename_i hu
      subst hr2
      refine ⟨fun h => by omega, fun h => .inl ?_⟩
      have s1 := st (r - 1)
      rw [show r - 1 + 1 = r by omega] at s1
      rw [Nat.add_mul]
      omega

/-- Two numbers between the same two of more digits than a pattern has have one nearest pattern. -/
theorem nearE_like2 {W : Nat} (hW : Wide W) (A B Q T : Nat) (e : Int) (hQ : 2 ^ (shF W + 2) ≤ Q) (a1 : Q * 2 ^ T < A) (a2 : A < (Q + 1) * 2 ^ T) (b1 : Q * 2 ^ T < B) (b2 : B < (Q + 1) * 2 ^ T) : nearE W A e = nearE W B e := by
  refine nearN_eq ((nearN_spec (shF W) (infN W) (rU (shL W) e) (rX (shL W) e B)).like ?_)
  intro k d hk
  have hk2 : k ≤ Q := Nat.le_trans hk hQ
  unfold rU rX
  generalize (shL W - e).toNat = u
  generalize (e - shL W).toNat = v
  have key : ∀ C : Nat, Q * 2 ^ T < C → C < (Q + 1) * 2 ^ T →
      ((k * 2 ^ d * 2 ^ u ≤ 2 * (C * 2 ^ v) ↔ k * 2 ^ (d + u) ≤ Q * 2 ^ (T + v + 1)) ∧ (2 * (C * 2 ^ v) ≤ k * 2 ^ d * 2 ^ u ↔ (Q + 1) * 2 ^ (T + v + 1) ≤ k * 2 ^ (d + u))) := by
    intro C c1 c2
    have e1 : k * 2 ^ d * 2 ^ u = k * 2 ^ (d + u) := by rw [Nat.mul_assoc, ← Nat.pow_add]
    have e2 : 2 * (C * 2 ^ v) = C * 2 ^ (v + 1) := by rw [Nat.pow_succ, Nat.mul_comm (2 ^ v) 2, ← Nat.mul_assoc, ← Nat.mul_assoc, Nat.mul_comm 2]
    have hv := Nat.two_pow_pos (v + 1)
    have f1 : Q * 2 ^ (T + v + 1) < C * 2 ^ (v + 1) := by
      rw [Nat.add_assoc, Nat.pow_add 2 T (v + 1), ← Nat.mul_assoc]
      exact Nat.mul_lt_mul_of_pos_right c1 hv
    have f2 : C * 2 ^ (v + 1) < (Q + 1) * 2 ^ (T + v + 1) := by
      rw [Nat.add_assoc, Nat.pow_add 2 T (v + 1), ← Nat.mul_assoc]
      exact Nat.mul_lt_mul_of_pos_right c2 hv
    have gap : Q * 2 ^ (T + v + 1) < k * 2 ^ (d + u) → (Q + 1) * 2 ^ (T + v + 1) ≤ k * 2 ^ (d + u) := by
      intro h
      have hle : T + v + 1 ≤ d + u := by
        rcases Nat.lt_or_ge (d + u) (T + v + 1) with hlt | hge
        · exfalso
          have h3 : 2 ^ (d + u) ≤ 2 ^ (T + v + 1) := Nat.pow_le_pow_right (by omega) (by omega)
          have h4 := Nat.mul_le_mul hk2 h3
          omega
        · exact hge
      obtain ⟨x, hx⟩ : ∃ x, d + u = x + (T + v + 1) := ⟨d + u - (T + v + 1), by omega⟩
      rw [hx, Nat.pow_add 2 x, ← Nat.mul_assoc] at h ⊢
      have h5 := Nat.lt_of_mul_lt_mul_right h
      exact Nat.mul_le_mul_right _ h5
    rw [e1, e2]
    constructor
    · constructor
      · intro h
        rcases Nat.lt_or_ge (Q * 2 ^ (T + v + 1)) (k * 2 ^ (d + u)) with h1 | h1
        · have := gap h1; omega
        · exact h1
      · intro h; omega
    · constructor
      · intro h; exact gap (by omega)
      · intro h; omega
  have kA := key A a1 a2
  have kB := key B b1 b2
  exact ⟨kB.1.trans kA.1.symm, kB.2.trans kA.2.symm⟩

/-- 40 digits behind enough of them say no more than that something does. -/
theorem nearE_behind {W : Nat} (hW : Wide W) (V c k : Nat) (e : Int) (hV : 2 ^ (shF W + 2) ≤ V) (hk : 0 < k) (hc0 : 0 < c) (hc1 : c < 2 ^ k) : nearE W (V * 2 ^ k + c) (e - k) = nearE W (2 * V + 1) (e - 1) := by
  have h1 := nearE_shift W (2 * V + 1) (k - 1) (e - 1)
  rw [show e - 1 - ((k - 1 : Nat) : Int) = e - k by omega] at h1
  rw [← h1]
  obtain ⟨j, rfl⟩ : ∃ j, k = j + 1 := ⟨k - 1, by omega⟩
  have hp := Nat.two_pow_pos j
  rw [Nat.add_sub_cancel]
  refine nearE_like2 hW _ _ V (j + 1) _ hV (by omega) ?_ ?_ ?_
  · rw [Nat.add_mul]; omega
  · rw [Nat.pow_succ, Nat.add_mul, Nat.mul_comm 2 V, Nat.mul_assoc, Nat.mul_comm 2 (2 ^ j)]; omega
  · rw [Nat.pow_succ, Nat.add_mul, Nat.mul_comm 2 V, Nat.mul_assoc, Nat.mul_comm 2 (2 ^ j), Nat.add_mul]; omega
end Go.Proofs.YtmnabilgpndjmaaDoor

/- Printed by ieee2.py. -/
namespace Go.Proofs.YtmnabilgpndjmaaDoor
open Go.RowKit

theorem next_16 (w : World) (hS : Shapes w) (x : Int) (hx : 0 ≤ x ∧ x < 65536) : Calls Tryd.prog 59 #[.int .u16 x] w (fun e w' => e = .returned (.int .u16 (nextW 16 x)) ∧ Below w.heap.size w w') := by
  have HC := Lib.hid (show nextW 16 x = if 31744 < sizeW 16 x ∨ x = 31744 then x else if sizeW 16 x = 0 then 1 else if negW 16 x then x - 1 else x + 1 by unfold nextW; rw [inf16])
  have H1 := Lib.hid (of_16 w hS)
  have H2 := Lib.hid (fun (w : World) (hS : Shapes w) => split_16 w hS x hx)
  have hn1 : negW 16 x = true → 32768 ≤ x := fun h => by have := of_decide_eq_true h; rwa [sgn16] at this
  have hn2 : negW 16 x = false → x < 32768 ∧ sizeW 16 x = x := fun h => by
    have h2 := of_decide_eq_false h
    have h3 : sizeW 16 x = x := by unfold sizeW; rw [if_neg h2]
    rw [sgn16] at h2
    exact ⟨by omega, h3⟩
  generalize nextW 16 x = C at *
  generalize sizeW 16 x = z at *
  generalize negW 16 x = n at *
  by_cases t1 : 31744 < z
  · have HR := Lib.hid (show C = x by rw [HC.out, if_pos (.inl t1)])
    clear HC hn1 hn2
    go_enter Tryd.func59, Tryd.ntmps59
    go_wp2_with fail
    refine (H1.out).mono ?_
    rintro e w1 ⟨rfl, b1⟩
    have bA : Below w1.heap.size w1 (w1.alloc (.cells #[.int .i64 10, .int .i64 (-24), .int .i64 5] 142)) := (Below.refl _ _).alloc (Nat.le_refl _) _
    have c0 : (w1.alloc (.cells #[.int .i64 10, .int .i64 (-24), .int .i64 5] 142)).cell? ⟨w1.heap.size, 0, none⟩ = some (.int .i64 (10)) := World.cell?_alloc_at _ _ _ _ rfl
    have c1 : (w1.alloc (.cells #[.int .i64 10, .int .i64 (-24), .int .i64 5] 142)).cell? ⟨w1.heap.size, 1, none⟩ = some (.int .i64 (-24)) := World.cell?_alloc_at _ _ _ _ rfl
    have c2 : (w1.alloc (.cells #[.int .i64 10, .int .i64 (-24), .int .i64 5] 142)).cell? ⟨w1.heap.size, 2, none⟩ = some (.int .i64 (5)) := World.cell?_alloc_at _ _ _ _ rfl
    have HS2 := Lib.hid (H2.out (w1.alloc (.cells #[.int .i64 10, .int .i64 (-24), .int .i64 5] 142)) ((hS.below b1 (Nat.le_refl _)).below bA (Nat.le_refl _)))
    go_wp2_with fail
    refine (HS2.out).mono ?_
    rintro e w2 ⟨rfl, b2⟩
    have d0 := below_cell b2 (Nat.le_refl _) c0
    have d1 := below_cell b2 (Nat.le_refl _) c1
    have d2 := below_cell b2 (Nat.le_refl _) c2
    have b2' := below_trans bA b2
    go_wp2_with fail
    refine (shinf_16 w2).mono ?_
    rintro e w3 ⟨rfl, b3⟩
    have e0 := below_cell b3 (Nat.le_refl _) d0
    have e1 := below_cell b3 (Nat.le_refl _) d1
    have e2 := below_cell b3 (Nat.le_refl _) d2
    go_wp2
    go_ret
    rw [HR.out]
    exact ⟨rfl, below_trans b1 (below_trans b2' b3)⟩
  · cases n
    · obtain ⟨hx1, hxz⟩ := hn2 rfl
      subst hxz
      clear hn1 hn2
      by_cases t2 : z = 31744
      · have HR := Lib.hid (show C = z by rw [HC.out, if_pos (.inr t2)])
        have t2' : (z == 31744) = true := by simpa using t2
        clear HC t2
        go_enter Tryd.func59, Tryd.ntmps59
        go_wp2_with fail
        refine (H1.out).mono ?_
        rintro e w1 ⟨rfl, b1⟩
        have bA : Below w1.heap.size w1 (w1.alloc (.cells #[.int .i64 10, .int .i64 (-24), .int .i64 5] 142)) := (Below.refl _ _).alloc (Nat.le_refl _) _
        have c0 : (w1.alloc (.cells #[.int .i64 10, .int .i64 (-24), .int .i64 5] 142)).cell? ⟨w1.heap.size, 0, none⟩ = some (.int .i64 (10)) := World.cell?_alloc_at _ _ _ _ rfl
        have c1 : (w1.alloc (.cells #[.int .i64 10, .int .i64 (-24), .int .i64 5] 142)).cell? ⟨w1.heap.size, 1, none⟩ = some (.int .i64 (-24)) := World.cell?_alloc_at _ _ _ _ rfl
        have c2 : (w1.alloc (.cells #[.int .i64 10, .int .i64 (-24), .int .i64 5] 142)).cell? ⟨w1.heap.size, 2, none⟩ = some (.int .i64 (5)) := World.cell?_alloc_at _ _ _ _ rfl
        have HS2 := Lib.hid (H2.out (w1.alloc (.cells #[.int .i64 10, .int .i64 (-24), .int .i64 5] 142)) ((hS.below b1 (Nat.le_refl _)).below bA (Nat.le_refl _)))
        go_wp2_with fail
        refine (HS2.out).mono ?_
        rintro e w2 ⟨rfl, b2⟩
        have d0 := below_cell b2 (Nat.le_refl _) c0
        have d1 := below_cell b2 (Nat.le_refl _) c1
        have d2 := below_cell b2 (Nat.le_refl _) c2
        have b2' := below_trans bA b2
        go_wp2_with fail
        refine (shinf_16 w2).mono ?_
        rintro e w3 ⟨rfl, b3⟩
        have e0 := below_cell b3 (Nat.le_refl _) d0
        have e1 := below_cell b3 (Nat.le_refl _) d1
        have e2 := below_cell b3 (Nat.le_refl _) d2
        go_wp2_with fail
        refine (shinf_16 w3).mono ?_
        rintro e w4 ⟨rfl, b4⟩
        have g0 := below_cell b4 (Nat.le_refl _) e0
        have g1 := below_cell b4 (Nat.le_refl _) e1
        have g2 := below_cell b4 (Nat.le_refl _) e2
        go_wp2
        go_ret
        rw [HR.out]
        exact ⟨rfl, below_trans b1 (below_trans b2' (below_trans b3 b4))⟩
      · have t2' : (z == 31744) = false := by simpa using t2
        have hor : ¬ (31744 < z ∨ z = 31744) := fun h => h.elim t1 t2
        by_cases t3 : z = 0
        · have HR := Lib.hid (show C = 1 by rw [HC.out, if_neg hor, if_pos t3])
          have t3' : (z == 0) = true := by simpa using t3
          clear HC t3 t2 hor
          go_enter Tryd.func59, Tryd.ntmps59
          go_wp2_with fail
          refine (H1.out).mono ?_
          rintro e w1 ⟨rfl, b1⟩
          have bA : Below w1.heap.size w1 (w1.alloc (.cells #[.int .i64 10, .int .i64 (-24), .int .i64 5] 142)) := (Below.refl _ _).alloc (Nat.le_refl _) _
          have c0 : (w1.alloc (.cells #[.int .i64 10, .int .i64 (-24), .int .i64 5] 142)).cell? ⟨w1.heap.size, 0, none⟩ = some (.int .i64 (10)) := World.cell?_alloc_at _ _ _ _ rfl
          have c1 : (w1.alloc (.cells #[.int .i64 10, .int .i64 (-24), .int .i64 5] 142)).cell? ⟨w1.heap.size, 1, none⟩ = some (.int .i64 (-24)) := World.cell?_alloc_at _ _ _ _ rfl
          have c2 : (w1.alloc (.cells #[.int .i64 10, .int .i64 (-24), .int .i64 5] 142)).cell? ⟨w1.heap.size, 2, none⟩ = some (.int .i64 (5)) := World.cell?_alloc_at _ _ _ _ rfl
          have HS2 := Lib.hid (H2.out (w1.alloc (.cells #[.int .i64 10, .int .i64 (-24), .int .i64 5] 142)) ((hS.below b1 (Nat.le_refl _)).below bA (Nat.le_refl _)))
          go_wp2_with fail
          refine (HS2.out).mono ?_
          rintro e w2 ⟨rfl, b2⟩
          have d0 := below_cell b2 (Nat.le_refl _) c0
          have d1 := below_cell b2 (Nat.le_refl _) c1
          have d2 := below_cell b2 (Nat.le_refl _) c2
          have b2' := below_trans bA b2
          go_wp2_with fail
          refine (shinf_16 w2).mono ?_
          rintro e w3 ⟨rfl, b3⟩
          have e0 := below_cell b3 (Nat.le_refl _) d0
          have e1 := below_cell b3 (Nat.le_refl _) d1
          have e2 := below_cell b3 (Nat.le_refl _) d2
          go_wp2_with fail
          refine (shinf_16 w3).mono ?_
          rintro e w4 ⟨rfl, b4⟩
          have g0 := below_cell b4 (Nat.le_refl _) e0
          have g1 := below_cell b4 (Nat.le_refl _) e1
          have g2 := below_cell b4 (Nat.le_refl _) e2
          go_wp2
          go_ret
          rw [HR.out]
          exact ⟨rfl, below_trans b1 (below_trans b2' (below_trans b3 b4))⟩
        · have HR := Lib.hid (show C = z + 1 by rw [HC.out, if_neg hor, if_neg t3, if_neg (by decide)])
          have t3' : (z == 0) = false := by simpa using t3
          have W1 : IntKind.u16.wrap (z + 1) = z + 1 := by rw [IntKind.wrap_u16]; omega
          have W2 : (z + 1) % 65536 = z + 1 := by omega
          clear HC t3 t2 hor
          go_enter Tryd.func59, Tryd.ntmps59
          go_wp2_with fail
          refine (H1.out).mono ?_
          rintro e w1 ⟨rfl, b1⟩
          have bA : Below w1.heap.size w1 (w1.alloc (.cells #[.int .i64 10, .int .i64 (-24), .int .i64 5] 142)) := (Below.refl _ _).alloc (Nat.le_refl _) _
          have c0 : (w1.alloc (.cells #[.int .i64 10, .int .i64 (-24), .int .i64 5] 142)).cell? ⟨w1.heap.size, 0, none⟩ = some (.int .i64 (10)) := World.cell?_alloc_at _ _ _ _ rfl
          have c1 : (w1.alloc (.cells #[.int .i64 10, .int .i64 (-24), .int .i64 5] 142)).cell? ⟨w1.heap.size, 1, none⟩ = some (.int .i64 (-24)) := World.cell?_alloc_at _ _ _ _ rfl
          have c2 : (w1.alloc (.cells #[.int .i64 10, .int .i64 (-24), .int .i64 5] 142)).cell? ⟨w1.heap.size, 2, none⟩ = some (.int .i64 (5)) := World.cell?_alloc_at _ _ _ _ rfl
          have HS2 := Lib.hid (H2.out (w1.alloc (.cells #[.int .i64 10, .int .i64 (-24), .int .i64 5] 142)) ((hS.below b1 (Nat.le_refl _)).below bA (Nat.le_refl _)))
          go_wp2_with fail
          refine (HS2.out).mono ?_
          rintro e w2 ⟨rfl, b2⟩
          have d0 := below_cell b2 (Nat.le_refl _) c0
          have d1 := below_cell b2 (Nat.le_refl _) c1
          have d2 := below_cell b2 (Nat.le_refl _) c2
          have b2' := below_trans bA b2
          go_wp2_with fail
          refine (shinf_16 w2).mono ?_
          rintro e w3 ⟨rfl, b3⟩
          have e0 := below_cell b3 (Nat.le_refl _) d0
          have e1 := below_cell b3 (Nat.le_refl _) d1
          have e2 := below_cell b3 (Nat.le_refl _) d2
          go_wp2_with fail
          refine (shinf_16 w3).mono ?_
          rintro e w4 ⟨rfl, b4⟩
          have g0 := below_cell b4 (Nat.le_refl _) e0
          have g1 := below_cell b4 (Nat.le_refl _) e1
          have g2 := below_cell b4 (Nat.le_refl _) e2
          go_wp2
          go_ret
          rw [HR.out]
          exact ⟨rfl, below_trans b1 (below_trans b2' (below_trans b3 b4))⟩
    · have hx1 := hn1 rfl
      clear hn1 hn2
      have hor : ¬ (31744 < z ∨ x = 31744) := fun h => h.elim t1 (fun e => by omega)
      by_cases t3 : z = 0
      · have HR := Lib.hid (show C = 1 by rw [HC.out, if_neg hor, if_pos t3])
        have t3' : (z == 0) = true := by simpa using t3
        clear HC t3 hor
        go_enter Tryd.func59, Tryd.ntmps59
        go_wp2_with fail
        refine (H1.out).mono ?_
        rintro e w1 ⟨rfl, b1⟩
        have bA : Below w1.heap.size w1 (w1.alloc (.cells #[.int .i64 10, .int .i64 (-24), .int .i64 5] 142)) := (Below.refl _ _).alloc (Nat.le_refl _) _
        have c0 : (w1.alloc (.cells #[.int .i64 10, .int .i64 (-24), .int .i64 5] 142)).cell? ⟨w1.heap.size, 0, none⟩ = some (.int .i64 (10)) := World.cell?_alloc_at _ _ _ _ rfl
        have c1 : (w1.alloc (.cells #[.int .i64 10, .int .i64 (-24), .int .i64 5] 142)).cell? ⟨w1.heap.size, 1, none⟩ = some (.int .i64 (-24)) := World.cell?_alloc_at _ _ _ _ rfl
        have c2 : (w1.alloc (.cells #[.int .i64 10, .int .i64 (-24), .int .i64 5] 142)).cell? ⟨w1.heap.size, 2, none⟩ = some (.int .i64 (5)) := World.cell?_alloc_at _ _ _ _ rfl
        have HS2 := Lib.hid (H2.out (w1.alloc (.cells #[.int .i64 10, .int .i64 (-24), .int .i64 5] 142)) ((hS.below b1 (Nat.le_refl _)).below bA (Nat.le_refl _)))
        go_wp2_with fail
        refine (HS2.out).mono ?_
        rintro e w2 ⟨rfl, b2⟩
        have d0 := below_cell b2 (Nat.le_refl _) c0
        have d1 := below_cell b2 (Nat.le_refl _) c1
        have d2 := below_cell b2 (Nat.le_refl _) c2
        have b2' := below_trans bA b2
        go_wp2_with fail
        refine (shinf_16 w2).mono ?_
        rintro e w3 ⟨rfl, b3⟩
        have e0 := below_cell b3 (Nat.le_refl _) d0
        have e1 := below_cell b3 (Nat.le_refl _) d1
        have e2 := below_cell b3 (Nat.le_refl _) d2
        go_wp2
        go_ret
        rw [HR.out]
        exact ⟨rfl, below_trans b1 (below_trans b2' b3)⟩
      · have HR := Lib.hid (show C = x - 1 by rw [HC.out, if_neg hor, if_neg t3, if_pos rfl])
        have t3' : (z == 0) = false := by simpa using t3
        have W1 : IntKind.u16.wrap (x - 1) = x - 1 := by rw [IntKind.wrap_u16]; omega
        have W2 : (x - 1) % 65536 = x - 1 := by omega
        clear HC t3 hor
        go_enter Tryd.func59, Tryd.ntmps59
        go_wp2_with fail
        refine (H1.out).mono ?_
        rintro e w1 ⟨rfl, b1⟩
        have bA : Below w1.heap.size w1 (w1.alloc (.cells #[.int .i64 10, .int .i64 (-24), .int .i64 5] 142)) := (Below.refl _ _).alloc (Nat.le_refl _) _
        have c0 : (w1.alloc (.cells #[.int .i64 10, .int .i64 (-24), .int .i64 5] 142)).cell? ⟨w1.heap.size, 0, none⟩ = some (.int .i64 (10)) := World.cell?_alloc_at _ _ _ _ rfl
        have c1 : (w1.alloc (.cells #[.int .i64 10, .int .i64 (-24), .int .i64 5] 142)).cell? ⟨w1.heap.size, 1, none⟩ = some (.int .i64 (-24)) := World.cell?_alloc_at _ _ _ _ rfl
        have c2 : (w1.alloc (.cells #[.int .i64 10, .int .i64 (-24), .int .i64 5] 142)).cell? ⟨w1.heap.size, 2, none⟩ = some (.int .i64 (5)) := World.cell?_alloc_at _ _ _ _ rfl
        have HS2 := Lib.hid (H2.out (w1.alloc (.cells #[.int .i64 10, .int .i64 (-24), .int .i64 5] 142)) ((hS.below b1 (Nat.le_refl _)).below bA (Nat.le_refl _)))
        go_wp2_with fail
        refine (HS2.out).mono ?_
        rintro e w2 ⟨rfl, b2⟩
        have d0 := below_cell b2 (Nat.le_refl _) c0
        have d1 := below_cell b2 (Nat.le_refl _) c1
        have d2 := below_cell b2 (Nat.le_refl _) c2
        have b2' := below_trans bA b2
        go_wp2_with fail
        refine (shinf_16 w2).mono ?_
        rintro e w3 ⟨rfl, b3⟩
        have e0 := below_cell b3 (Nat.le_refl _) d0
        have e1 := below_cell b3 (Nat.le_refl _) d1
        have e2 := below_cell b3 (Nat.le_refl _) d2
        go_wp2
        go_ret
        rw [HR.out]
        exact ⟨rfl, below_trans b1 (below_trans b2' b3)⟩
end Go.Proofs.YtmnabilgpndjmaaDoor

/- Printed by law4.py. -/
namespace Go.Proofs.YtmnabilgpndjmaaDoor
open Go.RowKit

theorem lives_near : nearE 16 3 (-1) = 15872 := by
  have h := nearE_exact (W := 16) (by unfold Wide; omega) 3 14 9 (-1) (by decide) (.inr (by decide)) (by decide) (by decide)
  rw [h]
  decide
theorem lives_round : roundW 16 true 3 (-1) false = 48640 := by
  unfold roundW
  rw [show rM 3 false = 3 from rfl, show rE (-1) false = -1 from rfl, lives_near]
  decide

theorem num_three (w : World) : Num (w.alloc (.cells #[.int .u32 3] 76)) (some ⟨w.heap.size, 0, none⟩) 1 1 3 :=
  ⟨Nat.le_refl _, [3], (Blk.made w 76 .u32 [3] _ rfl).rds, Dig.cons (by omega) (by omega) (Dig.nil _), rfl⟩

set_option maxHeartbeats 2000000 in
theorem llives_calls (w : World) (hS : Shapes w) (hT : Tab w) : Calls Tryd.prog 34 #[] w (fun e w' => e = .returned (.bool true) ∧ Below w.heap.size w w') := by
  have P := parts_16 w hS hT 48640 (by omega)
  rw [show pNeg 16 48640 = true by decide, show pM 16 48640 = 3 by decide, show pE 16 48640 = -1 by decide, show pOk 16 48640 = true by decide] at P
  have P1 := Lib.hid P
  clear P
  go_enter Tryd.func34, Tryd.ntmps34
  go_wp2_with fail
  refine (P1.out).mono ?_
  rintro e w1 ⟨rfl, b1⟩
  have bA : Below w1.heap.size w1 (w1.alloc (.cells #[.int .u32 3] 76)) := (Below.refl _ _).alloc (Nat.le_refl _) _
  have a1 := below_trans b1 bA
  have R := round_16 _ (hS.below a1 (Nat.le_refl _)) true _ 1 1 3 (-1) false (num_three w1) (by omega) (by omega)
  rw [lives_round] at R
  have R1 := Lib.hid R
  clear R
  go_wp2_with fail
  refine (R1.out).mono ?_
  rintro e w2 ⟨rfl, b2⟩
  have a2 := below_trans a1 b2
  have N := next_16 w2 (hS.below a2 (Nat.le_refl _)) 48640 (by omega)
  rw [show nextW 16 48640 = 48639 by decide] at N
  have N1 := Lib.hid N
  clear N
  go_wp2_with fail
  refine (N1.out).mono ?_
  rintro e w3 ⟨rfl, b3⟩
  go_wp2
  go_ret
  exact ⟨rfl, below_trans a2 b3⟩
end Go.Proofs.YtmnabilgpndjmaaDoor

/- Printed by law4.py. -/
namespace Go.Proofs.YtmnabilgpndjmaaDoor
open Go.RowKit

theorem lround_0 (w0 : Int) (hw : 0 ≤ w0 ∧ w0 < 256) (hc : w0 % 4 = 0) (w : World) (hS : Shapes w) (neg : Bool) (ad : Option Addr) (n c : Nat) (V p : Int) (more : Bool) (h : Num w ad n c V) (hn : n ≤ 1099511627776) (hp : -9223372036854775808 ≤ p ∧ p < 9223372036854775808) :
    Calls Tryd.prog 24 #[.int .u8 w0, .bool neg, .slice ad n c, .int .i64 p, .bool more] w (fun e w' => e = .returned (.int .u64 (roundW 16 neg V p more)) ∧ Below w.heap.size w w') := by
  have hc2 := tmod4 hw hc
  have H := Lib.hid (round_16 w hS neg ad n c V p more h hn hp)
  have hR := roundW_bd (W := 16) (by unfold Wide; omega) neg V p more
  rw [show (2 : Int) ^ 16 = 65536 from by decide] at hR
  generalize roundW 16 neg V p more = R at *
  have W1 : IntKind.u64.wrap R = R := by rw [IntKind.wrap_u64]; omega
  have W2 : R % 18446744073709551616 = R := by omega
  go_enter Tryd.func24, Tryd.ntmps24
  go_wp2_with fail
  refine (H.out).mono ?_
  rintro e w1 ⟨rfl, b1⟩
  go_wp2
  go_ret
  exact ⟨rfl, b1⟩

theorem lround_1 (w0 : Int) (hw : 0 ≤ w0 ∧ w0 < 256) (hc : w0 % 4 = 1) (w : World) (hS : Shapes w) (neg : Bool) (ad : Option Addr) (n c : Nat) (V p : Int) (more : Bool) (h : Num w ad n c V) (hn : n ≤ 1099511627776) (hp : -9223372036854775808 ≤ p ∧ p < 9223372036854775808) :
    Calls Tryd.prog 24 #[.int .u8 w0, .bool neg, .slice ad n c, .int .i64 p, .bool more] w (fun e w' => e = .returned (.int .u64 (roundW 32 neg V p more)) ∧ Below w.heap.size w w') := by
  have hc2 := tmod4 hw hc
  have H := Lib.hid (round_32 w hS neg ad n c V p more h hn hp)
  have hR := roundW_bd (W := 32) (by unfold Wide; omega) neg V p more
  rw [show (2 : Int) ^ 32 = 4294967296 from by decide] at hR
  generalize roundW 32 neg V p more = R at *
  have W1 : IntKind.u64.wrap R = R := by rw [IntKind.wrap_u64]; omega
  have W2 : R % 18446744073709551616 = R := by omega
  go_enter Tryd.func24, Tryd.ntmps24
  go_wp2_with fail
  refine (H.out).mono ?_
  rintro e w1 ⟨rfl, b1⟩
  go_wp2
  go_ret
  exact ⟨rfl, b1⟩

theorem lround_2 (w0 : Int) (hw : 0 ≤ w0 ∧ w0 < 256) (hc : w0 % 4 = 2) (w : World) (hS : Shapes w) (neg : Bool) (ad : Option Addr) (n c : Nat) (V p : Int) (more : Bool) (h : Num w ad n c V) (hn : n ≤ 1099511627776) (hp : -9223372036854775808 ≤ p ∧ p < 9223372036854775808) :
    Calls Tryd.prog 24 #[.int .u8 w0, .bool neg, .slice ad n c, .int .i64 p, .bool more] w (fun e w' => e = .returned (.int .u64 (roundW 64 neg V p more)) ∧ Below w.heap.size w w') := by
  have hc2 := tmod4 hw hc
  have H := Lib.hid (round_64 w hS neg ad n c V p more h hn hp)
  have hR := roundW_bd (W := 64) (by unfold Wide; omega) neg V p more
  rw [show (2 : Int) ^ 64 = 18446744073709551616 from by decide] at hR
  generalize roundW 64 neg V p more = R at *
  go_enter Tryd.func24, Tryd.ntmps24
  go_wp2_with fail
  refine (H.out).mono ?_
  rintro e w1 ⟨rfl, b1⟩
  go_wp2
  go_ret
  exact ⟨rfl, b1⟩

theorem lround_3 (w0 : Int) (hw : 0 ≤ w0 ∧ w0 < 256) (hc : w0 % 4 = 3) (w : World) (hS : Shapes w) (neg : Bool) (ad : Option Addr) (n c : Nat) (V p : Int) (more : Bool) (h : Num w ad n c V) (hn : n ≤ 1099511627776) (hp : -9223372036854775808 ≤ p ∧ p < 9223372036854775808) :
    Calls Tryd.prog 24 #[.int .u8 w0, .bool neg, .slice ad n c, .int .i64 p, .bool more] w (fun e w' => e = .returned (.int .u64 (roundW 32 neg V p more)) ∧ Below w.heap.size w w') := by
  have hc2 := tmod4 hw hc
  have H := Lib.hid (round_Own w hS neg ad n c V p more h hn hp)
  have hR := roundW_bd (W := 32) (by unfold Wide; omega) neg V p more
  rw [show (2 : Int) ^ 32 = 4294967296 from by decide] at hR
  generalize roundW 32 neg V p more = R at *
  have W1 : IntKind.u64.wrap R = R := by rw [IntKind.wrap_u64]; omega
  have W2 : R % 18446744073709551616 = R := by omega
  go_enter Tryd.func24, Tryd.ntmps24
  go_wp2_with fail
  refine (H.out).mono ?_
  rintro e w1 ⟨rfl, b1⟩
  go_wp2
  go_ret
  exact ⟨rfl, b1⟩

theorem lround_calls (w0 : Int) (hw : 0 ≤ w0 ∧ w0 < 256) (w : World) (hS : Shapes w) (neg : Bool) (ad : Option Addr) (n c : Nat) (V p : Int) (more : Bool) (h : Num w ad n c V) (hn : n ≤ 1099511627776) (hp : -9223372036854775808 ≤ p ∧ p < 9223372036854775808) :
    Calls Tryd.prog 24 #[.int .u8 w0, .bool neg, .slice ad n c, .int .i64 p, .bool more] w (fun e w' => e = .returned (.int .u64 (roundW (wd w0) neg V p more)) ∧ Below w.heap.size w w') := by
  rcases (show w0 % 4 = 0 ∨ w0 % 4 = 1 ∨ w0 % 4 = 2 ∨ w0 % 4 = 3 by omega) with hc | hc | hc | hc
  · simp only [wd_0 hc] at *
    exact lround_0 w0 hw hc w hS neg ad n c V p more h hn hp
  · simp only [wd_1 hc] at *
    exact lround_1 w0 hw hc w hS neg ad n c V p more h hn hp
  · simp only [wd_2 hc] at *
    exact lround_2 w0 hw hc w hS neg ad n c V p more h hn hp
  · simp only [wd_3 hc] at *
    exact lround_3 w0 hw hc w hS neg ad n c V p more h hn hp
end Go.Proofs.YtmnabilgpndjmaaDoor

/- Printed by law4.py. -/
namespace Go.Proofs.YtmnabilgpndjmaaDoor
open Go.RowKit

theorem ltop_0 (w0 : Int) (hw : 0 ≤ w0 ∧ w0 < 256) (hc : w0 % 4 = 0) (w : World) :
    Calls Tryd.prog 36 #[.int .u8 w0] w (fun e w' => e = .returned (.int .u64 (infW 16)) ∧ w = w') := by
  rw [inf16]
  have hc2 := tmod4 hw hc
  go_enter Tryd.func36, Tryd.ntmps36
  go_wp2
  go_ret
  exact ⟨rfl, rfl⟩

theorem ltop_1 (w0 : Int) (hw : 0 ≤ w0 ∧ w0 < 256) (hc : w0 % 4 = 1) (w : World) :
    Calls Tryd.prog 36 #[.int .u8 w0] w (fun e w' => e = .returned (.int .u64 (infW 32)) ∧ w = w') := by
  rw [inf32]
  have hc2 := tmod4 hw hc
  go_enter Tryd.func36, Tryd.ntmps36
  go_wp2
  go_ret
  exact ⟨rfl, rfl⟩

theorem ltop_2 (w0 : Int) (hw : 0 ≤ w0 ∧ w0 < 256) (hc : w0 % 4 = 2) (w : World) :
    Calls Tryd.prog 36 #[.int .u8 w0] w (fun e w' => e = .returned (.int .u64 (infW 64)) ∧ w = w') := by
  rw [inf64]
  have hc2 := tmod4 hw hc
  go_enter Tryd.func36, Tryd.ntmps36
  go_wp2
  go_ret
  exact ⟨rfl, rfl⟩

theorem ltop_3 (w0 : Int) (hw : 0 ≤ w0 ∧ w0 < 256) (hc : w0 % 4 = 3) (w : World) :
    Calls Tryd.prog 36 #[.int .u8 w0] w (fun e w' => e = .returned (.int .u64 (infW 32)) ∧ w = w') := by
  rw [inf32]
  have hc2 := tmod4 hw hc
  go_enter Tryd.func36, Tryd.ntmps36
  go_wp2
  go_ret
  exact ⟨rfl, rfl⟩

theorem ltop_calls (w0 : Int) (hw : 0 ≤ w0 ∧ w0 < 256) (w : World) :
    Calls Tryd.prog 36 #[.int .u8 w0] w (fun e w' => e = .returned (.int .u64 (infW (wd w0))) ∧ w = w') := by
  rcases (show w0 % 4 = 0 ∨ w0 % 4 = 1 ∨ w0 % 4 = 2 ∨ w0 % 4 = 3 by omega) with hc | hc | hc | hc
  · rw [wd_0 hc]
    exact ltop_0 w0 hw hc w
  · rw [wd_1 hc]
    exact ltop_1 w0 hw hc w
  · rw [wd_2 hc]
    exact ltop_2 w0 hw hc w
  · rw [wd_3 hc]
    exact ltop_3 w0 hw hc w

theorem lsign_0 (w0 : Int) (hw : 0 ≤ w0 ∧ w0 < 256) (hc : w0 % 4 = 0) (w : World) :
    Calls Tryd.prog 37 #[.int .u8 w0] w (fun e w' => e = .returned (.int .u64 (sgnW 16)) ∧ w = w') := by
  rw [sgn16]
  have hc2 := tmod4 hw hc
  go_enter Tryd.func37, Tryd.ntmps37
  go_wp2
  go_ret
  exact ⟨rfl, rfl⟩

theorem lsign_1 (w0 : Int) (hw : 0 ≤ w0 ∧ w0 < 256) (hc : w0 % 4 = 1) (w : World) :
    Calls Tryd.prog 37 #[.int .u8 w0] w (fun e w' => e = .returned (.int .u64 (sgnW 32)) ∧ w = w') := by
  rw [sgn32]
  have hc2 := tmod4 hw hc
  go_enter Tryd.func37, Tryd.ntmps37
  go_wp2
  go_ret
  exact ⟨rfl, rfl⟩

theorem lsign_2 (w0 : Int) (hw : 0 ≤ w0 ∧ w0 < 256) (hc : w0 % 4 = 2) (w : World) :
    Calls Tryd.prog 37 #[.int .u8 w0] w (fun e w' => e = .returned (.int .u64 (sgnW 64)) ∧ w = w') := by
  rw [sgn64]
  have hc2 := tmod4 hw hc
  go_enter Tryd.func37, Tryd.ntmps37
  go_wp2
  go_ret
  exact ⟨rfl, rfl⟩

theorem lsign_3 (w0 : Int) (hw : 0 ≤ w0 ∧ w0 < 256) (hc : w0 % 4 = 3) (w : World) :
    Calls Tryd.prog 37 #[.int .u8 w0] w (fun e w' => e = .returned (.int .u64 (sgnW 32)) ∧ w = w') := by
  rw [sgn32]
  have hc2 := tmod4 hw hc
  go_enter Tryd.func37, Tryd.ntmps37
  go_wp2
  go_ret
  exact ⟨rfl, rfl⟩

theorem lsign_calls (w0 : Int) (hw : 0 ≤ w0 ∧ w0 < 256) (w : World) :
    Calls Tryd.prog 37 #[.int .u8 w0] w (fun e w' => e = .returned (.int .u64 (sgnW (wd w0))) ∧ w = w') := by
  rcases (show w0 % 4 = 0 ∨ w0 % 4 = 1 ∨ w0 % 4 = 2 ∨ w0 % 4 = 3 by omega) with hc | hc | hc | hc
  · rw [wd_0 hc]
    exact lsign_0 w0 hw hc w
  · rw [wd_1 hc]
    exact lsign_1 w0 hw hc w
  · rw [wd_2 hc]
    exact lsign_2 w0 hw hc w
  · rw [wd_3 hc]
    exact lsign_3 w0 hw hc w

theorem lnan_0 (w0 : Int) (hw : 0 ≤ w0 ∧ w0 < 256) (hc : w0 % 4 = 0) (w : World) :
    Calls Tryd.prog 48 #[.int .u8 w0] w (fun e w' => e = .returned (.int .u64 (nanW 16)) ∧ w = w') := by
  rw [nan16]
  have hc2 := tmod4 hw hc
  go_enter Tryd.func48, Tryd.ntmps48
  go_wp2
  go_ret
  exact ⟨rfl, rfl⟩

theorem lnan_1 (w0 : Int) (hw : 0 ≤ w0 ∧ w0 < 256) (hc : w0 % 4 = 1) (w : World) :
    Calls Tryd.prog 48 #[.int .u8 w0] w (fun e w' => e = .returned (.int .u64 (nanW 32)) ∧ w = w') := by
  rw [nan32]
  have hc2 := tmod4 hw hc
  go_enter Tryd.func48, Tryd.ntmps48
  go_wp2
  go_ret
  exact ⟨rfl, rfl⟩

theorem lnan_2 (w0 : Int) (hw : 0 ≤ w0 ∧ w0 < 256) (hc : w0 % 4 = 2) (w : World) :
    Calls Tryd.prog 48 #[.int .u8 w0] w (fun e w' => e = .returned (.int .u64 (nanW 64)) ∧ w = w') := by
  rw [nan64]
  have hc2 := tmod4 hw hc
  go_enter Tryd.func48, Tryd.ntmps48
  go_wp2
  go_ret
  exact ⟨rfl, rfl⟩

theorem lnan_3 (w0 : Int) (hw : 0 ≤ w0 ∧ w0 < 256) (hc : w0 % 4 = 3) (w : World) :
    Calls Tryd.prog 48 #[.int .u8 w0] w (fun e w' => e = .returned (.int .u64 (nanW 32)) ∧ w = w') := by
  rw [nan32]
  have hc2 := tmod4 hw hc
  go_enter Tryd.func48, Tryd.ntmps48
  go_wp2
  go_ret
  exact ⟨rfl, rfl⟩

theorem lnan_calls (w0 : Int) (hw : 0 ≤ w0 ∧ w0 < 256) (w : World) :
    Calls Tryd.prog 48 #[.int .u8 w0] w (fun e w' => e = .returned (.int .u64 (nanW (wd w0))) ∧ w = w') := by
  rcases (show w0 % 4 = 0 ∨ w0 % 4 = 1 ∨ w0 % 4 = 2 ∨ w0 % 4 = 3 by omega) with hc | hc | hc | hc
  · rw [wd_0 hc]
    exact lnan_0 w0 hw hc w
  · rw [wd_1 hc]
    exact lnan_1 w0 hw hc w
  · rw [wd_2 hc]
    exact lnan_2 w0 hw hc w
  · rw [wd_3 hc]
    exact lnan_3 w0 hw hc w
end Go.Proofs.YtmnabilgpndjmaaDoor
