/- cruciblelaw01.lives: a sum and a product that are fixed. -/
import Derived.Test.YtemllpbpnndgeaaNAdd
import Derived.Test.YtemllpbpnndgeaaNMul
set_option linter.unusedVariables false
set_option linter.unusedSimpArgs false
namespace Go.Proofs.Ytemllpbpnndgeaa
open Go.RowKit

theorem num_one (w : World) (x : Int) (h : 0 ≤ x ∧ x < 4294967296) : Num (w.alloc (.cells #[.int .u32 x] 28)) (some ⟨w.heap.size, 0, none⟩) 1 1 x := by
  have k0 : Blk (w.alloc (.cells #[.int .u32 x] 28)) w.heap.size 28 .u32 [x] := Blk.made w 28 .u32 [x] _ rfl
  exact ⟨Nat.le_refl _, [x], k0.rds, (by intro y hy; simp at hy; subst hy; exact h), by simp [val]⟩

theorem can_two {w : World} {ad : Option Addr} {n c : Nat} {V : Int} (h : Can w ad n c V) (x y : Int) (hx : 0 ≤ x ∧ x < 4294967296) (hy : 0 < y ∧ y < 4294967296) (hV : V = x + 4294967296 * y) :
    n = 2 ∧ ∃ a, ad = some a ∧ w.cell? a = some (.int .u32 x) ∧ w.cell? (a.add 1) = some (.int .u32 y) := by
  have hd : Dig 4294967296 [x, y] := by intro z hz; simp at hz; rcases hz with rfl | rfl <;> omega
  have e := norm_eq 4294967296 (by omega) hd
  have e2 : norm [x, y] = [x, y] := by
    have : y ≠ 0 := by omega
    simp [norm, this]
  have e3 : val 4294967296 [x, y] = V := by rw [hV]; simp [val]
  rw [show ((4294967296 : Nat) : Int) = 4294967296 from rfl, e2, e3] at e
  have r := h.rds
  rw [← e] at r
  have hl := r.len
  obtain ⟨a, rfl, h0⟩ := r.cell 0 (by simp at hl; omega)
  obtain ⟨a', ha, h1⟩ := r.cell 1 (by simp at hl; omega)
  injection ha with ha
  subst ha
  refine ⟨by simpa using hl.symm, a, rfl, ?_, by simpa using h1⟩
  simpa [Addr.add] using h0

theorem num_pair (w : World) (x y : Int) (hx : 0 ≤ x ∧ x < 4294967296) (hy : 0 ≤ y ∧ y < 4294967296) :
    Num ((w.alloc (.cells #[.int .u32 x] 28)).alloc (.cells #[.int .u32 y] 28)) (some ⟨w.heap.size, 0, none⟩) 1 1 x ∧
    Num ((w.alloc (.cells #[.int .u32 x] 28)).alloc (.cells #[.int .u32 y] 28)) (some ⟨w.heap.size + 1, 0, none⟩) 1 1 y ∧
    Below w.heap.size w ((w.alloc (.cells #[.int .u32 x] 28)).alloc (.cells #[.int .u32 y] 28)) := by
  have b1 : Below w.heap.size w (w.alloc (.cells #[.int .u32 x] 28)) := (Below.refl _ _).alloc (Nat.le_refl _) _
  have n1 := num_one w x hx
  have hs1 : (w.alloc (.cells #[.int .u32 x] 28)).heap.size = w.heap.size + 1 := Array.size_push _
  generalize w.alloc (.cells #[.int .u32 x] 28) = w1 at *
  have b2 : Below w1.heap.size w1 (w1.alloc (.cells #[.int .u32 y] 28)) := (Below.refl _ _).alloc (Nat.le_refl _) _
  have n2 := num_one w1 y hy
  rw [hs1] at n2
  exact ⟨n1.below b2 (Nat.le_refl _), n2, below_trans b1 b2⟩

set_option maxHeartbeats 1000000 in
theorem lives_calls (w : World) : Calls Try.prog 38 #[] w (fun e w' => e = .returned (.bool true) ∧ Below w.heap.size w w') := by
  obtain ⟨n1, n2, b2⟩ := num_pair w 4294967295 1 (by omega) (by omega)
  have h := Lib.hid (num_add _ _ _ _ _ _ _ _ _ n1 n2 (by omega) (by omega))
  clear n1 n2
  go_enter Try.func38, Try.ntmps38
  go_wp2_with fail
  refine (h.out).mono ?_
  clear h
  rintro e w1 ⟨ad1, n, c1, rfl, f1, b⟩
  have b3 := below_trans b2 b
  obtain ⟨rfl, a1, rfl, k1, k2⟩ := can_two f1 0 1 (by omega) (by omega) (by decide)
  clear b b2
  obtain ⟨n1, n2, b2⟩ := num_pair w1 4294967295 4294967295 (by omega) (by omega)
  have g1 := f1.below b2 (Nat.le_refl _)
  have h := Lib.hid (num_mul _ _ _ _ _ _ _ _ _ n1 n2 (by omega) (by omega))
  clear n1 n2 f1 k1 k2
  go_wp2_with fail
  refine (h.out).mono ?_
  clear h
  rintro e w2 ⟨ad2, n2, c2, rfl, f2, b⟩
  have f1 := g1.below b (Nat.le_refl _)
  have b4 := below_trans b3 (below_trans b2 b)
  obtain ⟨-, a1', ha, k1, k2⟩ := can_two f1 0 1 (by omega) (by omega) (by decide)
  injection ha with ha
  subst ha
  obtain ⟨rfl, a2, rfl, k3, k4⟩ := can_two f2 1 4294967294 (by omega) (by omega) (by decide)
  have k1' : w2.cell? (a1.add 0) = some (.int .u32 0) := by simpa [Addr.add] using k1
  have k3' : w2.cell? (a2.add 0) = some (.int .u32 1) := by simpa [Addr.add] using k3
  rw [show a1.add 1 = ⟨a1.block, a1.off + 1, none⟩ from rfl] at k2
  rw [show a2.add 1 = ⟨a2.block, a2.off + 1, none⟩ from rfl] at k4
  clear f1 f2 g1 b b2 b3
  go_wp2
  go_ret
  exact ⟨rfl, b4⟩
end Go.Proofs.Ytemllpbpnndgeaa
