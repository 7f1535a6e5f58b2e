/- Contracts of functions, and plain facts, part 2. -/
import Derived.SizedLaws
import Derived.ChangeSlices
import Derived.OpenShut
import Derived.Test.YtbcbmkeeoognpaaGreatDoorPk1
set_option linter.unusedVariables false
set_option linter.unusedSimpArgs false
/- Long division, a digit at a time: how the digit is guessed and mended. Plain facts on whole numbers. -/
namespace Go.Proofs.YtbcbmkeeoognpaaGreatDoor

/-- The divisor by its two highest digits, what is divided by its three highest ones. -/
structure Win (b P high next ylow x0 x1 x2 wlow Y W : Int) : Prop where
  hb : 2 ≤ b
  hP : 0 < P
  hi : b ≤ 2 * high ∧ high < b
  nx : 0 ≤ next ∧ next < b
  yl : 0 ≤ ylow ∧ ylow < P
  d0 : 0 ≤ x0 ∧ x0 < b
  d1 : 0 ≤ x1 ∧ x1 < b
  d2 : 0 ≤ x2 ∧ x2 < b
  wl : 0 ≤ wlow ∧ wlow < P
  eY : Y = (high * b + next) * P + ylow
  eW : W = ((x0 * b + x1) * b + x2) * P + wlow
  lt : W < b * Y

variable {b P high next ylow x0 x1 x2 wlow Y W : Int}

theorem Win.pos (h : Win b P high next ylow x0 x1 x2 wlow Y W) : 0 < Y ∧ b * P ≤ Y ∧ 0 ≤ W := by
  have hb := h.hb
  have hP := h.hP
  have hi := h.hi
  have h1 : 0 ≤ (high - 1) * b := Int.mul_nonneg (by omega) (by omega)
  have h2 : b ≤ high * b + next := by rw [Int.sub_mul] at h1; have := h.nx; omega
  have h3 : b * P ≤ (high * b + next) * P := Int.mul_le_mul_of_nonneg_right h2 (by omega)
  have h4 : 0 < b * P := Int.mul_pos (by omega) hP
  have h5 : 0 ≤ (x0 * b + x1) * b := Int.mul_nonneg (by have := Int.mul_nonneg h.d0.1 (show 0 ≤ b by omega); have := h.d1; omega) (by omega)
  have h6 : 0 ≤ ((x0 * b + x1) * b + x2) * P := Int.mul_nonneg (by have := h.d2; omega) (by omega)
  have e1 := h.eY
  have e2 := h.eW
  have y1 := h.yl
  have w1 := h.wl
  omega

theorem Win.quot (h : Win b P high next ylow x0 x1 x2 wlow Y W) : 0 ≤ W / Y ∧ W / Y < b ∧ W / Y * Y ≤ W ∧ W < (W / Y + 1) * Y := by
  obtain ⟨p1, p2, p3⟩ := h.pos
  have h1 := Int.emod_add_mul_ediv W Y
  have h2 := Int.emod_nonneg W (show Y ≠ 0 by omega)
  have h3 := Int.emod_lt_of_pos W p1
  have e : Y * (W / Y) = W / Y * Y := Int.mul_comm _ _
  refine ⟨Int.ediv_nonneg p3 (by omega), Int.ediv_lt_of_lt_mul p1 h.lt, by omega, by rw [Int.add_mul]; omega⟩

/-- The highest two digits are no more than b times the divisor's highest, and its next. -/
theorem Win.top (h : Win b P high next ylow x0 x1 x2 wlow Y W) : 0 ≤ x0 * b + x1 ∧ x0 * b + x1 ≤ high * b + next := by
  have hb := h.hb
  have hP := h.hP
  have h0 : 0 ≤ x0 * b := Int.mul_nonneg h.d0.1 (by omega)
  have d1 := h.d1
  refine ⟨by omega, ?_⟩
  -- otherwise W is too great
  rcases Int.lt_or_le (high * b + next) (x0 * b + x1) with hlt | hle
  · exfalso
    have e1 := h.eY
    have e2 := h.eW
    have hl := h.lt
    have yl := h.yl
    have wl := h.wl
    have d2 := h.d2
    generalize high * b + next = t at *
    generalize x0 * b + x1 = u at *
    have k1 : (t + 1) * b ≤ u * b := Int.mul_le_mul_of_nonneg_right (by omega) (by omega)
    have k2 : (t + 1) * b * P ≤ (u * b + x2) * P := Int.mul_le_mul_of_nonneg_right (by omega) (by omega)
    have k3 : b * Y ≤ b * (t * P + P) := Int.mul_le_mul_of_nonneg_left (by omega) (by omega)
    have k4 : b * (t * P + P) = (t + 1) * b * P := by grind
    omega
  · exact hle

/-- What is guessed at first. -/
theorem Win.first (h : Win b P high next ylow x0 x1 x2 wlow Y W) : (x0 * b + x1) / high * high + (x0 * b + x1) % high = x0 * b + x1 ∧ W / Y ≤ (x0 * b + x1) / high ∧ (x0 * b + x1) / high ≤ b + 1 ∧ 0 ≤ (x0 * b + x1) % high ∧ (x0 * b + x1) % high < high := by
  obtain ⟨t1, t2⟩ := h.top
  obtain ⟨q1, q2, q3, q4⟩ := h.quot
  have hb := h.hb
  have hP := h.hP
  have hi := h.hi
  have nx := h.nx
  have e0 := Int.emod_add_mul_ediv (x0 * b + x1) high
  have r0 := Int.emod_nonneg (x0 * b + x1) (show high ≠ 0 by omega)
  have r1 := Int.emod_lt_of_pos (x0 * b + x1) (show 0 < high by omega)
  refine ⟨by rw [Int.mul_comm]; omega, ?_, ?_, r0, r1⟩
  · -- q high b P <= W < (top + 1) b P
    refine (Int.le_ediv_iff_mul_le (by omega)).2 ?_
    have e1 := h.eY
    have e2 := h.eW
    have yl := h.yl
    have wl := h.wl
    have d2 := h.d2
    generalize W / Y = q at *
    generalize x0 * b + x1 = u at *
    have k1 : q * (high * b * P) ≤ q * Y := Int.mul_le_mul_of_nonneg_left (by
      have : 0 ≤ next * P := Int.mul_nonneg nx.1 (by omega)
      rw [e1, Int.add_mul]; omega) q1
    have k2 : W < (u + 1) * (b * P) := by
      have : (u * b + x2) * P ≤ (u * b + b - 1) * P := Int.mul_le_mul_of_nonneg_right (by omega) (by omega)
      have e : (u * b + b - 1) * P + P = (u + 1) * (b * P) := by grind
      omega
    have k3 : (q * high) * (b * P) < (u + 1) * (b * P) := by
      have e : q * (high * b * P) = (q * high) * (b * P) := by grind
      omega
    have := Int.lt_of_mul_lt_mul_right k3 (Int.le_of_lt (Int.mul_pos (by omega) hP))
    omega
  · have : (x0 * b + x1) / high < b + 2 := by
      refine Int.ediv_lt_of_lt_mul (by omega) ?_
      have : (b + 2) * high = b * high + 2 * high := by rw [Int.add_mul]
      have e : b * high = high * b := Int.mul_comm _ _
      omega
    omega

/-- A guess whose rest is b or more is none too great. -/
theorem Win.rest (h : Win b P high next ylow x0 x1 x2 wlow Y W) (g r : Int) (he : g * high + r = x0 * b + x1) (hr : b ≤ r) (hg0 : 0 ≤ g) : g < b ∧ g * next ≤ r * b + x2 := by
  obtain ⟨t1, t2⟩ := h.top
  have hb := h.hb
  have hi := h.hi
  have nx := h.nx
  have d2 := h.d2
  have h1 : g < b := by
    rcases Int.lt_or_le g b with h1 | h1
    · exact h1
    · exfalso
      have := Int.mul_le_mul_of_nonneg_right h1 (show 0 ≤ high by omega)
      have e : b * high = high * b := Int.mul_comm _ _
      omega
  refine ⟨h1, ?_⟩
  have k1 : g * next ≤ g * b := Int.mul_le_mul_of_nonneg_left (by omega) hg0
  have k2 : g * b ≤ b * b := Int.mul_le_mul_of_nonneg_right (by omega) (by omega)
  have k3 : b * b ≤ r * b := Int.mul_le_mul_of_nonneg_right hr (by omega)
  omega

/-- The guess that stays is the digit or one more. -/
theorem Win.near (h : Win b P high next ylow x0 x1 x2 wlow Y W) (g r : Int) (he : g * high + r = x0 * b + x1) (hg0 : 0 ≤ g) (hg : g < b) (hn : g * next ≤ r * b + x2) : g ≤ W / Y + 1 := by
  obtain ⟨p1, p2, p3⟩ := h.pos
  have hb := h.hb
  have hP := h.hP
  have e1 := h.eY
  have e2 := h.eW
  have yl := h.yl
  have wl := h.wl
  have k0 : g * (high * b + next) = (x0 * b + x1) * b - r * b + g * next := by
    rw [← he]; grind
  have k1 : g * (high * b + next) * P ≤ ((x0 * b + x1) * b + x2) * P := Int.mul_le_mul_of_nonneg_right (by omega) (by omega)
  have k2 : g * ylow ≤ g * P := Int.mul_le_mul_of_nonneg_left (by omega) hg0
  have k3 : g * P ≤ (b - 1) * P := Int.mul_le_mul_of_nonneg_right (by omega) (by omega)
  have k4 : g * Y = g * (high * b + next) * P + g * ylow := by rw [e1, Int.mul_add, Int.mul_assoc]
  rw [Int.sub_mul, Int.one_mul] at k3
  have k5 : (g - 1) * Y < W := by rw [Int.sub_mul, Int.one_mul]; omega
  have : g - 1 ≤ W / Y := (Int.le_ediv_iff_mul_le p1).2 (by omega)
  omega

/-- The digit once the guess was taken off. -/
theorem Win.digit (h : Win b P high next ylow x0 x1 x2 wlow Y W) (g : Int) (h1 : W / Y ≤ g) (h2 : g ≤ W / Y + 1) : (g * Y ≤ W → g = W / Y ∧ W - g * Y = W % Y) ∧ (W < g * Y → g - 1 = W / Y ∧ W - g * Y + Y = W % Y) := by
  obtain ⟨q1, q2, q3, q4⟩ := h.quot
  have hm := Int.emod_add_mul_ediv W Y
  rw [Int.mul_comm] at hm
  rcases (show g = W / Y ∨ g = W / Y + 1 by omega) with e | e
  · constructor
    · intro _; rw [← e] at hm; exact ⟨e, by omega⟩
    · intro k; rw [← e] at q3; omega
  · constructor
    · intro k; rw [e] at k; omega
    · intro _
      have e3 : g - 1 = W / Y := by omega
      have e4 : W / Y * Y = g * Y - Y := by rw [← e3, Int.sub_mul, Int.one_mul]
      exact ⟨e3, by omega⟩
end Go.Proofs.YtbcbmkeeoognpaaGreatDoor


/- From a row's readings to what the walks ask: a slice of whole numbers, a whole number. -/
namespace Go.Proofs.YtbcbmkeeoognpaaGreatDoor
open Go.ChangeShapes Go.WideShapes Go.RowKit

/-- The law holds: true, and nothing that was there has turned. -/
def LawTrue (w : World) (e : Ending) (w' : World) : Prop := e = .returned (.bool true) ∧ Below w.heap.size w w'

/-- A slice of whole numbers as the form reads it. -/
def IsRow (k : IntKind) (w : World) (a : Option Addr) (len cap : Nat) (zs : List Int) : Prop :=
  (a = none ∧ len = 0 ∧ cap = 0 ∧ zs = []) ∨
  ∃ x, a = some x ∧ len ≤ cap ∧ cap ≤ maxLen ∧ zs.length = cap ∧ (∀ i, i < zs.length → w.cell? (x.add i) = some (.int k (zs.getD i 0))) ∧ ∀ n ∈ zs, (Lit.int k n).wf = true

theorem IsRow.rds {k : IntKind} {w : World} {a : Option Addr} {len cap : Nat} {zs : List Int} (h : IsRow k w a len cap zs) : Rds w k a len (zs.take len) := by
  rcases h with ⟨rfl, rfl, rfl, rfl⟩ | ⟨x, rfl, h1, h2, h3, h4, h5⟩
  · exact Rds.nil _ _ _
  · refine ⟨by rw [List.length_take]; omega, fun j hj => ⟨x, rfl, ?_⟩⟩
    rw [h4 j (by omega), List.getElem?_take_of_lt hj, List.getD_eq_getElem?_getD]
theorem IsRow.none {k : IntKind} {w : World} {a : Option Addr} {len cap : Nat} {zs : List Int} (h : IsRow k w a len cap zs) : a = none → cap = 0 := by
  rcases h with ⟨rfl, rfl, rfl, rfl⟩ | ⟨x, rfl, h1, _⟩
  · exact fun _ => rfl
  · exact fun h => by cases h
theorem IsRow.le {k : IntKind} {w : World} {a : Option Addr} {len cap : Nat} {zs : List Int} (h : IsRow k w a len cap zs) : len ≤ cap := by
  rcases h with ⟨rfl, rfl, rfl, rfl⟩ | ⟨x, rfl, h1, _⟩
  · exact Nat.le_refl _
  · exact h1
theorem IsRow.wf {k : IntKind} {w : World} {a : Option Addr} {len cap : Nat} {zs : List Int} (h : IsRow k w a len cap zs) : ∀ n ∈ zs.take len, (Lit.int k n).wf = true := by
  intro n hn
  have hn := List.mem_of_mem_take hn
  rcases h with ⟨rfl, rfl, rfl, rfl⟩ | ⟨x, rfl, h1, h2, h3, h4, h5⟩
  · cases hn
  · exact h5 n hn
theorem wf_u8 {x : Int} (h : (Lit.int .u8 x).wf = true) : 0 ≤ x ∧ x < 256 := by
  have := bounds_u8 h
  omega
theorem wf_u32 {x : Int} (h : (Lit.int .u32 x).wf = true) : 0 ≤ x ∧ x < 4294967296 := by
  have := bounds_u32 h
  omega
theorem wf_u64 {x : Int} (h : (Lit.int .u64 x).wf = true) : 0 ≤ x ∧ x < 18446744073709551616 := by
  have := bounds_u64 h
  omega
theorem IsRow.dig {w : World} {a : Option Addr} {len cap : Nat} {zs : List Int} (h : IsRow .u32 w a len cap zs) : Dig 4294967296 (zs.take len) := fun n hn => wf_u32 (h.wf n hn)

end Go.Proofs.YtbcbmkeeoognpaaGreatDoor

