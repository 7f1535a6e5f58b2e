/- Contracts of functions, and plain facts, part 14. -/
import Derived.Test.YtgnophflogmmaaaDoorRows
import Derived.Test.YtgnophflogmmaaaDoorPk2
import Derived.Test.YtgnophflogmmaaaDoorPk4
import Derived.Test.YtgnophflogmmaaaDoorPk7
set_option linter.unusedVariables false
set_option linter.unusedSimpArgs false
/- What the bound of a narrowed statement gives: no list is longer than it. -/
namespace Go.Proofs.YtgnophflogmmaaaDoor
open Go.ChangeShapes Go.WideShapes Go.RowKit

theorem bulk_pos {H : Type} (d : DataW H) : 1 ≤ Rows.uptoBulk d := by
  cases d with
  | lit l => cases l <;> simp [Rows.uptoBulk]
  | nil => simp [Rows.uptoBulk]
  | ptr d => simp [Rows.uptoBulk]
  | slice elems spare => simp [Rows.uptoBulk]
  | agg parts => simp [Rows.uptoBulk]
  | iface t d => simp [Rows.uptoBulk]
  | map entries => simp [Rows.uptoBulk]
  | held h => simp [Rows.uptoBulk]
theorem bulk_len {H : Type} : ∀ (l : List (DataW H)), l.length ≤ Rows.uptoBulkAll l
  | [] => by simp [Rows.uptoBulkAll]
  | x :: r => by
    have h1 := bulk_pos x
    have h2 := bulk_len r
    simp only [Rows.uptoBulkAll, List.length_cons]
    omega
theorem bulk_slice {H : Type} (elems spare : List (DataW H)) : elems.length ≤ Rows.uptoBulk (.slice elems spare) := by
  have h1 := bulk_len elems
  simp only [Rows.uptoBulk]
  omega
theorem bulk_all {H : Type} {l : List (DataW H)} (hk : Rows.uptoSmall H l = true) : Rows.uptoBulkAll l ≤ 1048576 := of_decide_eq_true hk
theorem bulk_mem {H : Type} {d : DataW H} {l : List (DataW H)} (h : d ∈ l) : Rows.uptoBulk d ≤ Rows.uptoBulkAll l := by
  induction l with
  | nil => cases h
  | cons x r ih =>
    simp only [Rows.uptoBulkAll]
    rcases List.mem_cons.1 h with rfl | e
    · omega
    · have := ih e
      omega
end Go.Proofs.YtgnophflogmmaaaDoor

/- Decimal texts: told, read, a digit more. Plain. -/
namespace Go.Proofs.YtgnophflogmmaaaDoor

theorem readV_asc : ∀ (xs : List Int), readV (asc xs).reverse = val 10 xs
  | [] => rfl
  | x :: xs => by
    have ih := readV_asc xs
    rw [show asc (x :: xs) = (x + 48) :: asc xs from rfl, List.reverse_cons, readV_snoc, ih]
    simp only [val]
    omega
theorem readV_dec (A : Int) (hA : 0 ≤ A) : readV (decL A) = A := by
  rw [decL_decD, readV_asc, decD_val A hA]
theorem decL_length (A : Int) : (decL A).length = (decD A).length := by rw [decL_decD, List.length_reverse, asc_length]
theorem decL_pos (A : Int) (hA : 0 ≤ A) : 0 < (decL A).length := by rw [decL_length]; exact decD_pos A hA
theorem decL_decs (A : Int) : Decs (decL A) := by
  rw [decL_decD]
  intro c hc
  rw [List.mem_reverse, asc, List.mem_map] at hc
  obtain ⟨y, hy, rfl⟩ := hc
  have := decD_dig A y hy
  omega
theorem decL_top (A : Int) (hA : 0 ≤ A) (h : 1 < (decL A).length) : (decL A)[0]?.getD 0 ≠ 48 := by
  have hA0 : A ≠ 0 := by
    intro e
    rw [e] at h
    simp [decL] at h
  rw [decL_decD] at h ⊢
  unfold decD at h ⊢
  rw [if_neg hA0] at h ⊢
  rw [List.length_reverse, asc_length] at h
  obtain ⟨m, hm⟩ : ∃ m, (dg 10 A).length = m + 1 := ⟨(dg 10 A).length - 1, by omega⟩
  have := norm_last (b := 10) (norm_dg 10 (by omega) A) m hm
  rw [List.getElem?_reverse (by rw [asc_length]; omega), asc_length, hm, Nat.add_sub_cancel, Nat.sub_zero]
  unfold asc
  rw [List.getElem?_map, List.getElem?_eq_getElem (by omega)]
  rw [List.getElem?_eq_getElem (by omega), Option.getD_some] at this
  simp only [Option.map_some, Option.getD_some]
  omega
theorem read_dec (A : Int) (hA : 0 ≤ A) (hl : (dg 4294967296 A).length ≤ 262144) : readOk (decL A) = true ∧ readNum (decL A) = A := by
  have h : readOk (decL A) = true := by
    unfold readOk
    rw [readV_dec A hA]
    have hp := decL_pos A hA
    refine decide_eq_true ⟨List.ne_nil_of_length_pos hp, fun h => ?_, decL_decs A, hl⟩
    rcases Nat.lt_or_ge 1 (decL A).length with h1 | h1
    · exact absurd h (decL_top A hA h1)
    · omega
  refine ⟨h, ?_⟩
  unfold readNum
  rw [if_pos h, readV_dec A hA]
theorem read_zero (cs : List Int) (h : cs ≠ []) : readOk (48 :: cs) = false := by
  unfold readOk
  refine decide_eq_false fun hh => ?_
  have := hh.2.1 rfl
  simp at this
  exact h this
theorem dec_more (A g : Int) (hA : 0 < A) (hg : 0 ≤ g ∧ g < 10) : decL (A * 10 + g) = decL A ++ [48 + g] := by
  unfold decL
  rw [if_neg (by omega), if_neg (by omega), dg_pos 10 _ (by omega) (by omega), show (A * 10 + g) % ((10 : Nat) : Int) = g by omega, show (A * 10 + g) / ((10 : Nat) : Int) = A by omega,
    show asc (g :: dg 10 A) = (g + 48) :: asc (dg 10 A) from rfl, List.reverse_cons, Int.add_comm g 48]
theorem dec_digit (g : Int) (hg : 0 ≤ g ∧ g < 10) : decL g = [48 + g] := by
  unfold decL
  by_cases h : g = 0
  · rw [if_pos h, h]; rfl
  · rw [if_neg h, dg_pos 10 _ (by omega) (by omega), show g % ((10 : Nat) : Int) = g by omega, show g / ((10 : Nat) : Int) = 0 by omega, dg_zero]
    simp [asc, Int.add_comm]
theorem decL_le (A : Int) (hA : 0 ≤ A) (na : Nat) (h : A < 4294967296 ^ na) : (decL A).length ≤ 10 * na + 1 := by
  rw [decL_length]
  unfold decD
  split
  · simp
  · have h2 : A < (10 : Int) ^ (10 * na) := by
      refine Int.lt_of_lt_of_le h ?_
      rw [Int.pow_mul]
      have : ∀ k : Nat, (4294967296 : Int) ^ k ≤ (10 ^ 10) ^ k := by
        intro k
        induction k with
        | zero => simp
        | succ k ih =>
          rw [Int.pow_succ, Int.pow_succ]
          have hp : (0 : Int) < 4294967296 ^ k := Int.pow_pos (by omega)
          generalize (4294967296 : Int) ^ k = P at *
          have e10 : (10 : Int) ^ 10 = 10000000000 := by decide
          rw [e10] at ih ⊢
          generalize (10000000000 : Int) ^ k = Q at *
          omega
      exact this na
    have := dg_length_le 10 (by omega) (10 * na) A h2
    omega
end Go.Proofs.YtgnophflogmmaaaDoor
