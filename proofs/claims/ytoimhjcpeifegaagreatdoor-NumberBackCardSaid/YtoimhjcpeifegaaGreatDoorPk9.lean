/- Contracts of functions, and plain facts, part 9. -/
import Derived.Test.YtoimhjcpeifegaaGreatDoorProg
import Derived.Deep.QuietTactic
import Derived.BigQuiet
import Derived.Laws.Rows
import Derived.Test.YtoimhjcpeifegaaGreatDoorPk1
import Derived.Test.YtoimhjcpeifegaaGreatDoorPk2
import Derived.Test.YtoimhjcpeifegaaGreatDoorPk4
import Derived.Test.YtoimhjcpeifegaaGreatDoorPk6
import Derived.Test.YtoimhjcpeifegaaGreatDoorPk7
set_option linter.unusedVariables false
set_option linter.unusedSimpArgs false
/- Patterns of bits as numbers: plain facts, no program. -/
namespace Go.Proofs.YtoimhjcpeifegaaGreatDoor

/-- The size z of a pattern as a number of least steps (F digits of fraction). -/
def numN (F z : Nat) : Nat := if z < 2 ^ F then z else (2 ^ F + z % 2 ^ F) * 2 ^ (z / 2 ^ F - 1)

theorem numN_at (F d k : Nat) (h1 : d = 0 ∨ 2 ^ F ≤ k) (h2 : k ≤ 2 ^ (F + 1)) : numN F (d * 2 ^ F + k) = k * 2 ^ d := by
  have hP := Nat.two_pow_pos F
  rw [Nat.pow_succ] at h2
  unfold numN
  rcases Nat.lt_or_ge k (2 ^ F) with hk | hk
  · have hd : d = 0 := by omega
    subst hd
    rw [Nat.zero_mul, Nat.zero_add, if_pos hk]
    simp
  · rw [if_neg (by have := Nat.le_add_left k (d * 2 ^ F); omega)]
    rcases Nat.lt_or_ge k (2 ^ F * 2) with hk2 | hk2
    · have e : d * 2 ^ F + k = (k - 2 ^ F) + 2 ^ F * (d + 1) := by rw [Nat.mul_add, Nat.mul_comm d]; omega
      rw [e, Nat.add_mul_mod_self_left, Nat.add_mul_div_left _ _ hP, Nat.mod_eq_of_lt (by omega), Nat.div_eq_of_lt (by omega), Nat.zero_add, Nat.add_sub_cancel, Nat.add_sub_cancel' hk]
    · have hk3 : k = 2 ^ F * 2 := by omega
      have e : d * 2 ^ F + k = 0 + 2 ^ F * (d + 2) := by rw [Nat.mul_add, Nat.mul_comm d]; omega
      rw [e, Nat.add_mul_mod_self_left, Nat.add_mul_div_left _ _ hP, Nat.zero_mod, Nat.zero_div, Nat.zero_add, hk3, show d + 2 - 1 = d + 1 by omega, Nat.pow_succ, Nat.add_zero]
      rw [Nat.mul_assoc, Nat.mul_comm 2]

/-- Every size in that form. -/
theorem size_form (F z : Nat) : ∃ d k, z = d * 2 ^ F + k ∧ (d = 0 ∨ 2 ^ F ≤ k) ∧ k < 2 ^ (F + 1) := by
  have hP := Nat.two_pow_pos F
  rcases Nat.lt_or_ge z (2 ^ F) with h | h
  · exact ⟨0, z, by omega, .inl rfl, by rw [Nat.pow_succ]; omega⟩
  · refine ⟨z / 2 ^ F - 1, 2 ^ F + z % 2 ^ F, ?_, .inr (Nat.le_add_right _ _), ?_⟩
    · have h1 := Nat.div_add_mod z (2 ^ F)
      have h2 : 1 ≤ z / 2 ^ F := (Nat.le_div_iff_mul_le hP).2 (by omega)
      obtain ⟨q, hq⟩ : ∃ q, z / 2 ^ F = q + 1 := ⟨z / 2 ^ F - 1, by omega⟩
      rw [hq] at h1 ⊢
      rw [Nat.mul_add] at h1
      rw [Nat.add_sub_cancel, Nat.mul_comm q]
      omega
    · have := Nat.mod_lt z hP
      rw [Nat.pow_succ]
      omega

theorem numN_succ (F z : Nat) : ∃ d k, z = d * 2 ^ F + k ∧ (d = 0 ∨ 2 ^ F ≤ k) ∧ k < 2 ^ (F + 1) ∧ numN F z = k * 2 ^ d ∧ numN F (z + 1) = (k + 1) * 2 ^ d := by
  obtain ⟨d, k, rfl, h1, h2⟩ := size_form F z
  exact ⟨d, k, rfl, h1, h2, numN_at F d k h1 (by omega), by rw [Nat.add_assoc]; exact numN_at F d (k + 1) (by omega) (by omega)⟩

theorem numN_lt_succ (F z : Nat) : numN F z < numN F (z + 1) := by
  obtain ⟨d, k, -, -, -, e1, e2⟩ := numN_succ F z
  rw [e1, e2]
  exact Nat.mul_lt_mul_of_pos_right (by omega) (Nat.two_pow_pos d)

theorem numN_mono (F : Nat) {a b : Nat} (h : a ≤ b) : numN F a ≤ numN F b := by
  induction h with
  | refl => exact Nat.le_refl _
  | step _ ih => exact Nat.le_of_lt (Nat.lt_of_le_of_lt ih (numN_lt_succ F _))

/-- r is the size of the nearest pattern to X; U: the least step; I: the first size that is no finite one's. -/
def Nearest (F I U X r : Nat) : Prop :=
  ∃ low, low ≤ I ∧ numN F low * U ≤ X ∧ (low < I → X < numN F (low + 1) * U) ∧
    r = if low = I then I else if (numN F low + numN F (low + 1)) * U < 2 * X ∨ (2 * X = (numN F low + numN F (low + 1)) * U ∧ low % 2 = 1) then low + 1 else low

theorem low_unique (F I U X a b : Nat) (ha : a ≤ I) (hb : b ≤ I) (a1 : numN F a * U ≤ X) (a2 : a < I → X < numN F (a + 1) * U) (b1 : numN F b * U ≤ X) (b2 : b < I → X < numN F (b + 1) * U) : a = b := by
  rcases Nat.lt_trichotomy a b with h | h | h
  · exfalso
    have := a2 (by omega)
    have m := Nat.mul_le_mul_right U (numN_mono F (show a + 1 ≤ b from h))
    omega
  · exact h
  · exfalso
    have := b2 (by omega)
    have m := Nat.mul_le_mul_right U (numN_mono F (show b + 1 ≤ a from h))
    omega

theorem Nearest.unique {F I U X r s : Nat} (h : Nearest F I U X r) (k : Nearest F I U X s) : r = s := by
  obtain ⟨a, a0, a1, a2, rfl⟩ := h
  obtain ⟨b, b0, b1, b2, rfl⟩ := k
  obtain rfl := low_unique F I U X a b a0 b0 a1 a2 b1 b2
  rfl

/-- The same number in finer steps. -/
theorem Nearest.scale {F I U X r : Nat} (h : Nearest F I U X r) (c : Nat) (hc : 0 < c) : Nearest F I (U * c) (X * c) r := by
  obtain ⟨a, a0, a1, a2, e⟩ := h
  refine ⟨a, a0, by rw [← Nat.mul_assoc]; exact Nat.mul_le_mul_right c a1, fun h => by rw [← Nat.mul_assoc]; exact Nat.mul_lt_mul_of_pos_right (a2 h) hc, ?_⟩
  rw [e, ← Nat.mul_assoc, ← Nat.mul_assoc]
  have i1 : (numN F a + numN F (a + 1)) * U * c < 2 * X * c ↔ (numN F a + numN F (a + 1)) * U < 2 * X := Nat.mul_lt_mul_right hc
  have i2 : 2 * X * c = (numN F a + numN F (a + 1)) * U * c ↔ 2 * X = (numN F a + numN F (a + 1)) * U := Nat.mul_left_inj (by omega)
  simp only [i1, i2]

/-- The direct way: so many digits, cut, and rounded. W: 2^d steps. -/
theorem nearest_direct (F I U X d k : Nat) (hk : k = X / (2 ^ d * U)) (hU : 0 < U) (h1 : d = 0 ∨ 2 ^ F ≤ k) (h2 : k < 2 ^ (F + 1)) (hI : d * 2 ^ F + k < I) (hF : d = 0 ∨ 0 < F) :
    Nearest F I U X (d * 2 ^ F + (if 2 ^ d * U < 2 * (X % (2 ^ d * U)) ∨ (2 * (X % (2 ^ d * U)) = 2 ^ d * U ∧ k % 2 = 1) then k + 1 else k)) := by
  have hW : 0 < 2 ^ d * U := Nat.mul_pos (Nat.two_pow_pos d) hU
  have hX := Nat.div_add_mod X (2 ^ d * U)
  have hr := Nat.mod_lt X hW
  rw [← hk] at hX
  have n1 := numN_at F d k h1 (by omega)
  have n2 := numN_at F d (k + 1) (by omega) (by omega)
  have e1 : k * 2 ^ d * U = 2 ^ d * U * k := by rw [Nat.mul_assoc, Nat.mul_comm]
  have e2 : (k + 1) * 2 ^ d * U = 2 ^ d * U * k + 2 ^ d * U := by rw [Nat.mul_assoc, Nat.mul_comm, Nat.mul_add, Nat.mul_one]
  refine ⟨d * 2 ^ F + k, Nat.le_of_lt hI, by rw [n1, e1]; omega, fun _ => by rw [Nat.add_assoc, n2, e2]; omega, ?_⟩
  rw [if_neg (Nat.ne_of_lt hI), Nat.add_assoc (d * 2 ^ F), n1, n2, Nat.add_mul, e1, e2]
  have par : (d * 2 ^ F + k) % 2 = k % 2 := by
    rcases hF with h | h
    · subst h; simp
    · obtain ⟨f, rfl⟩ : ∃ f, F = f + 1 := ⟨F - 1, by omega⟩
      rw [Nat.pow_succ, ← Nat.mul_assoc]
      omega
  rw [par]
  have i1 : (2 ^ d * U * k + (2 ^ d * U * k + 2 ^ d * U) < 2 * X) ↔ 2 ^ d * U < 2 * (X % (2 ^ d * U)) := by omega
  have i2 : (2 * X = 2 ^ d * U * k + (2 ^ d * U * k + 2 ^ d * U)) ↔ 2 * (X % (2 ^ d * U)) = 2 ^ d * U := by omega
  simp only [i1, i2]
  split <;> rfl

/-- Too great. -/
theorem nearest_inf (F I U X : Nat) (h : numN F I * U ≤ X) : Nearest F I U X I := ⟨I, Nat.le_refl _, h, fun h => absurd h (Nat.lt_irrefl _), by rw [if_pos rfl]⟩

/-- Less than a half of the least step. -/
theorem nearest_zero (F I U X : Nat) (hI : 0 < I) (h : 2 * X < U) : Nearest F I U X 0 := by
  have n0 : numN F 0 = 0 := by
    unfold numN
    rw [if_pos (Nat.two_pow_pos F)]
  have n1 : numN F 1 = 1 := by
    have := numN_at F 0 1 (.inl rfl) (Nat.one_le_two_pow)
    simpa using this
  refine ⟨0, Nat.zero_le _, by rw [n0]; omega, fun _ => by rw [Nat.zero_add, n1]; omega, ?_⟩
  rw [if_neg (by omega), Nat.zero_add, n0, n1, if_neg (by omega)]
end Go.Proofs.YtoimhjcpeifegaaGreatDoor


/- nat.Uint: the number, if it is below 2 to the 64. -/
namespace Go.Proofs.YtoimhjcpeifegaaGreatDoor
open Go.RowKit

theorem fits_len (xs : List Int) (dx : Dig 4294967296 xs) : (norm xs).length ≤ 2 ↔ val 4294967296 xs < 18446744073709551616 := by
  have h0 := val_nonneg (b := 4294967296) (by omega) dx
  have e := norm_eq 4294967296 (by omega) dx
  rw [e]
  have := dg_len_iff 4294967296 (by omega) 2 (val 4294967296 xs) h0
  simpa using this

theorem or_up (l h : Int) (hl : 0 ≤ l ∧ l < 4294967296) (hh : 0 ≤ h ∧ h < 4294967296) : bits .or .u64 l (h * 4294967296) = l + h * 4294967296 := by
  obtain ⟨h, rfl⟩ := Int.eq_ofNat_of_zero_le hh.1
  obtain ⟨l, rfl⟩ := Int.eq_ofNat_of_zero_le hl.1
  have e : ((h : Int) * 4294967296) = ((h * 4294967296 : Nat) : Int) := by simp
  rw [e, bits_or_u64_nat _ _ (by omega) (by omega), Nat.or_comm, nat_join 32 _ _ (by omega) (by omega)]
  omega
theorem or_zero64 (l : Int) (hl : 0 ≤ l ∧ l < 4294967296) : bits .or .u64 0 l = l := by
  obtain ⟨l, rfl⟩ := Int.eq_ofNat_of_zero_le hl.1
  have := bits_or_u64_nat 0 l (by omega) (by omega)
  simpa using this

set_option maxHeartbeats 400000 in
theorem uint_calls (ad : Option Addr) (n c : Nat) (la : List Int) (w : World) (hn : n ≤ 9223372036854775807) (hnc : n ≤ c) (hr : Rds w .u32 ad n la) (da : Dig 4294967296 la) :
    Calls Tryz.prog 122 #[.slice ad n c] w fun e w' => e = .returned (.tuple #[.int .u64 (low64 (val 4294967296 la)), .bool (fits64 (val 4294967296 la))]) ∧ w = w' := by
  have hc := Lib.hid (cut_calls ad n c la w (by omega) hnc hr)
  have rx := hr.norm
  have dx := norm_dig da
  have hF := fits_len la da
  have hma := norm_length_le la
  rw [hr.len] at hma
  rw [← val_norm 4294967296 la] at hF ⊢
  clear hr da
  generalize norm la = xs at *
  obtain ⟨m, hm⟩ : ∃ m, xs.length = m := ⟨_, rfl⟩
  rw [hm] at hc rx hF hma
  have HM := Lib.hid hm
  clear hm
  by_cases h2 : m ≤ 2
  · have HV := Lib.hid (hF.1 h2)
    have HL := Lib.hid (show low64 (val 4294967296 xs) = val 4294967296 xs by unfold low64; rw [if_pos HV.out])
    have HB := Lib.hid (show fits64 (val 4294967296 xs) = true from decide_eq_true HV.out)
    clear hF
    go_enter Tryz.func122, Tryz.ntmps122
    go_wp2_with fail
    refine (hc.out).mono ?_
    rintro e w' ⟨rfl, rfl⟩
    go_wp2_with fail
    go_loop [13, 4] (fun i acc => ∃ k : Nat, k ≤ m ∧ i = .int .i64 k ∧ acc = .int .u64 (val 4294967296 (xs.take k))) (fun i _ => m - (intOf i).toNat)
    case atStart => exact ⟨0, Nat.zero_le _, rfl, by simp [val]⟩
    case round =>
      obtain ⟨k, hk, rfl, rfl⟩ := hrel
      by_cases hkm : k < m
      · obtain ⟨a, rfl, hxl⟩ := rx.cell k hkm
        have bx := dx.get (by omega) k
        have hs := Lib.hid (val_take_succ' 4294967296 xs k)
        have b0 := val_nonneg (b := 4294967296) (by omega) (dx.take k)
        have b1 := val_lt (b := 4294967296) (by omega) (dx.take k)
        rw [List.length_take, HM.out, Nat.min_eq_left (by omega)] at b1
        generalize xs[k]?.getD 0 = x at *
        rcases (show k = 0 ∨ k = 1 by omega) with rfl | rfl
        · have B := or_zero64 x bx
          have hxl' : w.cell? a = some (.int .u32 x) := by simpa [Addr.add] using hxl
          have HS := Lib.hid (show val 4294967296 (xs.take (0 + 1)) = x by rw [hs.out]; simp [val])
          rw [show val 4294967296 (xs.take 0) = 0 by simp [val]]
          clear b0 b1 hs
          go_wp2
          go_round
          case rel => exact ⟨0 + 1, by omega, rfl, by rw [HS.out]⟩
          case measure => simp [intOf]; omega
        · simp only [Int.pow_one] at b1 hs
          have B := or_up (val 4294967296 (xs.take 1)) x ⟨b0, b1⟩ bx
          have hxl' : w.cell? ⟨a.block, a.off + 1, none⟩ = some (.int .u32 x) := by simpa [Addr.add] using hxl
          have HS := Lib.hid (show val 4294967296 (xs.take (1 + 1)) = val 4294967296 (xs.take 1) + x * 4294967296 by rw [hs.out, Int.mul_comm x])
          clear hs
          generalize val 4294967296 (xs.take 1) = v at *
          go_wp2
          go_round
          case rel => exact ⟨1 + 1, by omega, rfl, by rw [HS.out]⟩
          case measure => simp [intOf]; omega
      · obtain rfl : k = m := by omega
        have HT := Lib.hid (show val 4294967296 (xs.take k) = val 4294967296 xs by rw [← HM.out, List.take_length])
        go_wp2
        go_ret2
        rw [HL.out, HB.out, ← HT.out]
        exact ⟨rfl, rfl⟩
  · have HV := Lib.hid (fun h => h2 (hF.2 h))
    have HL := Lib.hid (show low64 (val 4294967296 xs) = 0 by unfold low64; rw [if_neg HV.out])
    have HB := Lib.hid (show fits64 (val 4294967296 xs) = false from decide_eq_false HV.out)
    clear hF
    have h3 : (2 : Int) < (m : Int) := by omega
    go_enter Tryz.func122, Tryz.ntmps122
    go_wp2_with fail
    refine (hc.out).mono ?_
    rintro e w' ⟨rfl, rfl⟩
    go_wp2
    go_ret2
    rw [HL.out, HB.out]
    exact ⟨rfl, rfl⟩
end Go.Proofs.YtoimhjcpeifegaaGreatDoor


/- cruciblelaw01: BeyondNat, LeftNat. -/
namespace Go.Proofs.YtoimhjcpeifegaaGreatDoor
open Go.RowKit



/-- The numbers of places of so many lists, each one more. -/
def parts : List Nat → Nat
  | [] => 0
  | n :: l => n + 1 + parts l

end Go.Proofs.YtoimhjcpeifegaaGreatDoor


/- Norm by worth alone. -/
namespace Go.Proofs.YtoimhjcpeifegaaGreatDoor
open Go.RowKit

theorem num_norm (ad : Option Addr) (n c : Nat) (V : Int) (w : World) (h : Num w ad n c V) (hn : n ≤ 70368744177663) :
    Calls Tryz.prog 161 #[.slice ad n c] w (RetC V w) := by
  obtain ⟨xs, h1, h2, rfl⟩ := h.row
  exact (norm_calls ad n c xs w (by omega) h.le h1 h2).mono fun e w' q => q.can
end Go.Proofs.YtoimhjcpeifegaaGreatDoor


/- A block of few cells of the call's own (a struct in memory), known whole. -/
namespace Go.Proofs.YtoimhjcpeifegaaGreatDoor
open Go.RowKit

theorem Num.nonneg {w : World} {ad : Option Addr} {n c : Nat} {V : Int} (h : Num w ad n c V) : 0 ≤ V := by
  obtain ⟨xs, h1, h2, rfl⟩ := h.row
  exact val_nonneg (by omega) h2
theorem Num.lt {w : World} {ad : Option Addr} {n c : Nat} {V : Int} (h : Num w ad n c V) : V < 4294967296 ^ n := by
  obtain ⟨xs, h1, h2, rfl⟩ := h.row
  have := val_lt (by omega) h2
  rwa [h1.len] at this

def Cel (w : World) (b : Nat) (t : TypeId) (cs : List Value) : Prop := w.heap[b]? = some (.cells cs.toArray t (0, 0))
theorem Cel.lt {w : World} {b : Nat} {t : TypeId} {cs : List Value} (h : Cel w b t cs) : b < w.heap.size := (Array.getElem?_eq_some_iff.1 h).1
theorem Cel.cell {w : World} {b : Nat} {t : TypeId} {cs : List Value} (h : Cel w b t cs) (j : Nat) (v : Value) (hj : cs[j]? = some v) : w.cell? ⟨b, j, none⟩ = some v := by
  unfold Cel at h
  simp [World.cell?, h, hj]
theorem Cel.free {w : World} {b : Nat} {t : TypeId} {cs : List Value} (h : Cel w b t cs) (j : Nat) : w.frozen? ⟨b, j, none⟩ = false := by
  unfold Cel at h
  simp [World.frozen?, h]
theorem Cel.set {w : World} {b : Nat} {t : TypeId} {cs : List Value} (h : Cel w b t cs) (j : Nat) (v : Value) : Cel (w.setCell ⟨b, j, none⟩ v) b t (cs.set j v) := by
  unfold Cel at *
  simp only [World.setCell, Array.getElem?_modify, h, if_true, Option.map_some, Option.isSome_none]
  simp
theorem Cel.below {w w1 : World} {b : Nat} {t : TypeId} {cs : List Value} (h : Cel w b t cs) {B : Nat} (hb : Below B w w1) (hB : b < B) : Cel w1 b t cs := (hb.block b hB).trans h
theorem Cel.next {w w1 : World} {b : Nat} {t : TypeId} {cs : List Value} (h : Cel w b t cs) (hb : Below w.heap.size w w1) : Cel w1 b t cs := h.below hb h.lt
theorem Cel.made (w : World) (t : TypeId) (cs : List Value) (b : Nat) (hb : b = w.heap.size) : Cel (w.alloc (.cells cs.toArray t)) b t cs := by
  subst hb
  exact heap_alloc_new w _
theorem Cel.drewN {w : World} {b : Nat} {t : TypeId} {cs : List Value} (h : Cel w b t cs) (n : Nat) : Cel (w.drewN n) b t cs := h
theorem Cel.row {w : World} {b : Nat} {t : TypeId} {cs : List Value} (h : Cel w b t cs) : w.heap[b]? = some (.cells cs.toArray t (0, 0)) := h

/-- A store into a cell that holds no number leaves lists of numbers alone. -/
theorem Rds.poke {w : World} {k : IntKind} {ad : Option Addr} {n : Nat} {xs : List Int} (h : Rds w k ad n xs) (p : Addr) (u v : Value) (hp : w.cell? p = some u) (hu : ∀ x, u ≠ .int k x) : Rds (w.setCell p v) k ad n xs := by
  refine ⟨h.len, fun j hj => ?_⟩
  obtain ⟨a, e, hc⟩ := h.cell j hj
  refine ⟨a, e, ?_⟩
  rw [World.cell?_setCell_other, hc]
  intro e2
  rw [e2, hc] at hp
  injection hp with hp
  exact hu _ hp.symm
theorem Num.poke {w : World} {ad : Option Addr} {n c : Nat} {V : Int} (h : Num w ad n c V) (p : Addr) (u v : Value) (hp : w.cell? p = some u) (hu : ∀ x, u ≠ .int .u32 x) : Num (w.setCell p v) ad n c V := by
  obtain ⟨xs, h1, h2, h3⟩ := h.row
  exact ⟨h.le, xs, h1.poke p u v hp hu, h2, h3⟩
theorem Can.poke {w : World} {ad : Option Addr} {n c : Nat} {V : Int} (h : Can w ad n c V) (p : Addr) (u v : Value) (hp : w.cell? p = some u) (hu : ∀ x, u ≠ .int .u32 x) : Can (w.setCell p v) ad n c V := ⟨h.le, h.rds.poke p u v hp hu⟩
/-- Both cells of a whole number in memory written over. -/
theorem Can.poke2 {w : World} {ad : Option Addr} {n c : Nat} {V : Int} (h : Can w ad n c V) {b : Nat} {t : TypeId} {b0 : Bool} {a0 : Option Addr} {n0 c0 : Nat} (k : Cel w b t [.bool b0, .slice a0 n0 c0]) (v0 v1 : Value) : Can ((w.setCell ⟨b, 0, none⟩ v0).setCell ⟨b, 1, none⟩ v1) ad n c V := by
  refine (h.poke _ _ v0 (k.cell 0 _ rfl) (fun x e => by cases e)).poke _ (.slice a0 n0 c0) v1 ?_ (fun x e => by cases e)
  exact (k.set 0 v0).cell 1 _ rfl
theorem Num.poke2 {w : World} {ad : Option Addr} {n c : Nat} {V : Int} (h : Num w ad n c V) {b : Nat} {t : TypeId} {b0 : Bool} {a0 : Option Addr} {n0 c0 : Nat} (k : Cel w b t [.bool b0, .slice a0 n0 c0]) (v0 v1 : Value) : Num ((w.setCell ⟨b, 0, none⟩ v0).setCell ⟨b, 1, none⟩ v1) ad n c V := by
  refine (h.poke _ _ v0 (k.cell 0 _ rfl) (fun x e => by cases e)).poke _ (.slice a0 n0 c0) v1 ?_ (fun x e => by cases e)
  exact (k.set 0 v0).cell 1 _ rfl
end Go.Proofs.YtoimhjcpeifegaaGreatDoor


/- nat.Add: the sum. -/
namespace Go.Proofs.YtoimhjcpeifegaaGreatDoor
open Go.RowKit

def AddR (w : World) (xs zs : List Int) (n i : Nat) (c : Int) (wr : World) : Prop :=
  ∃ ys, Blk wr w.heap.size 23 .u32 ys ∧ ys.length = n + 1 ∧ Dig 4294967296 ys ∧ Below w.heap.size w wr ∧ 0 ≤ c ∧ c ≤ 1 ∧
    val 4294967296 (ys.take i) + c * 4294967296 ^ i = val 4294967296 (xs.take i) + val 4294967296 (zs.take i)

set_option maxHeartbeats 1000000 in
/-- The longer one may stand behind the shorter one. -/
theorem add_core (sw : Bool) (xd zd : Option Addr) (n m cx cz : Nat) (xs zs : List Int) (w : World) (hn : n ≤ 70368744177663) (hm : m ≤ n) (hsw : sw = true → m < n) (hxc : n ≤ cx) (hzc : m ≤ cz)
    (hx : Rds w .u32 xd n xs) (hz : Rds w .u32 zd m zs) (dx : Dig 4294967296 xs) (dz : Dig 4294967296 zs) :
    Calls Tryz.prog 121 (if sw then #[.slice zd m cz, .slice xd n cx] else #[.slice xd n cx, .slice zd m cz]) w (RetL 23 .u32 (dg 4294967296 (val 4294967296 xs + val 4294967296 zs)) w) := by
  have HX := Lib.hid hx.len
  have HZ := Lib.hid hz.len
  have hmk := make_rule (P := Tryz.prog) 32 23 .u32 4 Tryz.underlying32 info_limb (by omega) (n + 1) (by omega) ((n : Int) + 1) (by omega)
  have hr0 : AddR w xs zs n 0 0 (w.alloc (.cells (nums .u32 (List.replicate (n + 1) 0)).toArray 23)) :=
    ⟨_, Blk.made _ _ _ _ _ rfl, by simp, Dig.replicate _ (by omega) _, (Below.refl _ _).alloc (Nat.le_refl _) _, by omega, by omega, by simp [val]⟩
  cases sw
  all_goals
    have hlt := hsw
    clear hsw
    simp only [if_true, if_false, Bool.false_eq_true]
    first
      | (have hlt2 := hlt rfl; clear hlt)
      | (have hlt2 : ¬ n < m := by omega)
    go_enter Tryz.func121, Tryz.ntmps121
    go_wp2
    clear hmk
    go_loopw [22, 6] (fun i cy wr => ∃ k : Nat, ∃ c : Int, k ≤ n ∧ i = .int .i64 k ∧ cy = .int .u32 c ∧ AddR w xs zs n k c wr) (fun i _ _ => n - (intOf i).toNat)
    case atStart => exact ⟨0, 0, Nat.zero_le _, rfl, rfl, hr0⟩
    case round =>
      clear hr0
      obtain ⟨k, c, hk, rfl, rfl, ys, h1, h2, h3, h4, hc0, hc1, h5⟩ := hrel
      have H2 := Lib.hid h2
      have H5 := Lib.hid h5
      clear h2 h5
      by_cases hkn : k < n
      · obtain ⟨a, rfl, hxl⟩ := (hx.below h4 (Nat.le_refl _)).cell k hkn
        have hf := h1.free k
        have hy := h1.cell k (by rw [H2.out]; omega)
        have HS := Lib.hid (add_step 4294967296 xs zs ys k (by rw [H2.out]; omega) c _ rfl H5.out)
        clear H5
        have bx := dx.get (by omega) k
        have bz := dz.get (by omega) k
        by_cases hkm : k < m
        · obtain ⟨b, rfl, hzl⟩ := (hz.below h4 (Nat.le_refl _)).cell k hkm
          have ha := Lib.hid (add32_calls (xs[k]?.getD 0) (zs[k]?.getD 0) c wr bx bz (by omega))
          generalize xs[k]?.getD 0 = x at *
          generalize zs[k]?.getD 0 = z at *
          go_wp2_with fail
          refine (ha.out).mono ?_
          rintro e w' ⟨rfl, rfl⟩
          clear ha
          go_wp2
          go_roundw
          case rel => exact ⟨k + 1, _, by omega, by go_num, rfl, _, h1.set k _, by simp [H2.out], h3.set (by omega) (by omega) _, below_set h4 _ _ _ (Nat.le_refl _), by omega, by omega, HS.out⟩
          case measure => simp [intOf]; omega
        · have hz0 : zs[k]?.getD 0 = 0 := by rw [List.getElem?_eq_none (by rw [HZ.out]; omega)]; rfl
          have ha := Lib.hid (add32_calls (xs[k]?.getD 0) 0 c wr bx (by omega) (by omega))
          rw [hz0, Int.add_zero] at HS
          clear hz0 bz
          generalize xs[k]?.getD 0 = x at *
          go_wp2_with fail
          refine (ha.out).mono ?_
          rintro e w' ⟨rfl, rfl⟩
          clear ha
          go_wp2
          go_roundw
          case rel => exact ⟨k + 1, _, by omega, by go_num, rfl, _, h1.set k _, by simp [H2.out], h3.set (by omega) (by omega) _, below_set h4 _ _ _ (Nat.le_refl _), by omega, by omega, HS.out⟩
          case measure => simp [intOf]; omega
      · obtain rfl : k = n := by omega
        have hf := h1.free k
        have hy := h1.cell k (by rw [H2.out]; omega)
        have k2 := h1.set k c
        have b2 := below_set h4 w.heap.size k (.int .u32 c) (Nat.le_refl _)
        have d2 := h3.set hc0 (show c < 4294967296 by omega) k
        have HV := Lib.hid (add_end 4294967296 xs zs ys k HX.out (by rw [HZ.out]; exact hm) H2.out c H5.out)
        have hcut := Lib.hid (cut_calls (some ⟨w.heap.size, 0, none⟩) (k + 1) (k + 1) _ _ (by omega) (Nat.le_refl _) (by have := k2.rds; rwa [List.length_set, H2.out] at this))
        have R := Lib.hid (k2.ret (Nat.le_refl _) (by rw [List.length_set, H2.out]; omega) d2 _ HV.out b2)
        go_wp2_with fail
        refine (hcut.out).mono ?_
        rintro e w' ⟨rfl, rfl⟩
        go_wp2_with fail
        go_ret
        exact R.out

theorem add_calls (ad bd : Option Addr) (na nb ca cb : Nat) (la lb : List Int) (w : World) (hna : na ≤ 70368744177663) (hnb : nb ≤ 70368744177663) (hac : na ≤ ca) (hbc : nb ≤ cb)
    (ha : Rds w .u32 ad na la) (hb : Rds w .u32 bd nb lb) (da : Dig 4294967296 la) (db : Dig 4294967296 lb) :
    Calls Tryz.prog 121 #[.slice ad na ca, .slice bd nb cb] w (RetL 23 .u32 (dg 4294967296 (val 4294967296 la + val 4294967296 lb)) w) := by
  by_cases h : na < nb
  · rw [Int.add_comm]
    exact add_core true bd ad nb na cb ca lb la w hnb (by omega) (fun _ => h) hbc hac hb ha db da
  · exact add_core false ad bd na nb ca cb la lb w hna (by omega) (fun h => by cases h) hac hbc ha hb da db
end Go.Proofs.YtoimhjcpeifegaaGreatDoor


/- nat.Sub: the difference, or that there is none. -/
namespace Go.Proofs.YtoimhjcpeifegaaGreatDoor
open Go.RowKit

end Go.Proofs.YtoimhjcpeifegaaGreatDoor


/- NCmp by worth alone. -/
namespace Go.Proofs.YtoimhjcpeifegaaGreatDoor
open Go.RowKit

theorem num_cmp (ad bd : Option Addr) (n m c d : Nat) (V U : Int) (w : World) (h : Num w ad n c V) (k : Num w bd m d U) (hn : n ≤ 70368744177663) (hm : m ≤ 70368744177663) :
    Calls Tryz.prog 114 #[.slice ad n c, .slice bd m d] w (RetI (cmpI V U) w) := by
  obtain ⟨xs, h1, h2, rfl⟩ := h.row
  obtain ⟨zs, k1, k2, rfl⟩ := k.row
  exact (ncmp_calls ad bd n m c d xs zs w (by omega) (by omega) h.le k.le h1 k1 h2 k2).mono fun e w' q => q
end Go.Proofs.YtoimhjcpeifegaaGreatDoor


/- crucibleref01.at, Add: the sum. -/
namespace Go.Proofs.YtoimhjcpeifegaaGreatDoor
open Go.RowKit

end Go.Proofs.YtoimhjcpeifegaaGreatDoor


/- RCmp by worth alone. -/
namespace Go.Proofs.YtoimhjcpeifegaaGreatDoor
open Go.RowKit

end Go.Proofs.YtoimhjcpeifegaaGreatDoor


/- RNorm by worth alone. -/
namespace Go.Proofs.YtoimhjcpeifegaaGreatDoor
open Go.RowKit

end Go.Proofs.YtoimhjcpeifegaaGreatDoor


/- crucibleref01.Len: how many bits it has. -/
namespace Go.Proofs.YtoimhjcpeifegaaGreatDoor
open Go.RowKit
end Go.Proofs.YtoimhjcpeifegaaGreatDoor


/- The shapes of the three widths, and what a pattern is: plain definitions. -/
namespace Go.Proofs.YtoimhjcpeifegaaGreatDoor

/-- Of a width (16, 32; all others: 64): digits of the fraction, digits of the exponent, the least power. -/
def shF (W : Nat) : Nat := if W = 16 then 10 else if W = 32 then 23 else 52
def shE (W : Nat) : Nat := if W = 16 then 5 else if W = 32 then 8 else 11
def shL (W : Nat) : Int := if W = 16 then -24 else if W = 32 then -149 else -1074
/-- The sign bit, the infinite pattern, the one for no number. -/
def sgnW (W : Nat) : Int := 2 ^ (W - 1)
def infW (W : Nat) : Int := (2 ^ shE W - 1) * 2 ^ shF W
def nanW (W : Nat) : Int := infW W + 2 ^ (shF W - 1)
def negW (W : Nat) (x : Int) : Bool := decide (sgnW W ≤ x)
def sizeW (W : Nat) (x : Int) : Int := if sgnW W ≤ x then x - sgnW W else x

/-- The three widths. -/
def Wide (W : Nat) : Prop := W = 16 ∨ W = 32 ∨ W = 64

theorem sgn16 : sgnW 16 = 32768 := by decide
theorem sgn32 : sgnW 32 = 2147483648 := by decide
theorem sgn64 : sgnW 64 = 9223372036854775808 := by decide
theorem inf16 : infW 16 = 31744 := by decide
theorem inf32 : infW 32 = 2139095040 := by decide
theorem inf64 : infW 64 = 9218868437227405312 := by decide
theorem nan16 : nanW 16 = 32256 := by decide
theorem nan32 : nanW 32 = 2143289344 := by decide
theorem nan64 : nanW 64 = 9221120237041090560 := by decide

theorem size_bounds {W : Nat} (hW : Wide W) (x : Int) (h : 0 ≤ x ∧ x < 2 ^ W) : 0 ≤ sizeW W x ∧ sizeW W x < sgnW W := by
  have e : (2 : Int) ^ W = sgnW W + sgnW W := by rcases hW with rfl | rfl | rfl <;> decide
  unfold sizeW
  split <;> omega

/-- The class: 0 none, as api names them. -/
def isNaN (W : Nat) (x : Int) : Bool := decide (infW W < sizeW W x)

/-- The order of all patterns. -/
def totalW (W : Nat) (x y : Int) : Int :=
  if negW W x then (if negW W y then cmpI y x else -1) else (if negW W y then 1 else cmpI x y)
def cmpW (W : Nat) (x y : Int) : Int × Bool :=
  if isNaN W x || isNaN W y then (0, false) else if sizeW W x = 0 ∧ sizeW W y = 0 then (0, true) else (totalW W x y, true)
end Go.Proofs.YtoimhjcpeifegaaGreatDoor


/- NLen by worth alone. -/
namespace Go.Proofs.YtoimhjcpeifegaaGreatDoor
open Go.RowKit

theorem num_len (ad : Option Addr) (n c : Nat) (V : Int) (w : World) (h : Num w ad n c V) (hn : n ≤ 70368744177663) :
    Calls Tryz.prog 86 #[.slice ad n c] w (fun e w' => e = .returned (.int .i64 (bitsOf V)) ∧ w = w') := by
  obtain ⟨xs, h1, h2, rfl⟩ := h.row
  exact (nlen_calls ad n c xs w (by omega) h.le h1 h2).mono fun e w' q => q
end Go.Proofs.YtoimhjcpeifegaaGreatDoor

