/- Contracts of functions, and plain facts, part 4. -/
import Derived.Test.YtoimhjcpeifegaaGreatDoorProg
import Derived.Deep.QuietTactic
import Derived.BigQuiet
import Derived.Lib.BitFns
import Derived.Lib.Strings
import Derived.Lib.Slices
import Derived.Lib.Small
import Derived.Lib.Walk
import Derived.Laws.IdiomStrings
import Derived.Laws.BytesArg
import Derived.Lib.AppendZerosOnto
import Derived.Laws.AppendOwnNone
import Derived.Maps.AppendAt
import Derived.Test.YtoimhjcpeifegaaGreatDoorPk1
import Derived.Test.YtoimhjcpeifegaaGreatDoorPk2
set_option linter.unusedVariables false
set_option linter.unusedSimpArgs false
/- What is kept of memory. -/
namespace Go.Proofs.YtoimhjcpeifegaaGreatDoor
open Go.RowKit

theorem below_cell {w w1 : World} {B : Nat} (hb : Below B w w1) (hB : w.heap.size ≤ B) {a : Addr} {v : Value} (h : w.cell? a = some v) : w1.cell? a = some v := by
  have hl := World.block_lt_of_cell? w a h
  rw [World.cell?_of_block (hb.block a.block (Nat.lt_of_lt_of_le hl hB))]
  exact h

end Go.Proofs.YtoimhjcpeifegaaGreatDoor


/- What the calls hand back, in words. -/
namespace Go.Proofs.YtoimhjcpeifegaaGreatDoor
open Go.RowKit
/-- A list and a bool are handed back. -/
def RetLB (t : TypeId) (k : IntKind) (zs : List Int) (ok : Bool) (w : World) (e : Ending) (w' : World) : Prop :=
  ∃ ad n c, e = .returned (.tuple #[.slice ad n c, .bool ok]) ∧ Own w.heap.size w' t k ad n c zs ∧ Below w.heap.size w w'

/-- A list, a small number and a bool are handed back. -/
def RetLNB (t : TypeId) (k k2 : IntKind) (zs : List Int) (r : Int) (ok : Bool) (w : World) (e : Ending) (w' : World) : Prop :=
  ∃ ad n c, e = .returned (.tuple #[.slice ad n c, .int k2 r, .bool ok]) ∧ Own w.heap.size w' t k ad n c zs ∧ Below w.heap.size w w'

/-- An int is answered, some orders having been drawn. -/
def RetI (v : Int) (w : World) (e : Ending) (w' : World) : Prop := e = .returned (.int .i64 v) ∧ ∃ q, w' = w.drewN q

/-- An int is answered, nothing old has turned. -/
def RetIB (v : Int) (w : World) (e : Ending) (w' : World) : Prop := e = .returned (.int .i64 v) ∧ Below w.heap.size w w'

/-- A list and two bools are handed back. -/
def RetLBB (t : TypeId) (k : IntKind) (zs : List Int) (b1 b2 : Bool) (w : World) (e : Ending) (w' : World) : Prop :=
  ∃ ad n c, e = .returned (.tuple #[.slice ad n c, .bool b1, .bool b2]) ∧ Own w.heap.size w' t k ad n c zs ∧ Below w.heap.size w w'
end Go.Proofs.YtoimhjcpeifegaaGreatDoor


/- Bytes and limbs of one number; long multiplication with a carry that runs on: plain facts on lists. -/
namespace Go.Proofs.YtoimhjcpeifegaaGreatDoor

theorem getD_replicate (n j : Nat) : ((List.replicate n (0 : Int))[j]?).getD 0 = 0 := by
  rw [List.getElem?_replicate]
  split <;> rfl

theorem val_ge {b : Int} (hb : 0 < b) : ∀ {xs : List Int}, Dig b xs → norm xs = xs → xs ≠ [] → b ^ (xs.length - 1) ≤ val b xs
  | [x], h, hn, _ => by
    have h0 := h.head
    have : x ≠ 0 := by
      rintro rfl
      simp [norm] at hn
    simp [val]
    omega
  | x :: y :: ys, h, hn, _ => by
    have h0 := h.head
    have hn' : norm (y :: ys) = y :: ys := by
      have hn1 := hn
      rw [norm] at hn1
      split at hn1
      · cases hn1
      · simpa using hn1
    have ih := val_ge hb h.tail hn' (by simp)
    have : b * b ^ ((y :: ys).length - 1) ≤ b * val b (y :: ys) := Int.mul_le_mul_of_nonneg_left ih (Int.le_of_lt hb)
    rw [val]
    have e : b ^ ((x :: y :: ys).length - 1) = b * b ^ ((y :: ys).length - 1) := by
      simp only [List.length_cons, Nat.add_sub_cancel]
      rw [Int.pow_succ, Int.mul_comm]
    rw [e]
    omega

end Go.Proofs.YtoimhjcpeifegaaGreatDoor


/- nat.cut: what the call answers. -/
namespace Go.Proofs.YtoimhjcpeifegaaGreatDoor
open Go.RowKit

theorem info_limb : (Tryz.prog.info? 23).map (fun i => (i.zero, i.size, i.bytes)) = some (some (.int .u32 0), 1, 4) := by kernel_rfl

/-- nat.cut: the list without noughts at its end, and without room behind it. -/
theorem cut_calls (ad : Option Addr) (n c : Nat) (xs : List Int) (w : World) (hn : n ≤ 9223372036854775807) (hnc : n ≤ c) (hr : Rds w .u32 ad n xs) :
    Calls Tryz.prog 124 #[.slice ad n c] w fun e w' => e = .returned (.slice ad (norm xs).length (norm xs).length) ∧ w = w' := by
  have HL := Lib.hid hr.len
  go_enter Tryz.func124, Tryz.ntmps124
  go_wp2
  go_loop [3] (fun i => ∃ k : Nat, k ≤ n ∧ i = .int .i64 k ∧ Hid (∀ j, k ≤ j → xs[j]?.getD 0 = 0)) (fun i => (intOf i).toNat)
  case atStart => exact ⟨n, Nat.le_refl _, rfl, fun j hj => by rw [List.getElem?_eq_none (by rw [HL.out]; exact hj)]; rfl⟩
  case round =>
    obtain ⟨k, hk, rfl, hz⟩ := hrel
    have hkc : k ≤ c := by omega
    by_cases h0 : 0 < k
    · obtain ⟨a, rfl, hcell⟩ := hr.cell (k - 1) (by omega)
      clear hr
      go_wp2
      · rename_i hb
        go_round
        case rel =>
          refine ⟨k - 1, by omega, by congr 1; omega, fun j hj => ?_⟩
          by_cases e : j = k - 1
          · subst e; simpa using hb
          · exact hz.out j (by omega)
        case measure => simp [intOf]; omega
      · have hb : (xs[k - 1]?.getD 0 == 0) = false := by assumption
        have e := norm_stop xs k (by rw [HL.out]; omega) hz.out (.inr (by simpa using hb))
        have e2 : (norm xs).length = k := by rw [e, List.length_take, HL.out]; omega
        go_ret
        rw [e2]
        exact ⟨rfl, rfl⟩
    · obtain rfl : k = 0 := by omega
      have E := Lib.hid (show (norm xs).length = 0 by rw [norm_stop xs 0 (Nat.zero_le _) hz.out (.inl rfl)]; rfl)
      go_wp2
      go_ret
      rw [E.out]
      exact ⟨rfl, rfl⟩

end Go.Proofs.YtoimhjcpeifegaaGreatDoor


/- math/bits.Add32: the sum and what is carried. -/
namespace Go.Proofs.YtoimhjcpeifegaaGreatDoor
open Go.RowKit
theorem add32_calls (x y c : Int) (w : World) (hx : 0 ≤ x ∧ x < 4294967296) (hy : 0 ≤ y ∧ y < 4294967296) (hc : 0 ≤ c ∧ c < 4294967296) :
    Calls Tryz.prog 165 #[.int .u32 x, .int .u32 y, .int .u32 c] w fun e w' => e = .returned (.tuple #[.int .u32 ((x + y + c) % 4294967296), .int .u32 ((x + y + c) / 4294967296)]) ∧ w = w' := by
  obtain ⟨hx0, hx1⟩ := hx
  obtain ⟨hy0, hy1⟩ := hy
  obtain ⟨hc0, hc1⟩ := hc
  go_enter Tryz.func165, Tryz.ntmps165
  go_wp2
  go_ret2
  exact ⟨rfl, rfl⟩
end Go.Proofs.YtoimhjcpeifegaaGreatDoor


/- cmp.Compare of ints and of limbs. -/
namespace Go.Proofs.YtoimhjcpeifegaaGreatDoor
open Go.RowKit
theorem compare_int (x y : Int) (w : World) :
    Calls Tryz.prog 162 #[.int .i64 x, .int .i64 y] w fun e w' => e = .returned (.int .i64 (cmpI x y)) ∧ w = w' := by
  rcases Int.lt_trichotomy x y with h | h | h
  · have H := Lib.hid (cmpI_lt h)
    go_enter Tryz.func162, Tryz.ntmps162
    go_wp2
    go_ret
    rw [H.out]
    exact ⟨rfl, rfl⟩
  · have H := Lib.hid (cmpI_eq h)
    subst h
    go_enter Tryz.func162, Tryz.ntmps162
    go_wp2
    go_ret
    rw [H.out]
    exact ⟨rfl, rfl⟩
  · have H := Lib.hid (cmpI_gt h)
    have h2 : ¬ x < y := by omega
    go_enter Tryz.func162, Tryz.ntmps162
    go_wp2
    go_ret
    rw [H.out]
    exact ⟨rfl, rfl⟩
theorem compare_u32 (x y : Int) (w : World) :
    Calls Tryz.prog 163 #[.int .u32 x, .int .u32 y] w fun e w' => e = .returned (.int .i64 (cmpI x y)) ∧ w = w' := by
  rcases Int.lt_trichotomy x y with h | h | h
  · have H := Lib.hid (cmpI_lt h)
    go_enter Tryz.func163, Tryz.ntmps163
    go_wp2
    go_ret
    rw [H.out]
    exact ⟨rfl, rfl⟩
  · have H := Lib.hid (cmpI_eq h)
    subst h
    go_enter Tryz.func163, Tryz.ntmps163
    go_wp2
    go_ret
    rw [H.out]
    exact ⟨rfl, rfl⟩
  · have H := Lib.hid (cmpI_gt h)
    have h2 : ¬ x < y := by omega
    go_enter Tryz.func163, Tryz.ntmps163
    go_wp2
    go_ret
    rw [H.out]
    exact ⟨rfl, rfl⟩
end Go.Proofs.YtoimhjcpeifegaaGreatDoor


/- math/bits.Sub32: the difference and what is borrowed. -/
namespace Go.Proofs.YtoimhjcpeifegaaGreatDoor
open Go.RowKit

end Go.Proofs.YtoimhjcpeifegaaGreatDoor


/- math/bits.Len32: how many bits a limb has. -/
namespace Go.Proofs.YtoimhjcpeifegaaGreatDoor
open Go.RowKit
set_option maxHeartbeats 4000000 in
set_option maxRecDepth 100000 in
theorem len32_calls (x : Int) (w : World) (h0 : 0 ≤ x) (h1 : x ≤ 4294967295) :
    Calls Tryz.prog 138 #[.int .u32 x] w fun e w' => e = .returned (.int .i64 (Lib.bitLen x.toNat)) ∧ w = w' := by
  have u9 := Tryz.underlying9
  have hx : ∀ i : Int, 0 ≤ i → i ≤ 255 → ∀ w : World, (Instr.index 9 (.string Lib.len8tab) (.int .u8 i)).run Tryz.prog w = .ok (.int .u8 (Lib.len8 i)) w := fun i h0 h1 w => Lib.run_index_len8tab _ _ _ _ u9 h0 h1
  have x1 := hx (x / 65536 / 256) (by omega) (by omega)
  have x2 : x / 65536 < 256 → _ := fun h => hx (x / 65536) (by omega) (by omega)
  have x3 : x < 65536 → _ := fun h => hx (x / 256) (by omega) (by omega)
  have x4 : x < 256 → _ := fun h => hx x (by omega) (by omega)
  clear hx
  go_enter Tryz.func138, Tryz.ntmps138
  go_wp2
  all_goals (go_ret; refine ⟨congrArg Ending.returned (congrArg (Value.int IntKind.i64) ?_), rfl⟩)
  all_goals first
    | (rw [Lib.len8_of (x / 65536 / 256) (by omega) (by omega)]
       have e : (x / 65536 / 256).toNat = x.toNat / 16777216 := by omega
       have l := Lib.bitLen_le8' (x / 65536 / 256) (by omega) (by omega)
       have s := Lib.bitLen_shift24 x.toNat (by omega) (by omega)
       rw [e] at l ⊢
       unfold wrap64
       omega)
    | (rw [Lib.len8_of (x / 65536) (by omega) (by omega)]
       have e : (x / 65536).toNat = x.toNat / 65536 := by omega
       have l := Lib.bitLen_le8' (x / 65536) (by omega) (by omega)
       have s := Lib.bitLen_shift16 x.toNat (by omega) (by omega)
       rw [e] at l ⊢
       unfold wrap64
       omega)
    | (rw [Lib.len8_of (x / 256) (by omega) (by omega)]
       have e : (x / 256).toNat = x.toNat / 256 := by omega
       have l := Lib.bitLen_le8' (x / 256) (by omega) (by omega)
       have s := Lib.bitLen_shift8 x.toNat (by omega) (by omega)
       rw [e] at l ⊢
       unfold wrap64
       omega)
    | (rw [Lib.len8_of x (by omega) (by omega)]
       have l := Lib.bitLen_le8' x (by omega) (by omega)
       unfold wrap64
       omega)
end Go.Proofs.YtoimhjcpeifegaaGreatDoor


/- crucibleref01.power: 2 to the n. -/
namespace Go.Proofs.YtoimhjcpeifegaaGreatDoor
open Go.RowKit

end Go.Proofs.YtoimhjcpeifegaaGreatDoor


/- Printed by ieee2.py. -/
namespace Go.Proofs.YtoimhjcpeifegaaGreatDoor
open Go.RowKit

theorem compare_T64 (x y : Int) (w : World) :
    Calls Tryz.prog 160 #[.int .u64 x, .int .u64 y] w fun e w' => e = .returned (.int .i64 (cmpI x y)) ∧ w = w' := by
  rcases Int.lt_trichotomy x y with h | h | h
  · skip
    have H := Lib.hid (cmpI_lt h)
    go_enter Tryz.func160, Tryz.ntmps160
    go_wp2
    go_ret
    rw [H.out]
    exact ⟨rfl, rfl⟩
  · skip
    have H := Lib.hid (cmpI_eq h)
    subst h
    go_enter Tryz.func160, Tryz.ntmps160
    go_wp2
    go_ret
    rw [H.out]
    exact ⟨rfl, rfl⟩
  · skip
    have H := Lib.hid (cmpI_gt h)
    have h2 : ¬ x < y := by omega
    go_enter Tryz.func160, Tryz.ntmps160
    go_wp2
    go_ret
    rw [H.out]
    exact ⟨rfl, rfl⟩
end Go.Proofs.YtoimhjcpeifegaaGreatDoor


/- Texts as lists of bytes; a list of bytes in memory as a text. Nothing here speaks of a program. -/
namespace Go.Proofs.YtoimhjcpeifegaaGreatDoor
open Go.RowKit

end Go.Proofs.YtoimhjcpeifegaaGreatDoor


/- append(v, xs...) of a whole list; append(v, make([]T, m)...). -/
namespace Go.Proofs.YtoimhjcpeifegaaGreatDoor
open Go.RowKit

section
variable {P : Program} {ops : Array Oper} {rest : List Oper} {o : Oper} {a : Act} {Q : Exit → Act → World → Prop}
end
end Go.Proofs.YtoimhjcpeifegaaGreatDoor

