/- Contracts of functions, and plain facts, part 33. -/
import Derived.Test.YtbcbmkeeoognpaaGreatDoorCards
import Derived.Lib.LaidTab
import Derived.Test.YtbcbmkeeoognpaaGreatDoorProg
import Derived.Lib.TrailingZeros
import Derived.Laws.Bits64b
import Derived.Test.YtbcbmkeeoognpaaGreatDoorPk1
import Derived.Test.YtbcbmkeeoognpaaGreatDoorPk6
import Derived.Test.YtbcbmkeeoognpaaGreatDoorPk7
import Derived.Test.YtbcbmkeeoognpaaGreatDoorPk9
import Derived.Test.YtbcbmkeeoognpaaGreatDoorPk11
import Derived.Test.YtbcbmkeeoognpaaGreatDoorPk32
set_option linter.unusedVariables false
set_option linter.unusedSimpArgs false
/- The program's way to the nearest pattern: plain facts over whole numbers. -/
namespace Go.Proofs.YtbcbmkeeoognpaaGreatDoor

end Go.Proofs.YtbcbmkeeoognpaaGreatDoor








/- What the walks of layer 4 carry along. -/
namespace Go.Proofs.YtbcbmkeeoognpaaGreatDoor
open Go.RowKit

theorem limb_pow (n : Nat) : (4294967296 : Int) ^ n = 2 ^ (32 * n) := by
  rw [Int.pow_mul]
  rfl

theorem blen_limbs (V : Int) (n : Nat) (h0 : 0 ≤ V) (h : V < 4294967296 ^ n) : blen V.toNat ≤ 32 * n := by
  by_cases hz : V.toNat = 0
  · rw [hz]; exact Nat.zero_le _
  · have h1 := blen_ge V.toNat hz
    rw [limb_pow] at h
    have h2 : V.toNat < 2 ^ (32 * n) := by
      have : ((V.toNat : Nat) : Int) < ((2 ^ (32 * n) : Nat) : Int) := by
        rw [Int.toNat_of_nonneg h0]
        simpa using h
      exact Int.ofNat_lt.1 this
    have h3 := (Nat.pow_lt_pow_iff_right (show 1 < 2 by omega)).1 (Nat.lt_of_le_of_lt h1 h2)
    omega

/-- A number of few limbs has room to be moved up. -/
theorem shl_fits (V : Int) (n : Nat) (r : Int) (h0 : 0 ≤ V) (h : V < 4294967296 ^ n) (hn : n ≤ 4096) (hr : 0 ≤ r ∧ r ≤ 32 * 4096) :
    shlOk V r = true ∧ shlNum V r = V * 2 ^ r.toNat ∧ 0 ≤ V * 2 ^ r.toNat ∧ V * 2 ^ r.toNat < 4294967296 ^ (n + 4097) := by
  have h1 := blen_limbs V n h0 h
  have e1 : shlOk V r = true := decide_eq_true ⟨hr.1, .inr (by omega)⟩
  have h2 : (0 : Int) < 2 ^ r.toNat := Int.pow_pos (by omega)
  refine ⟨e1, by unfold shlNum; rw [if_pos e1], Int.mul_nonneg h0 (Int.le_of_lt h2), ?_⟩
  refine pow_mul_lt _ _ _ _ h0 (Int.le_of_lt h2) h ?_
  rw [limb_pow]
  have h3 := pow_le (b := 2) (by omega) (show r.toNat + 1 ≤ 32 * 4097 by omega)
  rw [Int.pow_succ] at h3
  omega

/-- The local shape, in block b. -/
structure ShAt (F L E : Int) (b : Nat) (w : World) : Prop where
  c0 : w.cell? ⟨b, 0, none⟩ = some (.int .i64 F)
  c1 : w.cell? ⟨b, 1, none⟩ = some (.int .i64 L)
  c2 : w.cell? ⟨b, 2, none⟩ = some (.int .i64 E)
theorem ShAt.below {F L E : Int} {b : Nat} {w w1 : World} (h : ShAt F L E b w) (k : Below w.heap.size w w1) : ShAt F L E b w1 :=
  ⟨below_cell k (Nat.le_refl _) h.c0, below_cell k (Nat.le_refl _) h.c1, below_cell k (Nat.le_refl _) h.c2⟩
theorem ShAt.made (F L E : Int) (w : World) : ShAt F L E w.heap.size (w.alloc (.cells #[.int .i64 F, .int .i64 L, .int .i64 E] 228)) :=
  ⟨World.cell?_alloc_at _ _ _ _ rfl, World.cell?_alloc_at _ _ _ _ rfl, World.cell?_alloc_at _ _ _ _ rfl⟩

/-- The number that is looked for, and where the walk stands. -/
structure PNum (W : Nat) (F L E : Int) (b : Nat) (w wx : World) (T : Nat) (ad : Option Addr) (n c : Nat) (M p N : Int) : Prop where
  num : Num wx ad n c M
  pos : 0 < M
  len : n ≤ 1099511627778
  bd : -3000 - N ≤ p ∧ p ≤ 2000
  nb : 0 ≤ N ∧ N ≤ 1125899906842624
  bits : Hid (N = bitsOf M)
  near : Hid (T = nearE W M.toNat p)
  sh : ShAt F L E b wx
  shp : Shapes wx
  bel : Below w.heap.size w wx
theorem PNum.below {W : Nat} {F L E : Int} {b : Nat} {w wx wy : World} {T : Nat} {ad : Option Addr} {n c : Nat} {M p N : Int} (h : PNum W F L E b w wx T ad n c M p N) (k : Below wx.heap.size wx wy) : PNum W F L E b w wy T ad n c M p N :=
  ⟨h.num.below k (Nat.le_refl _), h.pos, h.len, h.bd, h.nb, h.bits, h.near, h.sh.below k, h.shp.below k (Nat.le_refl _), below_trans h.bel k⟩
end Go.Proofs.YtbcbmkeeoognpaaGreatDoor





