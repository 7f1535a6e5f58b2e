/- Contracts of functions, and plain facts, part 20. -/
import Derived.Deep.RegionHeld3
import Derived.Test.YtbcbmkeeoognpaaGreatDoorPk5
import Derived.Test.YtbcbmkeeoognpaaGreatDoorPk8
import Derived.Test.YtbcbmkeeoognpaaGreatDoorPk11
import Derived.Test.YtbcbmkeeoognpaaGreatDoorPk13
import Derived.Test.YtbcbmkeeoognpaaGreatDoorPk14
import Derived.Test.YtbcbmkeeoognpaaGreatDoorPk15
import Derived.Test.YtbcbmkeeoognpaaGreatDoorPk16
import Derived.Test.YtbcbmkeeoognpaaGreatDoorPk17
import Derived.Test.YtbcbmkeeoognpaaGreatDoorPk18
import Derived.Test.YtbcbmkeeoognpaaGreatDoorPk19
set_option linter.unusedVariables false
set_option linter.unusedSimpArgs false
/- cruciblelaw02.lives: the chapter's first examples. (Printed by lives2.py.) -/
namespace Go.Proofs.YtbcbmkeeoognpaaGreatDoor
open Go.RowKit

end Go.Proofs.YtbcbmkeeoognpaaGreatDoor


/- cruciblelaw03.lives. (Printed by lives3.py.) -/
namespace Go.Proofs.YtbcbmkeeoognpaaGreatDoor
open Go.RowKit

/-- As RetQuo, signs and sizes by name. -/
def RetQuoR (r1 : Bool) (A1 : Int) (r2 : Bool) (A2 : Int) (ok : Bool) (w : World) (e : Ending) (w' : World) : Prop :=
  ∃ ad n c ad2 n2 c2, e = .returned (.tuple #[.agg #[.bool r1, .slice ad n c], .agg #[.bool r2, .slice ad2 n2 c2], .bool ok]) ∧ Can w' ad n c A1 ∧ Can w' ad2 n2 c2 A2 ∧ Below w.heap.size w w'
theorem RetQuo.named {Q R : Int} {ok : Bool} {r1 r2 : Bool} {A1 A2 : Int} (h1 : decide (Q < 0) = r1) (h2 : (Q.natAbs : Int) = A1) (h3 : decide (R < 0) = r2) (h4 : (R.natAbs : Int) = A2) {w : World} {e : Ending} {w' : World} (h : RetQuo Q R ok w e w') : RetQuoR r1 A1 r2 A2 ok w e w' := by
  obtain ⟨ad, n, c, ad2, n2, c2, e1, q1, q2, q3⟩ := h
  rw [h1, h3] at e1
  rw [h2] at q1
  rw [h4] at q2
  exact ⟨ad, n, c, ad2, n2, c2, e1, q1, q2, q3⟩
def RetIntRB (r : Bool) (A : Int) (ok : Bool) (w : World) (e : Ending) (w' : World) : Prop :=
  ∃ ad n c, e = .returned (.tuple #[.agg #[.bool r, .slice ad n c], .bool ok]) ∧ Can w' ad n c A ∧ Below w.heap.size w w'
theorem RetIntB.named {N : Int} {ok r : Bool} {A : Int} (h1 : decide (N < 0) = r) (h2 : (N.natAbs : Int) = A) {w : World} {e : Ending} {w' : World} (h : RetIntB N ok w e w') : RetIntRB r A ok w e w' := by
  obtain ⟨ad, n, c, e1, q1, q2⟩ := h
  rw [h1] at e1
  rw [h2] at q1
  exact ⟨ad, n, c, e1, q1, q2⟩
/-- A number of one limb. -/
theorem Can.one {w : World} {ad : Option Addr} {n c : Nat} {V : Int} (h : Can w ad n c V) (hV : 0 < V ∧ V < 4294967296) : n = 1 := by
  have h1 := h.len_le 1 (by omega)
  have h2 := h.zero_iff (by omega)
  omega

end Go.Proofs.YtbcbmkeeoognpaaGreatDoor


/- Whole numbers as words on values; the contracts of package whole and of the statements' helpers by them. -/
namespace Go.Proofs.YtbcbmkeeoognpaaGreatDoor
open Go Go.RowKit

theorem Rds.mv {w w' : World} {B B' : Bx} (h : Mv w B w' B') {k : IntKind} (hk : k = .u32 ∨ k = .u8) {ad : Option Addr} {n : Nat} {xs : List Int} (r : Rds w k ad n xs) : Rds w' k ad n xs := by
  refine ⟨r.len, fun j hj => ?_⟩
  obtain ⟨a, e, hc⟩ := r.cell j hj
  refine ⟨a, e, ?_⟩
  have hl := World.block_lt_of_cell? w _ hc
  rcases h.same _ hl with h1 | ⟨_, h2⟩
  · rw [← hc]; exact World.cell?_of_block h1
  · exact absurd hc (h2 _ k _ rfl hk)
def LIM : Nat := 274877906944
theorem lim_eq : LIM = 274877906944 := rfl
/-- N has at most k limbs. -/
def FitK (k : Nat) (N : Int) : Prop := (N.natAbs : Int) < 4294967296 ^ k
def Fits (N : Int) : Prop := ∃ k, k ≤ LIM ∧ FitK k N
theorem FitK.fits {k : Nat} {N : Int} (h : FitK k N) (hk : k ≤ 274877906944) : Fits N := ⟨k, hk, h⟩
theorem FitK.mono {k m : Nat} {N : Int} (h : FitK k N) (hk : k ≤ m) : FitK m N := Int.lt_of_lt_of_le h (pow_le (by omega) hk)
theorem FitK.neg {k : Nat} {N : Int} (h : FitK k N) : FitK k (-N) := by unfold FitK at *; rwa [Int.natAbs_neg]
theorem FitK.add {k m : Nat} {N M : Int} (h : FitK k N) (h' : FitK m M) : FitK (k + m + 1) (N + M) := by
  unfold FitK at *
  have := pow_add_lt _ _ _ _ h h'
  omega
theorem FitK.mul {k m : Nat} {N M : Int} (h : FitK k N) (h' : FitK m M) : FitK (k + m) (N * M) := by
  unfold FitK at *
  rw [Int.natAbs_mul, Int.natCast_mul]
  exact pow_mul_lt _ _ _ _ (by omega) (by omega) h h'
theorem FitK.small {N : Int} (h : N.natAbs < 4294967296) : FitK 1 N := by unfold FitK; rw [Int.pow_one]; omega
theorem FitK.i64 {N : Int} (h : -9223372036854775808 ≤ N ∧ N < 9223372036854775808) : FitK 2 N := by
  unfold FitK
  have : (4294967296 : Int) ^ 2 = 18446744073709551616 := rfl
  omega
theorem FitK.le {k : Nat} {N M : Int} (h : FitK k N) (hM : M.natAbs ≤ N.natAbs) : FitK k M := by unfold FitK at *; omega

def PN (N : Int) (v : Value) (w : World) (B : Bx) : Prop := ∃ ng ad n c V, v = .agg #[.bool ng, .slice ad n c] ∧ Num w ad n c V ∧ n ≤ LIM ∧ N = sI ng V
/-- The number N. -/
def IsN (N : Int) : VP := ⟨PN N, fun v w B w' B' h hp => by
  obtain ⟨ng, ad, n, c, V, e, k, l, hN⟩ := hp
  obtain ⟨xs, h1, h2, h3⟩ := k.row
  exact ⟨ng, ad, n, c, V, e, ⟨k.le, xs, h1.mv h (.inl rfl), h2, h3⟩, l, hN⟩⟩
def PArg (ng : Bool) (n : Nat) (xs : List Int) (v : Value) (w : World) (B : Bx) : Prop := ∃ ad c, v = .agg #[.bool ng, .slice ad n c] ∧ Arg w ad n c xs
/-- What was handed in. -/
def IsArg (ng : Bool) (n : Nat) (xs : List Int) : VP := ⟨PArg ng n xs, fun v w B w' B' h hp => by
  obtain ⟨ad, c, e, k⟩ := hp
  exact ⟨ad, c, e, ⟨k.le, k.rds.mv h (.inl rfl), k.dig⟩⟩⟩
theorem Shape.two {n : Nat} {D : VP} (h : Shape n D) (v : Value) (w : World) (B : Bx) (hp : D.p v w B) : ∃ cs, v = .agg cs ∧ cs.size = n := by
  obtain ⟨cs, e, hn, _⟩ := h v w B hp
  exact ⟨cs, e, hn⟩
theorem PN.fit {N : Int} {v : Value} {w : World} {B : Bx} (h : (IsN N).p v w B) : Fits N := by
  obtain ⟨ng, ad, n, c, V, e, k, l, rfl⟩ := h
  refine ⟨n, l, ?_⟩
  unfold FitK
  rw [sI_abs ng V k.nonneg]
  exact k.lt
theorem PArg.fit {ng : Bool} {n : Nat} {xs : List Int} {X : Int} {v : Value} {w : World} {B : Bx} (hX : sI ng (val 4294967296 xs) = X) (h : (IsArg ng n xs).p v w B) : FitK n X := by
  obtain ⟨ad, c, e, k⟩ := h
  unfold FitK
  rw [← hX, sI_abs ng _ k.nonneg]
  exact k.lt
section
variable {need : List (Tmp × FD)} {d : Option Tmp} {ty : TypeId} {pos : String} {af : Array Edge} {g : Option (Nat × Bool)}
end
end Go.Proofs.YtbcbmkeeoognpaaGreatDoor


/- Parts of whole numbers; natural numbers as words on values; the contracts of crucibleref01 by them. -/
namespace Go.Proofs.YtbcbmkeeoognpaaGreatDoor
open Go Go.RowKit

def PM (V : Int) (v : Value) (w : World) (B : Bx) : Prop := ∃ ad n c, v = .slice ad n c ∧ Num w ad n c V ∧ n ≤ LIM
/-- A list of worth V. -/
def IsM (V : Int) : VP := ⟨PM V, fun v w B w' B' h hp => by
  obtain ⟨ad, n, c, e, k, l⟩ := hp
  obtain ⟨xs, h1, h2, h3⟩ := k.row
  exact ⟨ad, n, c, e, ⟨k.le, xs, h1.mv h (.inl rfl), h2, h3⟩, l⟩⟩
def PC (V : Int) (v : Value) (w : World) (B : Bx) : Prop := ∃ ad n c, v = .slice ad n c ∧ Can w ad n c V ∧ n ≤ LIM ∧ 0 ≤ V
/-- The list of the number V. -/
def IsC (V : Int) : VP := ⟨PC V, fun v w B w' B' h hp => by
  obtain ⟨ad, n, c, e, k, l, hV⟩ := hp
  exact ⟨ad, n, c, e, ⟨k.le, k.rds.mv h (.inl rfl)⟩, l, hV⟩⟩
theorem weakNilM (v : Value) (w : World) (B : Bx) (h : (Lit (.slice none 0 0)).p v w B) : (IsC 0).p v w B := by
  obtain rfl := h
  refine ⟨none, 0, 0, rfl, ⟨Nat.le_refl _, ?_⟩, Nat.zero_le _, Int.le_refl _⟩
  rw [dg_zero]
  exact Rds.nil _ _ _
theorem PM.nonneg {V : Int} {v : Value} {w : World} {B : Bx} (h : (IsM V).p v w B) : 0 ≤ V := by
  obtain ⟨ad, n, c, e, k, l⟩ := h
  exact k.nonneg
theorem PM.fit {V : Int} {v : Value} {w : World} {B : Bx} (h : (IsM V).p v w B) : Fits V := by
  have h0 := PM.nonneg h
  obtain ⟨ad, n, c, e, k, l⟩ := h
  refine ⟨n, l, ?_⟩
  unfold FitK
  have := k.lt
  omega
section
variable {need : List (Tmp × FD)} {d : Option Tmp} {ty : TypeId} {pos : String} {af : Array Edge} {g : Option (Nat × Bool)} {x : Operand} {D : VP}
theorem aggNat (w : World) : (isAgg 23).run Tryz.prog w = .ok false w := by go_simp
end

theorem FitK.sI {k : Nat} {V : Int} {b : Bool} (h : FitK k V) : FitK k (sI b V) := by
  cases b
  · exact h
  · exact h.neg

end Go.Proofs.YtbcbmkeeoognpaaGreatDoor


/- crucibleref03: Neg Add Sub Mul. (Printed by flowfn.py.) -/
namespace Go.Proofs.YtbcbmkeeoognpaaGreatDoor
open Go Go.RowKit

end Go.Proofs.YtbcbmkeeoognpaaGreatDoor


/- Texts of whole numbers: there and back. -/
namespace Go.Proofs.YtbcbmkeeoognpaaGreatDoor
open Go Go.RowKit

section
variable {need : List (Tmp × FD)} {d : Option Tmp} {ty : TypeId} {pos : String} {af : Array Edge} {g : Option (Nat × Bool)} {x : Operand}
end
end Go.Proofs.YtbcbmkeeoognpaaGreatDoor


/- R3cmp. (Printed by flowfn.py.) -/
namespace Go.Proofs.YtbcbmkeeoognpaaGreatDoor
open Go Go.RowKit

end Go.Proofs.YtbcbmkeeoognpaaGreatDoor


/- Texts in the document's way: lists of one limb, lengths of lists; the contract of crucibleref02.Digits; what Read takes. -/
namespace Go.Proofs.YtbcbmkeeoognpaaGreatDoor
open Go Go.RowKit

section
variable {need : List (Tmp × FD)} {d : Option Tmp} {ty : TypeId} {pos : String} {af : Array Edge} {g : Option (Nat × Bool)} {x : Operand}
end
end Go.Proofs.YtbcbmkeeoognpaaGreatDoor

