/- Contracts of functions, and plain facts, part 31. -/
import Derived.Test.YtbcbmkeeoognpaaGreatDoorPk13
import Derived.Test.YtbcbmkeeoognpaaGreatDoorPk20
import Derived.Test.YtbcbmkeeoognpaaGreatDoorPk21
import Derived.Test.YtbcbmkeeoognpaaGreatDoorPk29
set_option linter.unusedVariables false
set_option linter.unusedSimpArgs false


/- Arrays of plain values in variables. -/
set_option maxRecDepth 50000
namespace Go.Proofs.YtbcbmkeeoognpaaGreatDoor
open Go Go.RowKit

section
variable {P : Program} {need : List (Tmp × FD)} {d : Option Tmp} {ty : TypeId} {pos : String} {af : Array Edge} {g : Option (Nat × Bool)} {x y x0 x1 x2 x3 : Operand} {D : VP}
end
section
variable {P : Program} {need : List (Tmp × FD)} {d : Option Tmp} {ty : TypeId} {pos : String} {af : Array Edge} {g : Option (Nat × Bool)} {x : Operand} {D : VP}
theorem ok_extFB0 {lo : Nat} {b : Bool} (h : Opd need x (.val (IsFrB lo D b))) : OpOk P ⟨d, .extract x 0, ty, pos, af, g⟩ need (.val (IsFr lo D)) false :=
  OpOk.value fun a w B hF => by
    obtain ⟨g, h1, vs, e, hv⟩ := h a w B hF
    obtain ⟨v, h2, h3⟩ := hv.get 0 _ rfl
    refine ⟨v, ?_, g, h1, h3⟩
    simp [execOp, e, Instr.extract, h2, Sem.run_bind]
theorem ok_extFB1 {lo : Nat} {b : Bool} (h : Opd need x (.val (IsFrB lo D b))) : OpOk P ⟨d, .extract x 1, ty, pos, af, g⟩ need (.val (IsB b)) false :=
  OpOk.value fun a w B hF => by
    obtain ⟨g, h1, vs, e, hv⟩ := h a w B hF
    obtain ⟨v, h2, h3⟩ := hv.get 1 _ rfl
    refine ⟨v, ?_, h3⟩
    simp [execOp, e, Instr.extract, h2, Sem.run_bind]
end
/-- What a store into a variable leaves as it is. -/
def KeptV2 (Bs : Nat) (f : FD) : Prop := ∀ (v : Value) (w w' : World) (B : Bx) (b : Nat), Bs ≤ b → B b → (f.isBox = true → v ≠ .pointer (some ⟨b, 0, none⟩)) → Only b w w' → f.p v w B → f.p v w' B
inductive KeepV (Bs : Nat) : List (Tmp × FD) → Prop where
  | nil : KeepV Bs []
  | cons {s : Tmp} {f : FD} {l : List (Tmp × FD)} (h : KeptV2 Bs f) (t : KeepV Bs l) : KeepV Bs ((s, f) :: l)
theorem KeepV.all {Bs : Nat} {l : List (Tmp × FD)} (h : KeepV Bs l) : ∀ x ∈ l, KeptV2 Bs x.2 := by
  induction h with
  | nil => intro x hx; cases hx
  | cons h t ih =>
    intro x hx
    rcases List.mem_cons.1 hx with rfl | hx
    · exact h
    · exact ih x hx
section
variable {P : Program} {ops : Array Oper} {Q : Exit → Act → World → Prop} {N : Nat} {w0 : World} {B0 : Bx} {a : Act} {w : World} {B : Bx} {l : List (Tmp × FD)} {bxs : List Tmp}
end
end Go.Proofs.YtbcbmkeeoognpaaGreatDoor


