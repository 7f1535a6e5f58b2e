/- Contracts of functions, and plain facts, part 23. -/
import Derived.Test.YtbcbmkeeoognpaaGreatDoorPk22
set_option linter.unusedVariables false
set_option linter.unusedSimpArgs false
/- Contracts that answer lists of their own; functions that are handed a Book; over. -/
set_option maxRecDepth 50000
namespace Go.Proofs.YtbcbmkeeoognpaaGreatDoor
open Go Go.RowKit

/-- As Con, with a mark: what is answered lies from it on. -/
structure ConF (P : Program) (f : FuncId) (Ds : List VP) (R : Nat → VP) : Prop where
  enters : ∀ (vs : Array Value) (w : World), (callFunc f vs).run P w = .ok (.enter f vs) w
  calls : ∀ (lo : Nat) (vs : List Value) (w : World) (B : Bx), lo ≤ w.heap.size → Own1 B w → VAll vs Ds w B → Calls P f vs.toArray w (fun e w' => ∃ v, e = .returned v ∧ (R lo).p v w' B ∧ Below w.heap.size w w')
theorem ConF.con {P : Program} {f : FuncId} {Ds : List VP} {R : Nat → VP} {R' : VP} (h : ConF P f Ds R) (hw : ∀ v w B, (R 0).p v w B → R'.p v w B) : Con P f Ds R' :=
  ⟨h.enters, fun vs w B hB hV => (h.calls 0 vs w B (Nat.zero_le _) hB hV).mono fun e w' ⟨v, e1, h1, h2⟩ => ⟨v, e1, hw _ _ _ h1, h2⟩⟩
theorem ConF.weak {P : Program} {f : FuncId} {Ds : List VP} {R R' : Nat → VP} (h : ConF P f Ds R) (hw : ∀ lo v w B, (R lo).p v w B → (R' lo).p v w B) : ConF P f Ds R' :=
  ⟨h.enters, fun lo vs w B hl hB hV => (h.calls lo vs w B hl hB hV).mono fun e w' ⟨v, e1, h1, h2⟩ => ⟨v, e1, hw _ _ _ _ h1, h2⟩⟩
section
variable {P : Program} {need : List (Tmp × FD)} {d : Option Tmp} {ty : TypeId} {pos : String} {af : Array Edge} {g : Option (Nat × Bool)}
theorem ok_callF {f : FuncId} {args : List Operand} {ts : Array TypeId} {Ds : List VP} {R : Nat → VP} {lo : Nat} {z : Tmp} (kz : Nat) (C : ConF P f Ds R) (hz : need[kz]? = some (z, .val (Sz lo))) (h : Opds need args Ds) : OpOk P ⟨d, .call { callee := .value (.func f), args := args.toArray, argTypes := ts }, ty, pos, af, g⟩ need (.val (R lo)) false := by
  intro Q K a w B hB hF hK
  have hr : (execOp a.eval ⟨d, .call { callee := .value (.func f), args := args.toArray, argTypes := ts }, ty, pos, af, g⟩).run P w = .ok (.enter f (args.map a.eval).toArray) w := by
    simp [execOp, resolve, Act.eval, Deferred.ofValue, invoke, Sem.run_bind, C.enters]
  unfold Oper.wp
  rw [hr]
  refine (C.calls lo (args.map a.eval) w B (hF.get kz hz) hB (h.all hF)).mono ?_
  rintro e w' ⟨v, rfl, h1, h2⟩
  have hbl := Bl.of_below B h2
  exact hK v w' B h1 hbl h2 (fun k hk => Nat.lt_of_lt_of_le (hB k hk) h2.size) (by simp)
end
theorem own_len {B n c : Nat} {w : World} {ad : Option Addr} {V : Int} {k : Nat} (o : Own B w 44 .u32 ad n c (dg 4294967296 V)) (hf : FitK k V) (hV : 0 ≤ V) : n ≤ k := by
  rw [← o.len]
  exact dg_length_le 4294967296 (by omega) k V (by unfold FitK at hf; rw [show ((4294967296 : Nat) : Int) = 4294967296 from rfl]; omega)
section
variable {P : Program} {ops : Array Oper} {Q : Exit → Act → World → Prop} {N : Nat} {w0 : World} {B0 : Bx} {a : Act} {w : World} {B : Bx} {l : List (Tmp × FD)} {bxs : List Tmp}
/-- A guard that lets the operation pass. -/
theorem St.wanted (H : St N w0 B0 a w B l bxs) (g : Nat) (b : Bool) {o og : Oper} {s : Tmp} (hg : o.guard = some (g, b)) (hog : ops[g]? = some og) (hd : og.dst = some s) (k : Nat) (hk : l[k]? = some (s, .val (IsB b))) : Region.wanted o (yielded ops a.tmps) = true := by
  have hv : a.tmps.getD s undef = .bool b := H.fc.get k hk
  simp [Region.wanted, hg, yielded_of hog hd hv]
theorem wanted_none {o : Oper} {y : Nat → Option Bool} (hg : o.guard = none) : Region.wanted o y = true := by simp [Region.wanted, hg]
end
end Go.Proofs.YtbcbmkeeoognpaaGreatDoor

