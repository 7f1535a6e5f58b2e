/- Contracts of functions, and plain facts, part 29. -/
import Derived.Test.YtbcbmkeeoognpaaGreatDoorPk13
import Derived.Test.YtbcbmkeeoognpaaGreatDoorPk17
import Derived.Test.YtbcbmkeeoognpaaGreatDoorPk19
import Derived.Test.YtbcbmkeeoognpaaGreatDoorPk20
import Derived.Test.YtbcbmkeeoognpaaGreatDoorPk24
import Derived.Test.YtbcbmkeeoognpaaGreatDoorPk26
import Derived.Test.YtbcbmkeeoognpaaGreatDoorPk28
set_option linter.unusedVariables false
set_option linter.unusedSimpArgs false
/- R2gcdF. (Printed by flowfn.py.) -/
namespace Go.Proofs.YtbcbmkeeoognpaaGreatDoor
open Go Go.RowKit


end Go.Proofs.YtbcbmkeeoognpaaGreatDoor


/- The Own rows of layer 2: the calls of quot, over, Apart, what outlives them. -/
set_option maxRecDepth 50000
namespace Go.Proofs.YtbcbmkeeoognpaaGreatDoor
open Go Go.RowKit

/-- A word that hangs upon old blocks alone. -/
def KeptZ (Bs : Nat) (f : FD) : Prop := ∀ (v : Value) (w w' : World) (B : Bx), w.heap.size ≤ w'.heap.size → (∀ k, k < Bs → w'.heap[k]? = w.heap[k]?) → f.p v w B → f.p v w' B
inductive KeepZ (Bs : Nat) : List (Tmp × FD) → Prop where
  | nil : KeepZ Bs []
  | cons {s : Tmp} {f : FD} {l : List (Tmp × FD)} (h : KeptZ Bs f) (t : KeepZ Bs l) : KeepZ Bs ((s, f) :: l)
theorem KeepZ.all {Bs : Nat} {l : List (Tmp × FD)} (h : KeepZ Bs l) : ∀ x ∈ l, KeptZ Bs x.2 := by
  induction h with
  | nil => intro x hx; cases hx
  | cons h t ih =>
    intro x hx
    rcases List.mem_cons.1 hx with rfl | hx
    · exact h
    · exact ih x hx
theorem keptZ_lit {Bs : Nat} {u : Value} : KeptZ Bs (.val (Lit u)) := fun _ _ _ _ _ _ h => h
theorem keptZ_sz {Bs q : Nat} : KeptZ Bs (.val (Sz q)) := fun _ _ _ _ hs _ h => Nat.le_trans h hs
section
variable {P : Program} {ops : Array Oper} {Q : Exit → Act → World → Prop} {N : Nat} {w0 : World} {B0 : Bx} {a : Act} {w : World} {B : Bx} {l : List (Tmp × FD)} {bxs : List Tmp}
theorem apart_op2 {i : Nat} {K : Act → World → Prop} {Ow : Nat → Prop} {lo hi cnt : Nat} {ex : List (Option Nat)} {s p : Tmp} {y : Operand} {ts : Array TypeId} {ty : TypeId} {pos : String} {af : Array Edge} {gd : Option (Nat × Bool)} (kp : Nat) (is : List Nat) {ks : List (Tmp × FD)}
    (H : St N w0 B0 a w B l bxs) (ho : ops[i]? = some ⟨some s, .call { callee := .value (.func 18), args := #[y], argTypes := ts }, ty, pos, af, gd⟩) (hP : P = Tryz.prog)
    (hw : Region.wanted ⟨some s, .call { callee := .value (.func 18), args := #[y], argTypes := ts }, ty, pos, af, gd⟩ (yielded ops a.tmps) = true)
    (hp : l[kp]? = some (p, .box 42 15 (IsBook w0.heap.size Ow lo hi ex cnt))) (hy : a.eval y = a.tmps.getD p undef) (hcnt : cnt ≤ 1000000)
    (hks : is.map (fun i => l[i]?) = ks.map some) (hc : (bxs.contains p && decide (s < N) && (!bxs.contains s) && ks.all fun y => y.1 != s) = true) (hk : KeepZ w0.heap.size ks)
    (hK : ∀ a w B, St N w0 B0 a w B ((s, .val (IsB true)) :: ks) bxs → K a w) : wpOp P ops Q i K a w := by
  subst hP
  simp only [Bool.and_eq_true, List.all_eq_true, Bool.not_eq_true', decide_eq_true_eq, bne_iff_ne, ne_eq] at hc
  obtain ⟨⟨⟨hpb, hsN⟩, hsb⟩, hall⟩ := hc
  rw [List.contains_iff_mem] at hpb
  obtain ⟨b, rv, L, e1, hBb, hbs, hA, hL, hblk, hrow⟩ := H.book kp hp hpb hcnt
  have hB0 : w0.heap.size ≤ w.heap.size := H.bel.size
  unfold wpOp
  simp only [ho]
  rw [if_pos hw]
  refine .inl ?_
  unfold Oper.wp
  have hent : ∀ (vs : Array Value) (w : World), (callFunc 18 vs).run Tryz.prog w = .ok (.enter 18 vs) w := fun _ _ => by go_simp
  have hr : (execOp a.eval ⟨some s, .call { callee := .value (.func 18), args := #[y], argTypes := ts }, ty, pos, af, gd⟩).run Tryz.prog w = .ok (.enter 18 #[.pointer (some ⟨b, 0, none⟩)]) w := by
    have q1 := hy
    rw [e1] at q1
    have : execOp a.eval ⟨some s, .call { callee := .value (.func 18), args := #[y], argTypes := ts }, ty, pos, af, gd⟩ = callFunc 18 #[a.eval y] := by
      simp [execOp, resolve, Act.eval, Deferred.ofValue, invoke]
    rw [this, hent, q1]
  rw [hr]
  refine (apart_calls w0.heap.size b rv L w hA hB0).mono ?_
  rintro e w' ⟨rfl, hbel⟩
  refine hK _ w' B ?_
  have hsz : ∀ d, (some s : Option Tmp) = some d → d < a.tmps.size := fun d hd => by injection hd with hd; subst hd; rw [H.sz]; exact hsN
  have hput : ∀ z v, (a.put (some s) v).tmps.getD z undef = if some s = some z then v else a.tmps.getD z undef := fun z v => put_getD hsz
  have hold : ∀ z v, z ≠ s → (a.put (some s) v).tmps.getD z undef = a.tmps.getD z undef := fun z v hz => by
    rw [hput, if_neg fun e => hz (by injection e with e; exact e.symm)]
  have hbx : ∀ z ∈ bxs, z ≠ s := fun z hz e => by
    subst e
    rw [← List.contains_iff_mem, hsb] at hz
    cases hz
  refine ⟨put_defers.trans H.df, put_size.trans H.sz, Fct.of_all fun z hz => ?_, fun z hz => ?_, fun z hz t ht hzt => ?_, H.bel.trans hbel, fun k hk2 => Nat.lt_of_lt_of_le (H.own k hk2) hbel.size, H.own0⟩
  · rcases List.mem_cons.1 hz with rfl | hz
    · show _ = _
      rw [hput, if_pos rfl]
    · have hm : z ∈ l := by
        have h2 : some z ∈ is.map (fun i => l[i]?) := by rw [hks]; exact List.mem_map.2 ⟨z, hz, rfl⟩
        obtain ⟨i, _, hi⟩ := List.mem_map.1 h2
        exact List.mem_of_getElem? hi
      rw [hold z.1 _ (hall z hz)]
      exact hk.all z hz _ _ _ _ hbel.size hbel.block (H.fc.all z hm)
  · obtain ⟨c2, k1, k2, k3⟩ := H.bx z hz
    exact ⟨c2, (hold z _ (hbx z hz)).trans k1, Nat.lt_of_lt_of_le k2 hbel.size, k3⟩
  · rw [hold z _ (hbx z hz), hold t _ (hbx t ht)]; exact H.ap z hz t ht hzt

/-- What a row of limbs that is written upon leaves as it is. -/
def KeptO (g : Option Nat) (f : FD) : Prop := ∀ (v : Value) (w w' : World) (B : Bx) (b : Nat), g = some b → ¬ B b → Only b w w' → (∃ cs cs' : Array Value, w.heap[b]? = some (.cells cs 44 (0, 0)) ∧ w'.heap[b]? = some (.cells cs' 44 (0, 0)) ∧ cs.size ≤ cs'.size) → f.p v w B → f.p v w' B
inductive KeepO (g : Option Nat) : List (Tmp × FD) → Prop where
  | nil : KeepO g []
  | cons {s : Tmp} {f : FD} {l : List (Tmp × FD)} (h : KeptO g f) (t : KeepO g l) : KeepO g ((s, f) :: l)
theorem KeepO.all {g : Option Nat} {l : List (Tmp × FD)} (h : KeepO g l) : ∀ x ∈ l, KeptO g x.2 := by
  induction h with
  | nil => intro x hx; cases hx
  | cons h t ih =>
    intro x hx
    rcases List.mem_cons.1 hx with rfl | hx
    · exact h
    · exact ih x hx
end

section
variable {P : Program} {need : List (Tmp × FD)} {d : Option Tmp} {ty : TypeId} {pos : String} {af : Array Edge} {g : Option (Nat × Bool)}
end
theorem book_empty {Bs : Nat} {Ow : Nat → Prop} {lo hi lo' hi' : Nat} {w : World} {B : Bx} (v : Value) (h : (IsBook Bs Ow lo hi [] 0).p v w B) : (IsBook Bs Ow lo' hi' [] 0).p v w B := by
  obtain ⟨rv, L, e, h1, h2, h3, h4, h5⟩ := h
  obtain rfl : L = [] := List.length_eq_zero_iff.1 (by omega)
  exact ⟨rv, [], e, h1, h2, h3, h4, fun h hh => by cases hh⟩
end Go.Proofs.YtbcbmkeeoognpaaGreatDoor

