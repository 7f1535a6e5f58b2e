/- Contracts of functions, and plain facts, part 9. -/
import Derived.Laws.Rows
import Derived.Test.YtbcbmkeeoognpaaGreatDoorPk1
import Derived.Test.YtbcbmkeeoognpaaGreatDoorPk4
import Derived.Test.YtbcbmkeeoognpaaGreatDoorPk6
set_option linter.unusedVariables false
set_option linter.unusedSimpArgs false
/- A block of few cells of the call's own (a struct in memory), known whole. -/
namespace Go.Proofs.YtbcbmkeeoognpaaGreatDoor
open Go.RowKit

theorem Num.nonneg {w : World} {ad : Option Addr} {n c : Nat} {V : Int} (h : Num w ad n c V) : 0 ≤ V := by
  obtain ⟨xs, h1, h2, rfl⟩ := h.row
  exact val_nonneg (by omega) h2
theorem Num.lt {w : World} {ad : Option Addr} {n c : Nat} {V : Int} (h : Num w ad n c V) : V < 4294967296 ^ n := by
  obtain ⟨xs, h1, h2, rfl⟩ := h.row
  have := val_lt (by omega) h2
  rwa [h1.len] at this

def Cel (w : World) (b : Nat) (t : TypeId) (cs : List Value) : Prop := w.heap[b]? = some (.cells cs.toArray t (0, 0))
theorem Cel.lt {w : World} {b : Nat} {t : TypeId} {cs : List Value} (h : Cel w b t cs) : b < w.heap.size := (Array.getElem?_eq_some_iff.1 h).1
theorem Cel.cell {w : World} {b : Nat} {t : TypeId} {cs : List Value} (h : Cel w b t cs) (j : Nat) (v : Value) (hj : cs[j]? = some v) : w.cell? ⟨b, j, none⟩ = some v := by
  unfold Cel at h
  simp [World.cell?, h, hj]
theorem Cel.free {w : World} {b : Nat} {t : TypeId} {cs : List Value} (h : Cel w b t cs) (j : Nat) : w.frozen? ⟨b, j, none⟩ = false := by
  unfold Cel at h
  simp [World.frozen?, h]
theorem Cel.set {w : World} {b : Nat} {t : TypeId} {cs : List Value} (h : Cel w b t cs) (j : Nat) (v : Value) : Cel (w.setCell ⟨b, j, none⟩ v) b t (cs.set j v) := by
  unfold Cel at *
  simp only [World.setCell, Array.getElem?_modify, h, if_true, Option.map_some, Option.isSome_none]
  simp
theorem Cel.below {w w1 : World} {b : Nat} {t : TypeId} {cs : List Value} (h : Cel w b t cs) {B : Nat} (hb : Below B w w1) (hB : b < B) : Cel w1 b t cs := (hb.block b hB).trans h
theorem Cel.next {w w1 : World} {b : Nat} {t : TypeId} {cs : List Value} (h : Cel w b t cs) (hb : Below w.heap.size w w1) : Cel w1 b t cs := h.below hb h.lt
theorem Cel.made (w : World) (t : TypeId) (cs : List Value) (b : Nat) (hb : b = w.heap.size) : Cel (w.alloc (.cells cs.toArray t)) b t cs := by
  subst hb
  exact heap_alloc_new w _
theorem Cel.drewN {w : World} {b : Nat} {t : TypeId} {cs : List Value} (h : Cel w b t cs) (n : Nat) : Cel (w.drewN n) b t cs := h
theorem Cel.row {w : World} {b : Nat} {t : TypeId} {cs : List Value} (h : Cel w b t cs) : w.heap[b]? = some (.cells cs.toArray t (0, 0)) := h

end Go.Proofs.YtbcbmkeeoognpaaGreatDoor


/- A row in memory that a call may write upon, known at its first places; one block alone has turned. -/
namespace Go.Proofs.YtbcbmkeeoognpaaGreatDoor
open Go.RowKit

/-- The first cells of block b read as xs; they may be written upon. -/
def RowAt (w : World) (b : Nat) (t : TypeId) (k : IntKind) (xs : List Int) : Prop :=
  ∃ cs, w.heap[b]? = some (.cells cs t (0, 0)) ∧ xs.length ≤ cs.size ∧ ∀ j, j < xs.length → cs[j]? = some (.int k (xs[j]?.getD 0))

theorem RowAt.lt {w : World} {b : Nat} {t : TypeId} {k : IntKind} {xs : List Int} (h : RowAt w b t k xs) : b < w.heap.size := by
  obtain ⟨cs, h1, _⟩ := h
  exact (Array.getElem?_eq_some_iff.1 h1).1
theorem RowAt.cell {w : World} {b : Nat} {t : TypeId} {k : IntKind} {xs : List Int} (h : RowAt w b t k xs) (j : Nat) (hj : j < xs.length) :
    w.cell? ⟨b, j, none⟩ = some (.int k (xs[j]?.getD 0)) := by
  obtain ⟨cs, h1, _, h3⟩ := h
  simp [World.cell?, h1, h3 j hj]
theorem RowAt.free {w : World} {b : Nat} {t : TypeId} {k : IntKind} {xs : List Int} (h : RowAt w b t k xs) (j : Nat) : w.frozen? ⟨b, j, none⟩ = false := by
  obtain ⟨cs, h1, _⟩ := h
  simp [World.frozen?, h1]
theorem RowAt.drewN {w : World} {b : Nat} {t : TypeId} {k : IntKind} {xs : List Int} (h : RowAt w b t k xs) (n : Nat) : RowAt (w.drewN n) b t k xs := h
theorem RowAt.drew {w : World} {b : Nat} {t : TypeId} {k : IntKind} {xs : List Int} (h : RowAt w b t k xs) : RowAt w.drew b t k xs := h
theorem RowAt.set {w : World} {b : Nat} {t : TypeId} {k : IntKind} {xs : List Int} (h : RowAt w b t k xs) (j : Nat) (x : Int) : RowAt (w.setCell ⟨b, j, none⟩ (.int k x)) b t k (xs.set j x) := by
  obtain ⟨cs, h1, h2, h3⟩ := h
  refine ⟨cs.setIfInBounds j (.int k x), ?_, by simpa using h2, fun i hi => ?_⟩
  · simp only [World.setCell, Array.getElem?_modify, h1, if_true, Option.map_some, Option.isSome_none]
    simp
  · rw [List.length_set] at hi
    rw [Array.getElem?_setIfInBounds, List.getElem?_set]
    by_cases e : j = i
    · subst e
      rw [if_pos rfl, if_pos (by omega), if_pos rfl, if_pos hi]
      rfl
    · rw [if_neg e, if_neg e]
      exact h3 i hi
theorem RowAt.below {w w1 : World} {b : Nat} {t : TypeId} {k : IntKind} {xs : List Int} (h : RowAt w b t k xs) {B : Nat} (hb : Below B w w1) (hB : b < B) : RowAt w1 b t k xs := by
  obtain ⟨cs, h1, h2⟩ := h
  exact ⟨cs, (hb.block b hB).trans h1, h2⟩
theorem RowAt.part {w : World} {b : Nat} {t : TypeId} {k : IntKind} {xs : List Int} (h : RowAt w b t k xs) (j n : Nat) (hj : j + n ≤ xs.length) : Rds w k (some ⟨b, j, none⟩) n ((xs.drop j).take n) := by
  refine ⟨by rw [List.length_take, List.length_drop]; omega, fun i hi => ⟨_, rfl, ?_⟩⟩
  have e : (⟨b, j, none⟩ : Addr).add i = ⟨b, j + i, none⟩ := by unfold Addr.add; split <;> simp_all
  rw [e, h.cell (j + i) (by omega), List.getElem?_take_of_lt hi, List.getElem?_drop]
theorem RowAt.first {w : World} {b : Nat} {t : TypeId} {k : IntKind} {xs : List Int} (h : RowAt w b t k xs) (n : Nat) (hn : n ≤ xs.length) : RowAt w b t k (xs.take n) := by
  obtain ⟨cs, h1, h2, h3⟩ := h
  refine ⟨cs, h1, by rw [List.length_take]; omega, fun j hj => ?_⟩
  rw [List.length_take] at hj
  rw [h3 j (by omega), List.getElem?_take_of_lt (by omega)]
theorem RowAt.rds {w : World} {b : Nat} {t : TypeId} {k : IntKind} {xs : List Int} (h : RowAt w b t k xs) : Rds w k (some ⟨b, 0, none⟩) xs.length xs :=
  ⟨rfl, fun j hj => ⟨_, rfl, by rw [plain_add]; exact h.cell j hj⟩⟩
/-- Block b alone has turned. -/
structure Only (b : Nat) (w w' : World) : Prop where
  os : w'.os = w.os
  tape : w'.tape = w.tape
  output : w'.output = w.output
  size : w'.heap.size = w.heap.size
  rest : ∀ i, i ≠ b → w'.heap[i]? = w.heap[i]?
theorem Only.refl (b : Nat) (w : World) : Only b w w := ⟨rfl, rfl, rfl, rfl, fun _ _ => rfl⟩
theorem Only.set {b : Nat} {w W : World} (h : Only b w W) (j : Nat) (v : Value) : Only b w (W.setCell ⟨b, j, none⟩ v) := by
  refine ⟨h.os, h.tape, h.output, ?_, fun i hi => ?_⟩
  · simp only [World.setCell, Array.size_modify]
    exact h.size
  · simp only [World.setCell, Array.getElem?_modify]
    rw [if_neg (fun e => hi e.symm)]
    exact h.rest i hi
theorem Only.drewN {b : Nat} {w W : World} (h : Only b w W) (n : Nat) : Only b w (W.drewN n) := ⟨h.os, h.tape, h.output, h.size, h.rest⟩
theorem Only.drew {b : Nat} {w W : World} (h : Only b w W) : Only b w W.drew := ⟨h.os, h.tape, h.output, h.size, h.rest⟩
theorem Only.trans {b : Nat} {w w1 w2 : World} (h : Only b w w1) (k : Only b w1 w2) : Only b w w2 :=
  ⟨k.os.trans h.os, k.tape.trans h.tape, k.output.trans h.output, k.size.trans h.size, fun i hi => (k.rest i hi).trans (h.rest i hi)⟩
theorem Only.below {B b : Nat} {w0 w w' : World} (hb : Below B w0 w) (hB : B ≤ b) (h : Only b w w') : Below B w0 w' :=
  hb.trans ⟨h.os, h.tape, h.output, Nat.le_of_eq h.size.symm, fun i hi => h.rest i (by omega)⟩
theorem Rds.only {w w1 : World} {k : IntKind} {ad : Option Addr} {n : Nat} {xs : List Int} (h : Rds w k ad n xs) {b : Nat} (ho : Only b w w1) (hne : ∀ a, ad = some a → a.block ≠ b) : Rds w1 k ad n xs :=
  ⟨h.len, fun j hj => by
    obtain ⟨a, e, hc⟩ := h.cell j hj
    refine ⟨a, e, ?_⟩
    rw [← hc]
    have e2 : (a.add j).block = a.block := by unfold Addr.add; split <;> rfl
    have e3 := ho.rest a.block (hne a e)
    simp only [World.cell?, e2, e3]⟩
theorem RowAt.only {w w1 : World} {c : Nat} {t : TypeId} {k : IntKind} {xs : List Int} (h : RowAt w c t k xs) {b : Nat} (ho : Only b w w1) (hne : c ≠ b) : RowAt w1 c t k xs := by
  obtain ⟨cs, h1, h2⟩ := h
  exact ⟨cs, (ho.rest c hne).trans h1, h2⟩
theorem Blk.only {w w1 : World} {c : Nat} {t : TypeId} {k : IntKind} {xs : List Int} (h : Blk w c t k xs) {b : Nat} (ho : Only b w w1) (hne : c ≠ b) : Blk w1 c t k xs := (ho.rest c hne).trans h

/-- The list X put upon Z from place j on. -/
def putAt (Z : List Int) (j : Nat) (X : List Int) : List Int := Z.take j ++ (X ++ Z.drop (j + X.length))
theorem putAt_length (Z : List Int) (j : Nat) (X : List Int) (h : j + X.length ≤ Z.length) : (putAt Z j X).length = Z.length := by
  simp [putAt]
  omega
theorem putAt_dig {b : Int} {Z X : List Int} (hZ : Dig b Z) (hX : Dig b X) (j : Nat) : Dig b (putAt Z j X) := (hZ.take _).append (hX.append (hZ.drop _))
theorem putAt_val (b : Int) (Z : List Int) (j n : Nat) (X : List Int) (hX : X.length = n) (h : j + n ≤ Z.length) :
    val b (putAt Z j X) = val b Z + b ^ j * (val b X - val b ((Z.drop j).take n)) := by
  have e1 : val b Z = val b (Z.take j) + b ^ j * (val b ((Z.drop j).take n) + b ^ n * val b (Z.drop (j + n))) := by
    have h1 := val_split b Z j (by omega)
    have h2 := val_split b (Z.drop j) n (by rw [List.length_drop]; omega)
    rw [List.drop_drop] at h2
    rw [h1, h2]
  unfold putAt
  rw [val_append, val_append, hX, List.length_take, Nat.min_eq_left (by omega), e1]
  generalize val b (List.drop (j + n) Z) = D
  generalize val b (List.take n (List.drop j Z)) = W
  generalize val b X = V
  generalize b ^ j = P
  generalize b ^ n = R
  grind
end Go.Proofs.YtbcbmkeeoognpaaGreatDoor


/- Taking a multiple off, putting it on again, moving up: place by place. -/
namespace Go.Proofs.YtbcbmkeeoognpaaGreatDoor

end Go.Proofs.YtbcbmkeeoognpaaGreatDoor

