/- Contracts of functions, and plain facts, part 21. -/
import Derived.Test.YtbcbmkeeoognpaaGreatDoorPk4
import Derived.Test.YtbcbmkeeoognpaaGreatDoorPk12
import Derived.Test.YtbcbmkeeoognpaaGreatDoorPk20
set_option linter.unusedVariables false
set_option linter.unusedSimpArgs false
/- Lists that are read, and rows of a call's own that are written upon. -/
namespace Go.Proofs.YtbcbmkeeoognpaaGreatDoor
open Go Go.RowKit

def Kd (k : IntKind) : Prop := k = .u32 ∨ k = .u8
/-- The heap has at least m blocks. -/
def Sz (m : Nat) : VP := ⟨fun _ w _ => m ≤ w.heap.size, fun v w B w' B' h hp => Nat.le_trans hp h.size⟩
def PL (k : IntKind) (xs : List Int) (v : Value) (w : World) (B : Bx) : Prop := Kd k ∧ ∃ ad n c, v = .slice ad n c ∧ Rds w k ad n xs
/-- A list that may be read. -/
def IsL (k : IntKind) (xs : List Int) : VP := ⟨PL k xs, fun v w B w' B' h ⟨hk, ad, n, c, e, r⟩ => ⟨hk, ad, n, c, e, r.mv h hk⟩⟩
def PLb (m : Nat) (k : IntKind) (xs : List Int) (v : Value) (w : World) (B : Bx) : Prop := Kd k ∧ ∃ ad n c, v = .slice ad n c ∧ Rds w k ad n xs ∧ (0 < n → ∀ b, blkOf ad = some b → b < m)
/-- ... that lies below block m. -/
def IsLb (m : Nat) (k : IntKind) (xs : List Int) : VP := ⟨PLb m k xs, fun v w B w' B' h ⟨hk, ad, n, c, e, r, hb⟩ => ⟨hk, ad, n, c, e, r.mv h hk, hb⟩⟩
def PApp (g : Option Nat) (m : Nat) (e : TypeId) (k : IntKind) (xs : List Int) (v : Value) (w : World) (B : Bx) : Prop := Kd k ∧ (∀ b, g = some b → ¬ B b) ∧ ∃ ad c, v = .slice ad xs.length c ∧ App m w e k ad xs.length c xs ∧ blkOf ad = g
theorem PApp.st {g : Option Nat} {m : Nat} {e : TypeId} {k : IntKind} {xs : List Int} (v : Value) (w : World) (B : Bx) (w' : World) (B' : Bx) (h : Mv w B w' B') (hp : PApp g m e k xs v w B) : PApp g m e k xs v w' B' := by
  obtain ⟨hk, hb, ad, c, e1, ha, hg⟩ := hp
  have hlt : ∀ b, g = some b → b < w.heap.size := fun b hb2 => (ha.lt b (hg.trans hb2)).2
  refine ⟨hk, fun b hb2 h3 => hb b hb2 (h.box b (hlt b hb2) h3), ad, c, e1, ha.kept fun b hb2 => ?_, hg⟩
  have h3 : g = some b := hg.symm.trans hb2
  exact (h.same b (hlt b h3)).resolve_right fun h4 => hb b h3 h4.1
/-- A row of one's own (block g; at least m) that reads as xs. -/
def IsApp (g : Option Nat) (m : Nat) (e : TypeId) (k : IntKind) (xs : List Int) : VP := ⟨PApp g m e k xs, PApp.st⟩
/-- ... in some block. -/
def IsNew (m : Nat) (e : TypeId) (k : IntKind) (xs : List Int) : VP := ⟨fun v w B => ∃ g, PApp g m e k xs v w B, fun v w B w' B' h ⟨g, hp⟩ => ⟨g, PApp.st v w B w' B' h hp⟩⟩
section
variable {P : Program} {need : List (Tmp × FD)} {d : Option Tmp} {ty : TypeId} {pos : String} {af : Array Edge} {g : Option (Nat × Bool)} {x y : Operand}
end

section
variable {P : Program} {need : List (Tmp × FD)} {d : Option Tmp} {ty : TypeId} {pos : String} {af : Array Edge} {g : Option (Nat × Bool)} {x y : Operand}
end

section
variable {P : Program} {Q : Exit → Act → World → Prop} {N : Nat} {w0 : World} {B0 : Bx} {a : Act} {w : World} {B : Bx} {l : List (Tmp × FD)} {bxs : List Tmp}
/-- What is known of the heap's size stands upon slot s; lists that are at hand lie below. -/
theorem St.mark (H : St N w0 B0 a w B l bxs) (s : Tmp) : ∃ m, w0.heap.size ≤ m ∧ w.heap.size ≤ m ∧ (∀ k xs v, (IsL k xs).p v w B → (IsLb m k xs).p v w B) ∧ St N w0 B0 a w B ((s, .val (Sz m)) :: l) bxs := by
  refine ⟨w.heap.size, H.bel.size, Nat.le_refl _, fun k xs v ⟨hk, ad, n, c, e, r⟩ => ⟨hk, ad, n, c, e, r, fun hn b hb => ?_⟩, H.df, H.sz, ⟨Nat.le_refl _, H.fc⟩, H.bx, H.ap, H.bel, H.own, H.own0⟩
  obtain ⟨a1, rfl, hc⟩ := r.cell 0 hn
  have h2 := World.block_lt_of_cell? w _ hc
  have e2 : (a1.add 0).block = a1.block := by unfold Addr.add; split <;> rfl
  have hb3 : a1.block = b := by injection hb
  rw [e2] at h2
  omega
/-- ... of what a variable holds. -/
theorem St.setwB (H : St N w0 B0 a w B l bxs) (k : Nat) {s : Tmp} {t : TypeId} {n : Nat} {D D' : VP} (hk : l[k]? = some (s, .box t n D)) (hw : ∀ v, D.p v w B → D'.p v w B) {l' : List (Tmp × FD)} (hl : l.set k (s, .box t n D') = l') : St N w0 B0 a w B l' bxs := by
  refine ⟨H.df, H.sz, Fct.of_all fun x hx => ?_, H.bx, H.ap, H.bel, H.own, H.own0⟩
  rw [← hl] at hx
  rcases List.mem_or_eq_of_mem_set hx with h | h
  · exact H.fc.all x h
  · subst h
    obtain ⟨b, cs, h1, h2, h3, h4, h5, h6⟩ := H.fc.get k hk
    exact ⟨b, cs, h1, h2, h3, h4, h5, hw _ h6⟩
theorem St.name (H : St N w0 B0 a w B l bxs) (i : Nat) {s : Tmp} {m : Nat} {e : TypeId} {k : IntKind} {xs : List Int} (hi : l[i]? = some (s, .val (IsNew m e k xs))) : ∃ g, (∀ b, g = some b → m ≤ b ∧ b < w.heap.size) ∧ St N w0 B0 a w B (l.set i (s, .val (IsApp g m e k xs))) bxs := by
  obtain ⟨g, hp⟩ := H.fc.get i hi
  refine ⟨g, fun b hb => ?_, H.df, H.sz, Fct.of_all fun x hx => ?_, H.bx, H.ap, H.bel, H.own, H.own0⟩
  · obtain ⟨_, _, ad, c, _, ha, hg⟩ := hp
    exact ha.lt b (hg.trans hb)
  · rcases List.mem_or_eq_of_mem_set hx with h | h
    · exact H.fc.all x h
    · subst h; exact hp
end

/-- What is not of row g stays. -/
def Kept (g : Option Nat) (m : Nat) (f : FD) : Prop := ∀ (v : Value) (w w' : World) (B : Bx), w.heap.size ≤ w'.heap.size → (∀ i, i < w.heap.size → g ≠ some i → w'.heap[i]? = w.heap[i]?) → (∀ b, g = some b → m ≤ b ∧ ¬ B b) → f.p v w B → f.p v w' B
inductive KeepAll (g : Option Nat) (m : Nat) : List (Tmp × FD) → Prop where
  | nil : KeepAll g m []
  | cons {s : Tmp} {f : FD} {l : List (Tmp × FD)} (h : Kept g m f) (t : KeepAll g m l) : KeepAll g m ((s, f) :: l)
theorem KeepAll.all {g : Option Nat} {m : Nat} {l : List (Tmp × FD)} (h : KeepAll g m l) : ∀ x ∈ l, Kept g m x.2 := by
  induction h with
  | nil => intro x hx; cases hx
  | cons h t ih =>
    intro x hx
    rcases List.mem_cons.1 hx with rfl | hx
    · exact h
    · exact ih x hx

section
variable {P : Program} {ops : Array Oper} {Q : Exit → Act → World → Prop} {N : Nat} {w0 : World} {B0 : Bx} {a : Act} {w : World} {B : Bx} {l : List (Tmp × FD)} {bxs : List Tmp}
end
end Go.Proofs.YtbcbmkeeoognpaaGreatDoor

