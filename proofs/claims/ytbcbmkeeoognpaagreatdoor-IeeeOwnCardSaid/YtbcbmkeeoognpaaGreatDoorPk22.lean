/- Contracts of functions, and plain facts, part 22. -/
import Derived.Test.YtbcbmkeeoognpaaGreatDoorPk8
import Derived.Test.YtbcbmkeeoognpaaGreatDoorPk19
import Derived.Test.YtbcbmkeeoognpaaGreatDoorPk21
set_option linter.unusedVariables false
set_option linter.unusedSimpArgs false
/- A Book in a walk by what the slots hold: lists of one's own, what is kept in it, Apart. -/
set_option maxRecDepth 50000
namespace Go.Proofs.YtbcbmkeeoognpaaGreatDoor
open Go Go.RowKit

def VP.and (D E : VP) : VP := ⟨fun v w B => D.p v w B ∧ E.p v w B, fun v w B w' B' h hp => ⟨D.st _ _ _ _ _ h hp.1, E.st _ _ _ _ _ h hp.2⟩⟩
def PHd (g : Option Nat) (v : Value) (w : World) (B : Bx) : Prop :=
  ∃ ad n c, v = .slice ad n c ∧ n ≤ c ∧ n ≤ 4398046511104 ∧ c ≤ 9223372036854775807 ∧ (c = 0 → g = none) ∧ (0 < c → ∃ b cs, g = some b ∧ ad = some ⟨b, 0, none⟩ ∧ ¬ B b ∧ w.heap[b]? = some (.cells cs 44 (0, 0)) ∧ c ≤ cs.size)
theorem PHd.st {g : Option Nat} (v : Value) (w : World) (B : Bx) (w' : World) (B' : Bx) (h : Mv w B w' B') (hp : PHd g v w B) : PHd g v w' B' := by
  obtain ⟨ad, n, c, e, h1, h2, h3, h4, h5⟩ := hp
  refine ⟨ad, n, c, e, h1, h2, h3, h4, fun hc => ?_⟩
  obtain ⟨b, cs, e1, e2, e3, e4, e5⟩ := h5 hc
  have hlt := (Array.getElem?_eq_some_iff.1 e4).1
  refine ⟨b, cs, e1, e2, fun h6 => e3 (h.box b hlt h6), ?_, e5⟩
  rw [(h.same b hlt).resolve_right fun h6 => e3 h6.1]
  exact e4
/-- A list that is D, in block g (none: it has no memory). -/
def IsHd (g : Option Nat) (D : VP) : VP := ⟨fun v w B => PHd g v w B ∧ D.p v w B, fun v w B w' B' h hp => ⟨PHd.st v w B w' B' h hp.1, D.st _ _ _ _ _ h hp.2⟩⟩
/-- ... in some block from lo on. -/
def IsFr (lo : Nat) (D : VP) : VP := ⟨fun v w B => ∃ g, (∀ b, g = some b → lo ≤ b) ∧ PHd g v w B ∧ D.p v w B, fun v w B w' B' h ⟨g, h1, h2, h3⟩ => ⟨g, h1, PHd.st v w B w' B' h h2, D.st _ _ _ _ _ h h3⟩⟩
theorem weakHd {g : Option Nat} {D : VP} (v : Value) (w : World) (B : Bx) (h : (IsHd g D).p v w B) : D.p v w B := h.2
theorem PHd.of_own {lo : Nat} {w w' : World} {B : Bx} {ad : Option Addr} {n c : Nat} {xs : List Int} (hl : lo ≤ w.heap.size) (hB : Own1 B w) (o : Own w.heap.size w' 44 .u32 ad n c xs) (hn : n ≤ 4398046511104) : ∃ g, (∀ b, g = some b → lo ≤ b) ∧ PHd g (.slice ad n c) w' B ∧ ∀ b, g = some b → 0 < c ∧ blkOf ad = some b := by
  by_cases hc : 0 < c
  · obtain ⟨b, cs, e, h1, h2, h3, _⟩ := o.row hc
    refine ⟨some b, fun x hx => ?_, ⟨ad, n, c, rfl, o.le, hn, o.big, fun h => by omega, fun _ => ⟨b, cs, rfl, e, fun h => ?_, h2, h3⟩⟩, fun x hx => ?_⟩
    · injection hx with hx; omega
    · have := hB b h; omega
    · injection hx with hx; subst hx; exact ⟨hc, by rw [e]; rfl⟩
  · exact ⟨none, (fun x hx => by cases hx), ⟨ad, n, c, rfl, o.le, hn, o.big, fun _ => rfl, fun h => absurd h hc⟩, (fun x hx => by cases hx)⟩

/-- The book's cells: its lists lie in blocks from lo to hi, or in those of ex. -/
def PBook (Bs : Nat) (Ow : Nat → Prop) (lo hi : Nat) (ex : List (Option Nat)) (cnt : Nat) (v : Value) (w : World) (B : Bx) : Prop :=
  ∃ rv L, v = .agg (bookCells L.length rv) ∧ L.length ≤ cnt ∧ w.ownsRow Bs 150 3 rv L.length (hc 0 L) ∧ (∀ b, rv.ownBlock = some b → ¬ B b ∧ Ow b) ∧ Sep L ∧
    ∀ h ∈ L, HdOk Bs w h ∧ (0 < h.c → ∃ b, blkOf h.ad = some b ∧ ¬ B b ∧ ((lo ≤ b ∧ b < hi) ∨ some b ∈ ex))
theorem PBook.st {Bs : Nat} {Ow : Nat → Prop} {lo hi : Nat} {ex : List (Option Nat)} {cnt : Nat} (v : Value) (w : World) (B : Bx) (w' : World) (B' : Bx) (h : Mv w B w' B') (hp : PBook Bs Ow lo hi ex cnt v w B) : PBook Bs Ow lo hi ex cnt v w' B' := by
  obtain ⟨rv, L, e, h1, h2, h3, h4, h5⟩ := hp
  refine ⟨rv, L, e, h1, ⟨h2.1, ?_⟩, fun b hb => ⟨fun h6 => ?_, (h3 b hb).2⟩, h4, fun q hq => ⟨⟨(h5 q hq).1.le, (h5 q hq).1.big, (h5 q hq).1.cap, fun hc => ?_⟩, fun hc => ?_⟩⟩
  · rcases h2.2 with h6 | ⟨g, cap, cur, e1, e2, e3, e4⟩
    · exact .inl h6
    · refine .inr ⟨g, cap, cur, e1, e2, ?_, e4⟩
      rw [(h.same g (Array.getElem?_eq_some_iff.1 e3).1).resolve_right fun h6 => (h3 g (by rw [e1]; rfl)).1 h6.1]
      exact e3
  · exact (h3 b hb).1 (h.box b (h2.lt b hb).2 h6)
  · obtain ⟨g, cs, e1, e2, e3, e4⟩ := (h5 q hq).1.row hc
    obtain ⟨b, f1, f2, _⟩ := (h5 q hq).2 hc
    rw [e1] at f1
    have f1 : g = b := by injection f1
    subst f1
    refine ⟨g, cs, e1, e2, ?_, e4⟩
    rw [(h.same g (Array.getElem?_eq_some_iff.1 e3).1).resolve_right fun h6 => f2 h6.1]
    exact e3
  · obtain ⟨g, cs, e1, e2, e3, e4⟩ := (h5 q hq).1.row hc
    obtain ⟨b, f1, f2, f3⟩ := (h5 q hq).2 hc
    rw [e1] at f1
    have f4 : g = b := by injection f1
    subst f4
    exact ⟨g, by rw [e1]; rfl, fun h6 => f2 (h.box g (Array.getElem?_eq_some_iff.1 e3).1 h6), f3⟩
def IsBook (Bs : Nat) (Ow : Nat → Prop) (lo hi : Nat) (ex : List (Option Nat)) (cnt : Nat) : VP := ⟨PBook Bs Ow lo hi ex cnt, PBook.st⟩
theorem book_new (Bs : Nat) (Ow : Nat → Prop) (lo hi : Nat) (ex : List (Option Nat)) (w : World) (B : Bx) : (IsBook Bs Ow lo hi ex 0).p (.agg (bookCells 0 (.slice none 0 0))) w B :=
  ⟨.slice none 0 0, [], rfl, Nat.le_refl _, World.ownsRow_nil _ _ _ _, fun b hb => by simp [Value.ownBlock] at hb, fun i j hi hj h => by simp at h, fun h hh => by cases hh⟩
/-- What is not the book's stays. -/
def KeptV (Bs : Nat) (D : VP) : Prop := ∀ (v : Value) (w w' : World) (B : Bx) (b : Nat), Bs ≤ b → B b → Kp Bs b w w' → D.p v w B → D.p v w' B
def KeptB (Bs : Nat) : FD → Prop
  | .val D => KeptV Bs D
  | .box t n D => t ≠ 150 ∧ KeptV Bs D
  | .ptr .. => False
theorem keptB_lit {Bs : Nat} {u : Value} : KeptB Bs (.val (Lit u)) := fun _ _ _ _ _ _ _ _ h => h
theorem keptB_sz {Bs q : Nat} : KeptB Bs (.val (Sz q)) := fun _ _ _ _ _ _ _ k h => Nat.le_trans h k.size
theorem Kp.limbs {Bs b : Nat} {w w' : World} (k : Kp Bs b w w') {g : Nat} {cs : Array Value} (hg : w.heap[g]? = some (.cells cs 44 (0, 0))) (hne : g ≠ b) : w'.heap[g]? = some (.cells cs 44 (0, 0)) := by
  rcases k.rest g (Array.getElem?_eq_some_iff.1 hg).1 hne with e | ⟨_, ds, e⟩
  · exact e.trans hg
  · rw [hg] at e
    injection e with e
    injection e with _ e
    exact absurd e (by decide)
theorem PHd.keptB {Bs : Nat} {g : Option Nat} {v : Value} {w w' : World} {B : Bx} {b : Nat} (hb : B b) (k : Kp Bs b w w') (h : PHd g v w B) : PHd g v w' B := by
  obtain ⟨ad, n, c, e, h1, h2, h3, h4, h5⟩ := h
  refine ⟨ad, n, c, e, h1, h2, h3, h4, fun hc => ?_⟩
  obtain ⟨x, cs, e1, e2, e3, e4, e5⟩ := h5 hc
  exact ⟨x, cs, e1, e2, e3, k.limbs e4 (fun h6 => e3 (h6 ▸ hb)), e5⟩
theorem keptB_box {Bs n : Nat} {t : TypeId} {D : VP} (ht : decide (t ≠ 150) = true) (hD : KeptB Bs (.val D)) : KeptB Bs (.box t n D) := ⟨of_decide_eq_true ht, hD⟩
theorem KeptB.val {Bs : Nat} {D : VP} (h : KeptB Bs (.val D)) : KeptV Bs D := h
theorem KeptB.run {Bs : Nat} {f : FD} (h : KeptB Bs f) {v : Value} {w w' : World} {B : Bx} {b : Nat} (hbs : Bs ≤ b) (hb : B b) (hv : f.isBox = true → v ≠ .pointer (some ⟨b, 0, none⟩)) (k : Kp Bs b w w') (hp : f.p v w B) : f.p v w' B := by
  cases f with
  | val D => exact h v w w' B b hbs hb k hp
  | ptr t n D off => exact h.elim
  | box t n D =>
    obtain ⟨ht, hD⟩ := h
    obtain ⟨c, cs, h1, h2, h3, h4, h5, h6⟩ := hp
    have hne : c ≠ b := fun e => hv rfl (by rw [h1, e])
    refine ⟨c, cs, h1, h2, Nat.lt_of_lt_of_le h3 k.size, ?_, h5, hD _ _ _ _ _ hbs hb k h6⟩
    rcases k.rest c h3 hne with e | ⟨_, ds, e⟩
    · exact e.trans h4
    · rw [h4] at e
      injection e with e
      injection e with _ e
      exact absurd e ht
inductive KeepB (Bs : Nat) : List (Tmp × FD) → Prop where
  | nil : KeepB Bs []
  | cons {s : Tmp} {f : FD} {l : List (Tmp × FD)} (h : KeptB Bs f) (t : KeepB Bs l) : KeepB Bs ((s, f) :: l)
theorem KeepB.all {Bs : Nat} {l : List (Tmp × FD)} (h : KeepB Bs l) : ∀ x ∈ l, KeptB Bs x.2 := by
  induction h with
  | nil => intro x hx; cases hx
  | cons h t ih =>
    intro x hx
    rcases List.mem_cons.1 hx with rfl | hx
    · exact h
    · exact ih x hx
section
variable {P : Program} {ops : Array Oper} {Q : Exit → Act → World → Prop} {N : Nat} {w0 : World} {B0 : Bx} {a : Act} {w : World} {B : Bx} {l : List (Tmp × FD)} {bxs : List Tmp}
/-- The book out of what a slot holds. -/
theorem St.book (H : St N w0 B0 a w B l bxs) {Ow : Nat → Prop} {lo hi cnt : Nat} {ex : List (Option Nat)} {p : Tmp} (kp : Nat) (hp : l[kp]? = some (p, .box 42 15 (IsBook w0.heap.size Ow lo hi ex cnt))) (hpb : p ∈ bxs) (hcnt : cnt ≤ 1000000) :
    ∃ b rv L, a.tmps.getD p undef = .pointer (some ⟨b, 0, none⟩) ∧ B b ∧ w0.heap.size ≤ b ∧ BookAt w0.heap.size w b rv L ∧ L.length ≤ cnt ∧ (∀ h ∈ L, 0 < h.c → ∃ x, blkOf h.ad = some x ∧ ¬ B x ∧ ((lo ≤ x ∧ x < hi) ∨ some x ∈ ex)) ∧ (∀ x, rv.ownBlock = some x → ¬ B x ∧ Ow x) := by
  obtain ⟨b, cs, e1, h1, h2, h3, h4, rv, L, e2, g1, g2, g3, g4, g5⟩ := H.fc.get kp hp
  injection e2 with e2
  subst e2
  obtain ⟨c, k1, k2, k3⟩ := H.bx p hpb
  rw [e1] at k1
  have e3 : b = c := by injection k1 with k1; injection k1 with k1; injection k1
  subst e3
  exact ⟨b, rv, L, e1, h1, k3, ⟨k3, h3, g2, by omega, fun h hh => (g5 h hh).1, g4⟩, g1, fun h hh => (g5 h hh).2, g3⟩
theorem PHd.lt {g : Option Nat} {v : Value} {w : World} {B : Bx} (h : PHd g v w B) (b : Nat) (hb : g = some b) : b < w.heap.size := by
  obtain ⟨ad, n, c, e, k1, k2, k3, k4, k5⟩ := h
  by_cases hc : 0 < c
  · obtain ⟨b2, cs, f1, f2, f3, f4, f5⟩ := k5 hc
    rw [hb] at f1
    have f1 : b = b2 := by injection f1
    rw [f1]
    exact (Array.getElem?_eq_some_iff.1 f4).1
  · rw [k4 (by omega)] at hb; cases hb
/-- The book's lists lie below the mark. -/
theorem St.rebook (H : St N w0 B0 a w B l bxs) (kp : Nat) {p : Tmp} {Ow : Nat → Prop} {lo hi m cnt : Nat} {ex : List (Option Nat)} (hp : l[kp]? = some (p, .box 42 15 (IsBook w0.heap.size Ow lo hi ex cnt))) (hm : w.heap.size ≤ m) (hex : ∀ b, some b ∈ ex → lo ≤ b) {l' : List (Tmp × FD)}
    (hl : l.set kp (p, .box 42 15 (IsBook w0.heap.size Ow lo m [] cnt)) = l') : St N w0 B0 a w B l' bxs := by
  refine H.setwB kp hp (fun v hv => ?_) hl
  obtain ⟨rv, L, e, h1, h2, h3, h4, h5⟩ := hv
  refine ⟨rv, L, e, h1, h2, h3, h4, fun q hq => ⟨(h5 q hq).1, fun hc => ?_⟩⟩
  obtain ⟨b, f1, f2, f3⟩ := (h5 q hq).2 hc
  obtain ⟨g, cs, e1, e2, e3, e4⟩ := (h5 q hq).1.row hc
  rw [e1] at f1
  have f4 : g = b := by injection f1
  subst f4
  have hlt := (Array.getElem?_eq_some_iff.1 e3).1
  refine ⟨g, by rw [e1]; rfl, f2, .inl ⟨?_, by omega⟩⟩
  rcases f3 with f3 | f3
  · exact f3.1
  · exact hex g f3
end
theorem zeroBook : (Tryz.prog.info? 42).map (·.zero) = some (some (.agg (bookCells 0 (.slice none 0 0)))) := by kernel_rfl
theorem ok_allocBook {Bs : Nat} {Ow : Nat → Prop} {lo hi : Nat} {need : List (Tmp × FD)} {d : Option Tmp} {ty : TypeId} {pos : String} {af : Array Edge} {g : Option (Nat × Bool)} : OpOk Tryz.prog ⟨d, .alloc 42, ty, pos, af, g⟩ need (.box 42 15 (IsBook Bs Ow lo hi [] 0)) true := ok_alloc zeroBook rfl fun w B => book_new Bs Ow lo hi [] w B
end Go.Proofs.YtbcbmkeeoognpaaGreatDoor


/- A copy of a list that is then made longer; one part of a variable written upon; a region's end in any order. -/
namespace Go.Proofs.YtbcbmkeeoognpaaGreatDoor
open Go Go.RowKit

section
variable {P : Program} {need : List (Tmp × FD)} {d : Option Tmp} {ty : TypeId} {pos : String} {af : Array Edge} {g : Option (Nat × Bool)} {x y : Operand}
end

section
variable {P : Program} {ops : Array Oper} {Q : Exit → Act → World → Prop} {md : Region.Mode} {N : Nat} {w0 : World} {B0 : Bx} {a : Act} {w : World} {B : Bx} {l : List (Tmp × FD)} {bxs : List Tmp}
end
end Go.Proofs.YtbcbmkeeoognpaaGreatDoor

