/- Contracts of functions, and plain facts, part 22. -/
import Derived.Test.YtbcbmkeeoognpaaGreatDoorPk8
import Derived.Test.YtbcbmkeeoognpaaGreatDoorPk19
import Derived.Test.YtbcbmkeeoognpaaGreatDoorPk21
set_option linter.unusedVariables false
set_option linter.unusedSimpArgs false
/- A Book in a walk by what the slots hold: lists of one's own, what is kept in it, Apart. -/
set_option maxRecDepth 50000
namespace Go.Proofs.YtbcbmkeeoognpaaGreatDoor
open Go Go.RowKit

def VP.and (D E : VP) : VP := ⟨fun v w B => D.p v w B ∧ E.p v w B, fun v w B w' B' h hp => ⟨D.st _ _ _ _ _ h hp.1, E.st _ _ _ _ _ h hp.2⟩⟩
def PHd (g : Option Nat) (v : Value) (w : World) (B : Bx) : Prop :=
  ∃ ad n c, v = .slice ad n c ∧ n ≤ c ∧ n ≤ 4398046511104 ∧ c ≤ 9223372036854775807 ∧ (c = 0 → g = none) ∧ (0 < c → ∃ b cs, g = some b ∧ ad = some ⟨b, 0, none⟩ ∧ ¬ B b ∧ w.heap[b]? = some (.cells cs 44 (0, 0)) ∧ c ≤ cs.size)
theorem PHd.st {g : Option Nat} (v : Value) (w : World) (B : Bx) (w' : World) (B' : Bx) (h : Mv w B w' B') (hp : PHd g v w B) : PHd g v w' B' := by
  obtain ⟨ad, n, c, e, h1, h2, h3, h4, h5⟩ := hp
  refine ⟨ad, n, c, e, h1, h2, h3, h4, fun hc => ?_⟩
  obtain ⟨b, cs, e1, e2, e3, e4, e5⟩ := h5 hc
  have hlt := (Array.getElem?_eq_some_iff.1 e4).1
  refine ⟨b, cs, e1, e2, fun h6 => e3 (h.box b hlt h6), ?_, e5⟩
  rw [(h.same b hlt).resolve_right fun h6 => e3 h6.1]
  exact e4
/-- A list that is D, in block g (none: it has no memory). -/
def IsHd (g : Option Nat) (D : VP) : VP := ⟨fun v w B => PHd g v w B ∧ D.p v w B, fun v w B w' B' h hp => ⟨PHd.st v w B w' B' h hp.1, D.st _ _ _ _ _ h hp.2⟩⟩
/-- ... in some block from lo on. -/
def IsFr (lo : Nat) (D : VP) : VP := ⟨fun v w B => ∃ g, (∀ b, g = some b → lo ≤ b) ∧ PHd g v w B ∧ D.p v w B, fun v w B w' B' h ⟨g, h1, h2, h3⟩ => ⟨g, h1, PHd.st v w B w' B' h h2, D.st _ _ _ _ _ h h3⟩⟩
theorem weakHd {g : Option Nat} {D : VP} (v : Value) (w : World) (B : Bx) (h : (IsHd g D).p v w B) : D.p v w B := h.2
theorem weakFr {lo : Nat} {D : VP} (v : Value) (w : World) (B : Bx) (h : (IsFr lo D).p v w B) : D.p v w B := by
  obtain ⟨g, _, _, h⟩ := h
  exact h
theorem PHd.of_own {lo : Nat} {w w' : World} {B : Bx} {ad : Option Addr} {n c : Nat} {xs : List Int} (hl : lo ≤ w.heap.size) (hB : Own1 B w) (o : Own w.heap.size w' 44 .u32 ad n c xs) (hn : n ≤ 4398046511104) : ∃ g, (∀ b, g = some b → lo ≤ b) ∧ PHd g (.slice ad n c) w' B ∧ ∀ b, g = some b → 0 < c ∧ blkOf ad = some b := by
  by_cases hc : 0 < c
  · obtain ⟨b, cs, e, h1, h2, h3, _⟩ := o.row hc
    refine ⟨some b, fun x hx => ?_, ⟨ad, n, c, rfl, o.le, hn, o.big, fun h => by omega, fun _ => ⟨b, cs, rfl, e, fun h => ?_, h2, h3⟩⟩, fun x hx => ?_⟩
    · injection hx with hx; omega
    · have := hB b h; omega
    · injection hx with hx; subst hx; exact ⟨hc, by rw [e]; rfl⟩
  · exact ⟨none, (fun x hx => by cases hx), ⟨ad, n, c, rfl, o.le, hn, o.big, fun _ => rfl, fun h => absurd h hc⟩, (fun x hx => by cases hx)⟩

/-- The book's cells: its lists lie in blocks from lo to hi, or in those of ex. -/
def PBook (Bs : Nat) (Ow : Nat → Prop) (lo hi : Nat) (ex : List (Option Nat)) (cnt : Nat) (v : Value) (w : World) (B : Bx) : Prop :=
  ∃ rv L, v = .agg (bookCells L.length rv) ∧ L.length ≤ cnt ∧ w.ownsRow Bs 150 3 rv L.length (hc 0 L) ∧ (∀ b, rv.ownBlock = some b → ¬ B b ∧ Ow b) ∧ Sep L ∧
    ∀ h ∈ L, HdOk Bs w h ∧ (0 < h.c → ∃ b, blkOf h.ad = some b ∧ ¬ B b ∧ ((lo ≤ b ∧ b < hi) ∨ some b ∈ ex))
theorem PBook.st {Bs : Nat} {Ow : Nat → Prop} {lo hi : Nat} {ex : List (Option Nat)} {cnt : Nat} (v : Value) (w : World) (B : Bx) (w' : World) (B' : Bx) (h : Mv w B w' B') (hp : PBook Bs Ow lo hi ex cnt v w B) : PBook Bs Ow lo hi ex cnt v w' B' := by
  obtain ⟨rv, L, e, h1, h2, h3, h4, h5⟩ := hp
  refine ⟨rv, L, e, h1, ⟨h2.1, ?_⟩, fun b hb => ⟨fun h6 => ?_, (h3 b hb).2⟩, h4, fun q hq => ⟨⟨(h5 q hq).1.le, (h5 q hq).1.big, (h5 q hq).1.cap, fun hc => ?_⟩, fun hc => ?_⟩⟩
  · rcases h2.2 with h6 | ⟨g, cap, cur, e1, e2, e3, e4⟩
    · exact .inl h6
    · refine .inr ⟨g, cap, cur, e1, e2, ?_, e4⟩
      rw [(h.same g (Array.getElem?_eq_some_iff.1 e3).1).resolve_right fun h6 => (h3 g (by rw [e1]; rfl)).1 h6.1]
      exact e3
  · exact (h3 b hb).1 (h.box b (h2.lt b hb).2 h6)
  · obtain ⟨g, cs, e1, e2, e3, e4⟩ := (h5 q hq).1.row hc
    obtain ⟨b, f1, f2, _⟩ := (h5 q hq).2 hc
    rw [e1] at f1
    have f1 : g = b := by injection f1
    subst f1
    refine ⟨g, cs, e1, e2, ?_, e4⟩
    rw [(h.same g (Array.getElem?_eq_some_iff.1 e3).1).resolve_right fun h6 => f2 h6.1]
    exact e3
  · obtain ⟨g, cs, e1, e2, e3, e4⟩ := (h5 q hq).1.row hc
    obtain ⟨b, f1, f2, f3⟩ := (h5 q hq).2 hc
    rw [e1] at f1
    have f4 : g = b := by injection f1
    subst f4
    exact ⟨g, by rw [e1]; rfl, fun h6 => f2 (h.box g (Array.getElem?_eq_some_iff.1 e3).1 h6), f3⟩
def IsBook (Bs : Nat) (Ow : Nat → Prop) (lo hi : Nat) (ex : List (Option Nat)) (cnt : Nat) : VP := ⟨PBook Bs Ow lo hi ex cnt, PBook.st⟩
theorem book_new (Bs : Nat) (Ow : Nat → Prop) (lo hi : Nat) (ex : List (Option Nat)) (w : World) (B : Bx) : (IsBook Bs Ow lo hi ex 0).p (.agg (bookCells 0 (.slice none 0 0))) w B :=
  ⟨.slice none 0 0, [], rfl, Nat.le_refl _, World.ownsRow_nil _ _ _ _, fun b hb => by simp [Value.ownBlock] at hb, fun i j hi hj h => by simp at h, fun h hh => by cases hh⟩
/-- What is not the book's stays. -/
def KeptV (Bs : Nat) (D : VP) : Prop := ∀ (v : Value) (w w' : World) (B : Bx) (b : Nat), Bs ≤ b → B b → Kp Bs b w w' → D.p v w B → D.p v w' B
def KeptB (Bs : Nat) : FD → Prop
  | .val D => KeptV Bs D
  | .box t n D => t ≠ 150 ∧ KeptV Bs D
  | .ptr .. => False
theorem keptB_lit {Bs : Nat} {u : Value} : KeptB Bs (.val (Lit u)) := fun _ _ _ _ _ _ _ _ h => h
theorem keptB_sz {Bs q : Nat} : KeptB Bs (.val (Sz q)) := fun _ _ _ _ _ _ _ k h => Nat.le_trans h k.size
theorem Kp.limbs {Bs b : Nat} {w w' : World} (k : Kp Bs b w w') {g : Nat} {cs : Array Value} (hg : w.heap[g]? = some (.cells cs 44 (0, 0))) (hne : g ≠ b) : w'.heap[g]? = some (.cells cs 44 (0, 0)) := by
  rcases k.rest g (Array.getElem?_eq_some_iff.1 hg).1 hne with e | ⟨_, ds, e⟩
  · exact e.trans hg
  · rw [hg] at e
    injection e with e
    injection e with _ e
    exact absurd e (by decide)
theorem PHd.keptB {Bs : Nat} {g : Option Nat} {v : Value} {w w' : World} {B : Bx} {b : Nat} (hb : B b) (k : Kp Bs b w w') (h : PHd g v w B) : PHd g v w' B := by
  obtain ⟨ad, n, c, e, h1, h2, h3, h4, h5⟩ := h
  refine ⟨ad, n, c, e, h1, h2, h3, h4, fun hc => ?_⟩
  obtain ⟨x, cs, e1, e2, e3, e4, e5⟩ := h5 hc
  exact ⟨x, cs, e1, e2, e3, k.limbs e4 (fun h6 => e3 (h6 ▸ hb)), e5⟩
/-- A word on a slice that hangs upon its own block alone. -/
def Loc (D : VP) : Prop := ∀ (ad : Option Addr) (n c : Nat) (w w' : World) (B : Bx), n ≤ c → (0 < c → ∀ b, blkOf ad = some b → w'.heap[b]? = w.heap[b]?) → D.p (.slice ad n c) w B → D.p (.slice ad n c) w' B
theorem loc_C {V : Int} : Loc (IsC V) := fun ad n c w w' B hn hb ⟨ad2, n2, c2, e, h2, h3, h4⟩ => by
  injection e with e1 e2 e3
  subst e1 e2 e3
  exact ⟨ad, n, c, rfl, ⟨h2.le, h2.rds.kept fun h => hb (by omega)⟩, h3, h4⟩
/-- A copy, a mark behind it. -/
def IsTN (n : Nat) (xs : List Int) : VP := ⟨fun v w B => ∃ b, v = .slice (some ⟨b, 0, none⟩) n (n + 1) ∧ Tw w b n xs, fun v w B w' B' h hp => by
  obtain ⟨b, e, k⟩ := hp
  have hlt := k.blk.lt
  refine ⟨b, e, ⟨k.len, ?_, k.dig⟩⟩
  have hblk := k.blk
  have h0 := hblk.cell 0 (by simp)
  unfold Blk at *
  rw [(h.same b hlt).resolve_right (fun h2 => h2.2 _ _ _ rfl (.inl rfl) h0)]
  exact hblk⟩
theorem loc_TN {n : Nat} {xs : List Int} : Loc (IsTN n xs) := fun ad m c w w' B hn hb ⟨b, e, k⟩ => by
  injection e with e1 e2 e3
  subst e1 e2 e3
  refine ⟨b, rfl, ⟨k.len, ?_, k.dig⟩⟩
  have hblk := k.blk
  unfold Blk at *
  rw [hb (by omega) b rfl]
  exact hblk
theorem keptB_hd {Bs : Nat} {g : Option Nat} {D : VP} (hD : Loc D) : KeptB Bs (.val (IsHd g D)) := fun v w w' B b hbs hb k ⟨h1, h2⟩ => by
  refine ⟨h1.keptB hb k, ?_⟩
  obtain ⟨ad, n, c, e, g1, g2, g3, g4, g5⟩ := h1
  subst e
  refine hD ad n c w w' B g1 (fun hc x hx => ?_) h2
  obtain ⟨y, cs, f1, f2, f3, f4, f5⟩ := g5 hc
  rw [f2] at hx
  have hx : y = x := by injection hx
  subst hx
  rw [f4]
  exact k.limbs f4 (fun h6 => f3 (h6 ▸ hb))
/-- A list that was handed in, of n limbs. -/
def PAn (n : Nat) (xs : List Int) (v : Value) (w : World) (B : Bx) : Prop := ∃ ad c, v = .slice ad n c ∧ Arg w ad n c xs
def IsAn (n : Nat) (xs : List Int) : VP := ⟨PAn n xs, fun v w B w' B' h ⟨ad, c, e, k⟩ => ⟨ad, c, e, ⟨k.le, k.rds.mv h (.inl rfl), k.dig⟩⟩⟩
def IsAb (m n : Nat) (xs : List Int) : VP := ⟨fun v w B => ∃ ad c, v = .slice ad n c ∧ Arg w ad n c xs ∧ (0 < n → ∀ b, blkOf ad = some b → b < m), fun v w B w' B' h ⟨ad, c, e, k, hb⟩ => ⟨ad, c, e, ⟨k.le, k.rds.mv h (.inl rfl), k.dig⟩, hb⟩⟩
theorem weakAb {m n : Nat} {xs : List Int} (v : Value) (w : World) (B : Bx) (h : (IsAb m n xs).p v w B) : (IsAn n xs).p v w B := by
  obtain ⟨ad, c, e, k, _⟩ := h
  exact ⟨ad, c, e, k⟩
theorem weakAnM {n : Nat} {xs : List Int} (hn : n ≤ 274877906944) (v : Value) (w : World) (B : Bx) (h : (IsAn n xs).p v w B) : (IsM (val 4294967296 xs)).p v w B := by
  obtain ⟨ad, c, e, k⟩ := h
  exact ⟨ad, n, c, e, k.num, hn⟩
theorem hardAn {m : Nat} {w : World} {B : Bx} (hm : w.heap.size ≤ m) {n : Nat} {xs : List Int} (v : Value) (h : (IsAn n xs).p v w B) : (IsAb m n xs).p v w B := by
  obtain ⟨ad, c, e, k⟩ := h
  refine ⟨ad, c, e, k, fun hn b hb => ?_⟩
  obtain ⟨a1, e1, hc⟩ := k.rds.cell 0 hn
  subst e1
  have h2 := World.block_lt_of_cell? w _ hc
  have e2 : (a1.add 0).block = a1.block := by unfold Addr.add; split <;> rfl
  rw [e2] at h2
  have hb3 : a1.block = b := by injection hb
  omega
theorem keptB_ab {Bs q n : Nat} {xs : List Int} (hq : q ≤ Bs) : KeptB Bs (.val (IsAb q n xs)) := fun v w w' B b hbs hb kp ⟨ad, c, e, k, hl⟩ => by
  refine ⟨ad, c, e, ⟨k.le, k.rds.kept fun hn x hx => ?_, k.dig⟩, hl⟩
  have h1 := hl hn x hx
  obtain ⟨a1, e1, hc⟩ := k.rds.cell 0 hn
  subst e1
  have h2 := World.block_lt_of_cell? w _ hc
  have e2 : (a1.add 0).block = a1.block := by unfold Addr.add; split <;> rfl
  rw [e2] at h2
  have hb3 : a1.block = x := by injection hx
  exact (kp.rest x (by omega) (by omega)).resolve_right (by omega)
theorem keptB_box {Bs n : Nat} {t : TypeId} {D : VP} (ht : decide (t ≠ 150) = true) (hD : KeptB Bs (.val D)) : KeptB Bs (.box t n D) := ⟨of_decide_eq_true ht, hD⟩
theorem KeptB.val {Bs : Nat} {D : VP} (h : KeptB Bs (.val D)) : KeptV Bs D := h
theorem KeptB.run {Bs : Nat} {f : FD} (h : KeptB Bs f) {v : Value} {w w' : World} {B : Bx} {b : Nat} (hbs : Bs ≤ b) (hb : B b) (hv : f.isBox = true → v ≠ .pointer (some ⟨b, 0, none⟩)) (k : Kp Bs b w w') (hp : f.p v w B) : f.p v w' B := by
  cases f with
  | val D => exact h v w w' B b hbs hb k hp
  | ptr t n D off => exact h.elim
  | box t n D =>
    obtain ⟨ht, hD⟩ := h
    obtain ⟨c, cs, h1, h2, h3, h4, h5, h6⟩ := hp
    have hne : c ≠ b := fun e => hv rfl (by rw [h1, e])
    refine ⟨c, cs, h1, h2, Nat.lt_of_lt_of_le h3 k.size, ?_, h5, hD _ _ _ _ _ hbs hb k h6⟩
    rcases k.rest c h3 hne with e | ⟨_, ds, e⟩
    · exact e.trans h4
    · rw [h4] at e
      injection e with e
      injection e with _ e
      exact absurd e ht
inductive KeepB (Bs : Nat) : List (Tmp × FD) → Prop where
  | nil : KeepB Bs []
  | cons {s : Tmp} {f : FD} {l : List (Tmp × FD)} (h : KeptB Bs f) (t : KeepB Bs l) : KeepB Bs ((s, f) :: l)
theorem KeepB.all {Bs : Nat} {l : List (Tmp × FD)} (h : KeepB Bs l) : ∀ x ∈ l, KeptB Bs x.2 := by
  induction h with
  | nil => intro x hx; cases hx
  | cons h t ih =>
    intro x hx
    rcases List.mem_cons.1 hx with rfl | hx
    · exact h
    · exact ih x hx
/-- What a function does that keeps one list in a book. -/
def KeepFn (P : Program) (f : FuncId) : Prop := ∀ (B b : Nat) (v : Value) (L : List Hd) (ad : Option Addr) (n c : Nat) (w : World), BookAt B w b v L → B ≤ w.heap.size → L.length < 1000000 →
  HdOk B w ⟨ad, n, c, none, 0, 0⟩ → (∀ h ∈ L, 0 < h.c → 0 < c → blkOf h.ad ≠ blkOf ad) →
    Calls P f #[.pointer (some ⟨b, 0, none⟩), .slice ad n c] w (fun e w' => e = .returned (.tuple #[]) ∧ Kp B b w w' ∧ ∃ v', BookAt B w' b v' (L ++ [⟨ad, n, c, none, 0, 0⟩]) ∧ ∀ x, v'.ownBlock = some x → v.ownBlock = some x ∨ w.heap.size ≤ x)
section
variable {P : Program} {ops : Array Oper} {Q : Exit → Act → World → Prop} {N : Nat} {w0 : World} {B0 : Bx} {a : Act} {w : World} {B : Bx} {l : List (Tmp × FD)} {bxs : List Tmp}
/-- The book out of what a slot holds. -/
theorem St.book (H : St N w0 B0 a w B l bxs) {Ow : Nat → Prop} {lo hi cnt : Nat} {ex : List (Option Nat)} {p : Tmp} (kp : Nat) (hp : l[kp]? = some (p, .box 42 15 (IsBook w0.heap.size Ow lo hi ex cnt))) (hpb : p ∈ bxs) (hcnt : cnt ≤ 1000000) :
    ∃ b rv L, a.tmps.getD p undef = .pointer (some ⟨b, 0, none⟩) ∧ B b ∧ w0.heap.size ≤ b ∧ BookAt w0.heap.size w b rv L ∧ L.length ≤ cnt ∧ (∀ h ∈ L, 0 < h.c → ∃ x, blkOf h.ad = some x ∧ ¬ B x ∧ ((lo ≤ x ∧ x < hi) ∨ some x ∈ ex)) ∧ (∀ x, rv.ownBlock = some x → ¬ B x ∧ Ow x) := by
  obtain ⟨b, cs, e1, h1, h2, h3, h4, rv, L, e2, g1, g2, g3, g4, g5⟩ := H.fc.get kp hp
  injection e2 with e2
  subst e2
  obtain ⟨c, k1, k2, k3⟩ := H.bx p hpb
  rw [e1] at k1
  have e3 : b = c := by injection k1 with k1; injection k1 with k1; injection k1
  subst e3
  exact ⟨b, rv, L, e1, h1, k3, ⟨k3, h3, g2, by omega, fun h hh => (g5 h hh).1, g4⟩, g1, fun h hh => (g5 h hh).2, g3⟩
theorem keep_op {i : Nat} {K : Act → World → Prop} {f : FuncId} {Ow : Nat → Prop} {lo hi cnt : Nat} {ex : List (Option Nat)} {g : Option Nat} {D : VP} {s p : Tmp} {y x : Operand} {ts : Array TypeId} {ty : TypeId} {pos : String} {af : Array Edge} (kp : Nat) (is : List Nat) {ks l' : List (Tmp × FD)}
    (H : St N w0 B0 a w B l bxs) (ho : ops[i]? = some ⟨some s, .call { callee := .value (.func f), args := #[y, x], argTypes := ts }, ty, pos, af, none⟩)
    (hent : ∀ (vs : Array Value) (w : World), (callFunc f vs).run P w = .ok (.enter f vs) w) (hf : KeepFn P f)
    (hp : l[kp]? = some (p, .box 42 15 (IsBook w0.heap.size Ow lo hi ex cnt))) (hy : a.eval y = a.tmps.getD p undef) (hx : Opd l x (.val (IsHd g D)))
    (hcnt : cnt < 1000000) (hOw : ∀ x, w.heap.size ≤ x → Ow x) (hg : ∀ b, g = some b → w0.heap.size ≤ b ∧ ¬ (lo ≤ b ∧ b < hi) ∧ some b ∉ ex)
    (hks : is.map (fun i => l[i]?) = ks.map some) (hc : (bxs.contains p && decide (s < N) && (!bxs.contains s) && ks.all fun y => y.1 != s && (y.2.isVal || (y.1 != p && y.2.isBox && bxs.contains y.1))) = true) (hk : KeepB w0.heap.size ks)
    (hps : s ≠ p) (hl : (p, FD.box 42 15 (IsBook w0.heap.size Ow lo hi (g :: ex) (cnt + 1))) :: ks = l')
    (hK : ∀ a w B, St N w0 B0 a w B l' bxs → K a w) : wpOp P ops Q i K a w := by
  simp only [Bool.and_eq_true, List.all_eq_true, Bool.or_eq_true, Bool.not_eq_true', decide_eq_true_eq, bne_iff_ne, ne_eq] at hc
  obtain ⟨⟨⟨hpb, hsN⟩, hsb⟩, hall⟩ := hc
  rw [List.contains_iff_mem] at hpb
  obtain ⟨b, rv, L, e1, hBb, hbs, hA, hL, hblk, hrow⟩ := H.book kp hp hpb (by omega)
  obtain ⟨⟨ad, n, c, e2, g1, g2, g3, g4, g5⟩, hD⟩ := hx a w B H.fc
  have hB0 : w0.heap.size ≤ w.heap.size := H.bel.size
  have hho : HdOk w0.heap.size w ⟨ad, n, c, none, 0, 0⟩ := ⟨g1, g2, g3, fun h0 => by
    obtain ⟨x, cs, f1, f2, f3, f4, f5⟩ := g5 h0
    exact ⟨x, cs, f2, (hg x f1).1, f4, f5⟩⟩
  have hse : ∀ h ∈ L, 0 < h.c → 0 < c → blkOf h.ad ≠ blkOf ad := fun h hh h0 h1 e => by
    obtain ⟨x, k1, k2, k3⟩ := hblk h hh h0
    obtain ⟨x2, cs, f1, f2, f3, f4, f5⟩ := g5 h1
    rw [k1, f2] at e
    have e : x = x2 := by injection e
    subst e
    have := hg x f1
    rcases k3 with k3 | k3
    · exact this.2.1 k3
    · exact this.2.2 k3
  unfold wpOp
  simp only [ho]
  rw [if_pos (by simp [Region.wanted])]
  refine .inl ?_
  unfold Oper.wp
  have hr : (execOp a.eval ⟨some s, .call { callee := .value (.func f), args := #[y, x], argTypes := ts }, ty, pos, af, none⟩).run P w = .ok (.enter f #[.pointer (some ⟨b, 0, none⟩), .slice ad n c]) w := by
    simp [execOp, resolve, Act.eval, Deferred.ofValue, invoke, Sem.run_bind, hent]
    have q1 := hy
    rw [e1] at q1
    have q2 : a.eval x = .slice ad n c := e2
    simp only [Act.eval, Array.getD_eq_getD_getElem?] at q1 q2
    exact ⟨q1, q2⟩
  rw [hr]
  refine (hf w0.heap.size b rv L ad n c w hA hB0 (by omega) hho hse).mono ?_
  rintro e w' ⟨rfl, kk, v', hA', hrr⟩
  refine hK _ w' B ?_
  have hsz : ∀ d, (some s : Option Tmp) = some d → d < a.tmps.size := fun d hd => by injection hd with hd; subst hd; rw [H.sz]; exact hsN
  have hput : ∀ z v, (a.put (some s) v).tmps.getD z undef = if some s = some z then v else a.tmps.getD z undef := fun z v => put_getD hsz
  have hold : ∀ z v, z ≠ s → (a.put (some s) v).tmps.getD z undef = a.tmps.getD z undef := fun z v hz => by
    rw [hput, if_neg fun e => hz (by injection e with e; exact e.symm)]
  have hbx : ∀ z ∈ bxs, z ≠ s := fun z hz e => by
    subst e
    rw [← List.contains_iff_mem, hsb] at hz
    cases hz
  refine ⟨put_defers.trans H.df, put_size.trans H.sz, ?_, fun z hz => ?_, fun z hz t ht hzt => ?_, ?_, fun k hk2 => Nat.lt_of_lt_of_le (H.own k hk2) kk.size, H.own0⟩
  · rw [← hl]
    refine Fct.of_all fun z hz => ?_
    rcases List.mem_cons.1 hz with rfl | hz
    · have hrb : ∀ x, v'.ownBlock = some x → ¬ B x ∧ Ow x := by
        intro x hx
        rcases hrr x hx with e | e
        · exact hrow x e
        · exact ⟨fun hBx => (by have := H.own x hBx; omega), hOw x e⟩
      refine ⟨b, _, (hold p _ (Ne.symm hps)).trans e1, hBb, hA'.lt, hA'.hd, rfl, v', _, rfl, by simp; omega, hA'.row, hrb, hA'.sep, fun h hh => ⟨hA'.one h hh, fun h0 => ?_⟩⟩
      rcases List.mem_append.1 hh with hh | hh
      · obtain ⟨x, k1, k2, k3⟩ := hblk h hh h0
        refine ⟨x, k1, k2, ?_⟩
        rcases k3 with k3 | k3
        · exact .inl k3
        · exact .inr (List.mem_cons_of_mem _ k3)
      · rw [List.mem_singleton] at hh
        subst hh
        obtain ⟨x, cs, f1, f2, f3, f4, f5⟩ := g5 h0
        exact ⟨x, by rw [f2]; rfl, f3, .inr (by rw [f1]; exact List.mem_cons_self ..)⟩
    · have hm : z ∈ l := by
        have h2 : some z ∈ is.map (fun i => l[i]?) := by rw [hks]; exact List.mem_map.2 ⟨z, hz, rfl⟩
        obtain ⟨i, _, hi⟩ := List.mem_map.1 h2
        exact List.mem_of_getElem? hi
      obtain ⟨q1, q3⟩ := hall z hz
      rw [hold z.1 _ q1]
      refine (hk.all z hz).run hbs hBb (fun hb e => ?_) kk (H.fc.all z hm)
      rcases q3 with q3 | ⟨⟨q2, q4⟩, q5⟩
      · cases hf : z.2 with
        | val E => rw [hf] at hb; simp [FD.isBox] at hb
        | ptr t n E off => rw [hf] at q3; simp [FD.isVal] at q3
        | box t n E => rw [hf] at q3; simp [FD.isVal] at q3
      · exact H.ap z.1 (List.contains_iff_mem.1 q5) p hpb q2 (e.trans e1.symm)
  · obtain ⟨c2, k1, k2, k3⟩ := H.bx z hz
    exact ⟨c2, (hold z _ (hbx z hz)).trans k1, Nat.lt_of_lt_of_le k2 kk.size, k3⟩
  · rw [hold z _ (hbx z hz), hold t _ (hbx t ht)]; exact H.ap z hz t ht hzt
  · have := kk.below hbs hB0
    exact H.bel.trans this
/-- A list's block gets a name. -/
theorem St.nameF (H : St N w0 B0 a w B l bxs) (i : Nat) {s : Tmp} {lo : Nat} {D : VP} (hi : l[i]? = some (s, .val (IsFr lo D))) {l' : Option Nat → List (Tmp × FD)} (hl : ∀ g, l.set i (s, .val (IsHd g D)) = l' g) : ∃ g, (∀ b, g = some b → lo ≤ b ∧ b < w.heap.size) ∧ St N w0 B0 a w B (l' g) bxs := by
  obtain ⟨g, h1, h2, h3⟩ := H.fc.get i hi
  refine ⟨g, fun b hb => ⟨h1 b hb, ?_⟩, H.df, H.sz, Fct.of_all fun x hx => ?_, H.bx, H.ap, H.bel, H.own, H.own0⟩
  · obtain ⟨ad, n, c, e, k1, k2, k3, k4, k5⟩ := h2
    by_cases hc : 0 < c
    · obtain ⟨b2, cs, f1, f2, f3, f4, f5⟩ := k5 hc
      rw [hb] at f1
      have f1 : b = b2 := by injection f1
      rw [f1]
      exact (Array.getElem?_eq_some_iff.1 f4).1
    · rw [k4 (by omega)] at hb; cases hb
  · rw [← hl] at hx
    rcases List.mem_or_eq_of_mem_set hx with h | h
    · exact H.fc.all x h
    · subst h; exact ⟨h2, h3⟩
theorem PHd.lt {g : Option Nat} {v : Value} {w : World} {B : Bx} (h : PHd g v w B) (b : Nat) (hb : g = some b) : b < w.heap.size := by
  obtain ⟨ad, n, c, e, k1, k2, k3, k4, k5⟩ := h
  by_cases hc : 0 < c
  · obtain ⟨b2, cs, f1, f2, f3, f4, f5⟩ := k5 hc
    rw [hb] at f1
    have f1 : b = b2 := by injection f1
    rw [f1]
    exact (Array.getElem?_eq_some_iff.1 f4).1
  · rw [k4 (by omega)] at hb; cases hb
/-- The book's lists lie below the mark. -/
theorem St.rebook (H : St N w0 B0 a w B l bxs) (kp : Nat) {p : Tmp} {Ow : Nat → Prop} {lo hi m cnt : Nat} {ex : List (Option Nat)} (hp : l[kp]? = some (p, .box 42 15 (IsBook w0.heap.size Ow lo hi ex cnt))) (hm : w.heap.size ≤ m) (hex : ∀ b, some b ∈ ex → lo ≤ b) {l' : List (Tmp × FD)}
    (hl : l.set kp (p, .box 42 15 (IsBook w0.heap.size Ow lo m [] cnt)) = l') : St N w0 B0 a w B l' bxs := by
  refine H.setwB kp hp (fun v hv => ?_) hl
  obtain ⟨rv, L, e, h1, h2, h3, h4, h5⟩ := hv
  refine ⟨rv, L, e, h1, h2, h3, h4, fun q hq => ⟨(h5 q hq).1, fun hc => ?_⟩⟩
  obtain ⟨b, f1, f2, f3⟩ := (h5 q hq).2 hc
  obtain ⟨g, cs, e1, e2, e3, e4⟩ := (h5 q hq).1.row hc
  rw [e1] at f1
  have f4 : g = b := by injection f1
  subst f4
  have hlt := (Array.getElem?_eq_some_iff.1 e3).1
  refine ⟨g, by rw [e1]; rfl, f2, .inl ⟨?_, by omega⟩⟩
  rcases f3 with f3 | f3
  · exact f3.1
  · exact hex g f3
end
set_option maxRecDepth 50000 in
theorem keep_nat : KeepFn Tryz.prog 17 := fun B b v L ad n c w h hB hl ho hs => by
  have F := Lib.hid (keep_calls B b v L ad n c w h hB hl ho hs)
  clear h ho hs
  go_enter Tryz.func17, Tryz.ntmps17
  go_wp2_with fail
  refine (F.out).mono ?_
  rintro e w1 ⟨rfl, h1, h2⟩
  clear F
  go_wp2
  go_end0
  exact ⟨rfl, h1, h2⟩
theorem zeroBook : (Tryz.prog.info? 42).map (·.zero) = some (some (.agg (bookCells 0 (.slice none 0 0)))) := by kernel_rfl
theorem ok_allocBook {Bs : Nat} {Ow : Nat → Prop} {lo hi : Nat} {need : List (Tmp × FD)} {d : Option Tmp} {ty : TypeId} {pos : String} {af : Array Edge} {g : Option (Nat × Bool)} : OpOk Tryz.prog ⟨d, .alloc 42, ty, pos, af, g⟩ need (.box 42 15 (IsBook Bs Ow lo hi [] 0)) true := ok_alloc zeroBook rfl fun w B => book_new Bs Ow lo hi [] w B
end Go.Proofs.YtbcbmkeeoognpaaGreatDoor


/- A copy of a list that is then made longer; one part of a variable written upon; a region's end in any order. -/
namespace Go.Proofs.YtbcbmkeeoognpaaGreatDoor
open Go Go.RowKit

section
variable {P : Program} {need : List (Tmp × FD)} {d : Option Tmp} {ty : TypeId} {pos : String} {af : Array Edge} {g : Option (Nat × Bool)} {x y : Operand}
end

section
variable {P : Program} {ops : Array Oper} {Q : Exit → Act → World → Prop} {md : Region.Mode} {N : Nat} {w0 : World} {B0 : Bx} {a : Act} {w : World} {B : Bx} {l : List (Tmp × FD)} {bxs : List Tmp}
end
end Go.Proofs.YtbcbmkeeoognpaaGreatDoor

