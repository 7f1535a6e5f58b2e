/- Contracts of functions, and plain facts, part 3. -/
import Derived.Test.YtoimhjcpeifegaaGreatDoorPk1
import Derived.Test.YtoimhjcpeifegaaGreatDoorPk2
set_option linter.unusedVariables false
set_option linter.unusedSimpArgs false
/- A walk by what the slots hold: each operation of a region is shown once, whatever the order; nothing here speaks of a program. -/
namespace Go.Proofs.YtoimhjcpeifegaaGreatDoor
open Go Go.RowKit

/-- Which blocks are variables of calls that are under way. -/
abbrev Bx := Nat → Prop
/-- No cell of block k is a limb or a byte. -/
def Plain (w : World) (k : Nat) : Prop := ∀ (a : Addr) (ik : IntKind) (x : Int), a.block = k → (ik = .u32 ∨ ik = .u8) → w.cell? a ≠ some (.int ik x)
/-- No old block has turned but variables that hold no lists' parts. -/
structure Mv (w : World) (B : Bx) (w' : World) (B' : Bx) : Prop where
  size : w.heap.size ≤ w'.heap.size
  same : ∀ k, k < w.heap.size → w'.heap[k]? = w.heap[k]? ∨ (B k ∧ Plain w k)
  box : ∀ k, k < w.heap.size → B' k → B k
/-- No old block has turned. -/
structure Bl (w : World) (B : Bx) (w' : World) (B' : Bx) : Prop where
  size : w.heap.size ≤ w'.heap.size
  same : ∀ k, k < w.heap.size → w'.heap[k]? = w.heap[k]?
  box : ∀ k, k < w.heap.size → (B' k ↔ B k)
theorem Bl.mv {w w' : World} {B B' : Bx} (h : Bl w B w' B') : Mv w B w' B' := ⟨h.size, fun k hk => .inl (h.same k hk), fun k hk => (h.box k hk).1⟩
theorem Bl.refl (w : World) (B : Bx) : Bl w B w B := ⟨Nat.le_refl _, fun _ _ => rfl, fun _ _ => Iff.rfl⟩
theorem Bl.trans {w w1 w2 : World} {B B1 B2 : Bx} (h : Bl w B w1 B1) (k : Bl w1 B1 w2 B2) : Bl w B w2 B2 :=
  ⟨Nat.le_trans h.size k.size, fun i hi => (k.same i (Nat.lt_of_lt_of_le hi h.size)).trans (h.same i hi), fun i hi => (k.box i (Nat.lt_of_lt_of_le hi h.size)).trans (h.box i hi)⟩
theorem Bl.of_below {w w' : World} (B : Bx) (h : Below w.heap.size w w') : Bl w B w' B := ⟨h.size, h.block, fun _ _ => Iff.rfl⟩
theorem Mv.shrink {w : World} {B B' : Bx} (h : ∀ k, B' k → B k) : Mv w B w B' := ⟨Nat.le_refl _, fun _ _ => .inl rfl, fun k _ => h k⟩

/-- A word on a value. -/
structure VP where
  p : Value → World → Bx → Prop
  st : ∀ v w B w' B', Mv w B w' B' → p v w B → p v w' B'
def VP.top : VP := ⟨fun _ _ _ => True, fun _ _ _ _ _ _ h => h⟩
/-- The pointer to a variable of type t (n cells) whose contents meet D. -/
def BoxP (t : TypeId) (n : Nat) (D : VP) (v : Value) (w : World) (B : Bx) : Prop :=
  ∃ b cs, v = .pointer (some ⟨b, 0, none⟩) ∧ B b ∧ b < w.heap.size ∧ w.heap[b]? = some (.cells cs t (0, 0)) ∧ cs.size = n ∧ D.p (.agg cs) w B
/-- The pointer into such a variable. -/
def PtrP (t : TypeId) (n : Nat) (D : VP) (off : Nat) (v : Value) (w : World) (B : Bx) : Prop :=
  ∃ b cs, v = .pointer (some ⟨b, off, none⟩) ∧ B b ∧ b < w.heap.size ∧ w.heap[b]? = some (.cells cs t (0, 0)) ∧ cs.size = n ∧ D.p (.agg cs) w B
inductive FD where
  | val (D : VP)
  | box (t : TypeId) (n : Nat) (D : VP)
  | ptr (t : TypeId) (n : Nat) (D : VP) (off : Nat)
def FD.p : FD → Value → World → Bx → Prop
  | .val D => D.p
  | .box t n D => BoxP t n D
  | .ptr t n D off => PtrP t n D off
theorem FD.st (f : FD) {v : Value} {w w' : World} {B B' : Bx} (h : Bl w B w' B') (hp : f.p v w B) : f.p v w' B' := by
  cases f with
  | val D => exact D.st _ _ _ _ _ h.mv hp
  | box t n D =>
    obtain ⟨b, cs, h1, h2, h3, h4, h5, h6⟩ := hp
    exact ⟨b, cs, h1, (h.box b h3).2 h2, Nat.lt_of_lt_of_le h3 h.size, (h.same b h3).trans h4, h5, D.st _ _ _ _ _ h.mv h6⟩
  | ptr t n D off =>
    obtain ⟨b, cs, h1, h2, h3, h4, h5, h6⟩ := hp
    exact ⟨b, cs, h1, (h.box b h3).2 h2, Nat.lt_of_lt_of_le h3 h.size, (h.same b h3).trans h4, h5, D.st _ _ _ _ _ h.mv h6⟩
def Fct (a : Act) (w : World) (B : Bx) : List (Tmp × FD) → Prop
  | [] => True
  | x :: l => x.2.p (a.tmps.getD x.1 undef) w B ∧ Fct a w B l
theorem Fct.of_all {a : Act} {w : World} {B : Bx} : ∀ {l : List (Tmp × FD)}, (∀ x ∈ l, x.2.p (a.tmps.getD x.1 undef) w B) → Fct a w B l
  | [], _ => trivial
  | x :: l, h => ⟨h x (List.mem_cons_self ..), Fct.of_all fun y hy => h y (List.mem_cons_of_mem _ hy)⟩
theorem Fct.all {a : Act} {w : World} {B : Bx} : ∀ {l : List (Tmp × FD)}, Fct a w B l → ∀ x ∈ l, x.2.p (a.tmps.getD x.1 undef) w B
  | [], _, x, hx => by cases hx
  | y :: l, h, x, hx => by
    rcases List.mem_cons.1 hx with rfl | hx
    · exact h.1
    · exact Fct.all h.2 x hx
theorem Fct.get {a : Act} {w : World} {B : Bx} {l : List (Tmp × FD)} (h : Fct a w B l) (i : Nat) {s : Tmp} {f : FD} (hi : l[i]? = some (s, f)) : f.p (a.tmps.getD s undef) w B :=
  h.all (s, f) (List.mem_of_getElem? hi)
def Own1 (B : Bx) (w : World) : Prop := ∀ k, B k → k < w.heap.size

/-- What an operation does, its guard left aside. -/
def OpOk (P : Program) (o : Oper) (need : List (Tmp × FD)) (post : FD) (al : Bool) : Prop :=
  ∀ (Q : Exit → Act → World → Prop) (K : Act → World → Prop) (a : Act) (w : World) (B : Bx), Own1 B w → Fct a w B need →
    (∀ v w' B', post.p v w' B' → Bl w B w' B' → Below w.heap.size w w' → Own1 B' w' → (al = true → ∃ b, v = .pointer (some ⟨b, 0, none⟩) ∧ w.heap.size ≤ b ∧ b < w'.heap.size) → K (a.put o.dst v) w') →
    o.wp P a w K Q
def StepOk (P : Program) (ops : Array Oper) (o : Oper) (need : List (Tmp × FD)) (post : FD) (al : Bool) : Prop :=
  ∀ (Q : Exit → Act → World → Prop) (K : Act → World → Prop) (i : Nat) (a : Act) (w : World) (B : Bx), ops[i]? = some o → Own1 B w → Fct a w B need →
    (∀ v w' B', post.p v w' B' → Bl w B w' B' → Below w.heap.size w w' → Own1 B' w' → (al = true → ∃ b, v = .pointer (some ⟨b, 0, none⟩) ∧ w.heap.size ≤ b ∧ b < w'.heap.size) → K (a.put o.dst v) w') →
    wpOp P ops Q i K a w
def Lit (u : Value) : VP := ⟨fun v _ _ => v = u, fun _ _ _ _ _ _ h => h⟩
abbrev IsB (b : Bool) : VP := Lit (.bool b)
abbrev IsUndef : VP := Lit undef

theorem StepOk.plain {P : Program} {ops : Array Oper} {o : Oper} {need : List (Tmp × FD)} {post : FD} {al : Bool} (hg : o.guard = none) (h : OpOk P o need post al) : StepOk P ops o need post al := by
  intro Q K i a w B ho hB hF hK
  unfold wpOp
  simp only [ho]
  rw [if_pos (by simp [Region.wanted, hg])]
  exact .inl (h Q K a w B hB hF hK)
theorem yielded_of {ops : Array Oper} {a : Act} {g : Nat} {og : Oper} {s : Tmp} {b : Bool} (hg : ops[g]? = some og) (hd : og.dst = some s) (hv : a.tmps.getD s undef = .bool b) : yielded ops a.tmps g = some b := by
  unfold yielded
  have h2 : a.tmps[s]? = some (.bool b) := by
    rw [Array.getD_eq_getD_getElem?] at hv
    cases h3 : a.tmps[s]? with
    | none => rw [h3] at hv; exact absurd hv (by simp [undef])
    | some v => rw [h3] at hv; simpa using hv
  simp [hg, hd, h2]
/-- A guard that lets the operation pass. -/
theorem StepOk.wanted {P : Program} {ops : Array Oper} {o : Oper} {need : List (Tmp × FD)} {post : FD} {al : Bool} (g : Nat) (b : Bool) {og : Oper} {s : Tmp} (hg : o.guard = some (g, b)) (hog : ops[g]? = some og) (hd : og.dst = some s)
    (k : Nat) (hk : need[k]? = some (s, .val (IsB b))) (h : OpOk P o need post al) : StepOk P ops o need post al := by
  intro Q K i a w B ho hB hF hK
  have hv : a.tmps.getD s undef = .bool b := hF.get k hk
  unfold wpOp
  simp only [ho]
  rw [if_pos (by simp [Region.wanted, hg, yielded_of hog hd hv])]
  exact .inl (h Q K a w B hB hF hK)
/-- A guard that does not. -/
theorem StepOk.unwanted {P : Program} {ops : Array Oper} {o : Oper} {need : List (Tmp × FD)} (g : Nat) (b : Bool) {og : Oper} {s : Tmp} (hg : o.guard = some (g, b)) (hog : ops[g]? = some og) (hd : og.dst = some s)
    (k : Nat) (hk : need[k]? = some (s, .val (IsB (!b)))) : StepOk P ops o need (.val IsUndef) false := by
  intro Q K i a w B ho hB hF hK
  have hv : a.tmps.getD s undef = .bool (!b) := hF.get k hk
  unfold wpOp
  simp only [ho]
  rw [if_neg (by simp [Region.wanted, hg, yielded_of hog hd hv])]
  exact hK undef w B rfl (Bl.refl _ _) (Below.refl _ _) hB (by simp)
inductive Ref where
  | pre (k : Nat)
  | res (j : Nat)
def lookR (dsts : List (Option Tmp)) (posts : List FD) (pre : List (Tmp × FD)) : Ref → Tmp × FD
  | .pre k => pre.getD k (0, .val VP.top)
  | .res j => ((dsts.getD j none).getD 0, posts.getD j (.val VP.top))
inductive AllOk (P : Program) (ops : Array Oper) (look : Ref → Tmp × FD) : List Oper → List (List Ref) → List FD → List Bool → Prop where
  | nil {os : List Oper} : AllOk P ops look os [] [] []
  | cons {o : Oper} {r : List Ref} {D : FD} {al : Bool} {os : List Oper} {rs : List (List Ref)} {Ds : List FD} {als : List Bool} (h : StepOk P ops o (r.map look) D al) (t : AllOk P ops look os rs Ds als) : AllOk P ops look (o :: os) (r :: rs) (D :: Ds) (al :: als)
theorem AllOk.get {P : Program} {ops : Array Oper} {look : Ref → Tmp × FD} {os : List Oper} {rs : List (List Ref)} {Ds : List FD} {als : List Bool} (h : AllOk P ops look os rs Ds als) :
    ∀ i, i < rs.length → ∃ o, os[i]? = some o ∧ StepOk P ops o ((rs.getD i []).map look) (Ds.getD i (.val VP.top)) (als.getD i false) := by
  induction h with
  | nil => intro i hi; simp at hi
  | cons h t ih =>
    intro i hi
    cases i with
    | zero => exact ⟨_, rfl, h⟩
    | succ i =>
      obtain ⟨o, h1, h2⟩ := ih i (by simpa using hi)
      exact ⟨o, by simpa using h1, by simpa using h2⟩

def direct (md : Region.Mode) (ops : Array Oper) (i j : Nat) : Bool := match ops[i]? with
  | none => false
  | some o => o.after.any fun e => e.on == j && Region.binds md e
theorem direct_listed {md : Region.Mode} {ops : Array Oper} {l : Array Bool} {i j : Nat} {o : Oper} (ho : ops[i]? = some o) (hd : ∀ e ∈ o.after, Region.binds md e = true → l.getD e.on false = true) (h : direct md ops i j = true) : l.getD j false = true := by
  unfold direct at h
  rw [ho] at h
  obtain ⟨e, he, hb⟩ := Array.any_eq_true'.1 h
  simp only [Bool.and_eq_true, beq_iff_eq] at hb
  rw [← hb.1]
  exact hd e he hb.2
/-- What an operation waits for, at first or at second hand, as bits. -/
def ancStep (md : Region.Mode) (acc : List Nat) (es : List Edge) : Nat := es.foldl (fun s e => if Region.binds md e then s ||| (1 <<< e.on) ||| acc.getD e.on 0 else s) 0
def ancs (md : Region.Mode) : List Oper → List Nat → List Nat
  | [], acc => acc
  | o :: os, acc => ancs md os (acc ++ [ancStep md acc o.after.toList])
theorem fold_bit {md : Region.Mode} {acc : List Nat} {j : Nat} (es : List Edge) : ∀ s : Nat, (es.foldl (fun s e => if Region.binds md e then s ||| (1 <<< e.on) ||| acc.getD e.on 0 else s) s).testBit j = true → s.testBit j = true ∨ ∃ e ∈ es, Region.binds md e = true ∧ (e.on = j ∨ (acc.getD e.on 0).testBit j = true) := by
  induction es with
  | nil => intro s h; exact .inl h
  | cons e es ih =>
    intro s h
    rw [List.foldl_cons] at h
    rcases ih _ h with h2 | ⟨x, hx, h2⟩
    · by_cases hb : Region.binds md e = true
      · rw [if_pos hb, Nat.testBit_or, Nat.testBit_or, Bool.or_eq_true, Bool.or_eq_true] at h2
        rcases h2 with (h2 | h2) | h2
        · exact .inl h2
        · refine .inr ⟨e, List.mem_cons_self .., hb, .inl ?_⟩
          rw [Nat.one_shiftLeft, Nat.testBit_two_pow] at h2
          simpa using h2
        · exact .inr ⟨e, List.mem_cons_self .., hb, .inr h2⟩
      · rw [if_neg hb] at h2; exact .inl h2
    · exact .inr ⟨x, List.mem_cons_of_mem _ hx, h2⟩
theorem ancs_listed {md : Region.Mode} {ops : Array Oper} {l : Array Bool} (hc : ∀ j o, ops[j]? = some o → l.getD j false = true → ∀ e ∈ o.after, Region.binds md e = true → l.getD e.on false = true) :
    ∀ (os : List Oper) (acc : List Nat), (∀ (k : Nat) (o : Oper), os[k]? = some o → ops[acc.length + k]? = some o) → (∀ (k m : Nat), acc[k]? = some m → (∀ o : Oper, ops[k]? = some o → ∀ e ∈ o.after, Region.binds md e = true → l.getD e.on false = true) → ∀ j, m.testBit j = true → l.getD j false = true) → (∀ k : Nat, k < acc.length → (ops[k]?).isSome = true) →
      ∀ (k m : Nat), (ancs md os acc)[k]? = some m → (∀ o : Oper, ops[k]? = some o → ∀ e ∈ o.after, Region.binds md e = true → l.getD e.on false = true) → ∀ j, m.testBit j = true → l.getD j false = true := by
  intro os
  induction os with
  | nil => intro acc _ h _; exact h
  | cons o os ih =>
    intro acc hos h hs
    have ho : ops[acc.length]? = some o := hos 0 o rfl
    refine ih (acc ++ [ancStep md acc o.after.toList]) (fun k o2 hk => ?_) (fun k m hk hg j hj => ?_) (fun k hk => ?_)
    · have := hos (k + 1) o2 (by simpa using hk)
      rw [List.length_append, List.length_singleton, Nat.add_assoc, Nat.add_comm 1 k]
      exact this
    · rcases Nat.lt_or_ge k acc.length with h1 | h1
      · rw [List.getElem?_append_left h1] at hk
        exact h k m hk hg j hj
      · rw [List.getElem?_append_right h1] at hk
        have hk0 : k - acc.length = 0 := by
          rcases Nat.eq_zero_or_pos (k - acc.length) with h2 | h2
          · exact h2
          · rw [List.getElem?_eq_none (by simp; omega)] at hk; cases hk
        have hka : k = acc.length := by omega
        rw [hk0] at hk
        simp only [List.getElem?_cons_zero, Option.some.injEq] at hk
        subst hk hka
        unfold ancStep at hj
        rcases fold_bit _ _ hj with h2 | ⟨e, he, hb, h2⟩
        · simp at h2
        · have hl := hg o ho e (by simpa using he) hb
          rcases h2 with h2 | h2
          · rw [← h2]; exact hl
          · rw [List.getD_eq_getElem?_getD] at h2
            cases hm : acc[e.on]? with
            | none => rw [hm] at h2; simp at h2
            | some m2 =>
              rw [hm] at h2
              exact h e.on m2 hm (fun o2 ho2 e2 he2 hb2 => hc e.on o2 ho2 hl e2 he2 hb2) j (by simpa using h2)
    · rcases Nat.lt_or_ge k acc.length with h1 | h1
      · exact hs k h1
      · have : k = acc.length := by simp at hk; omega
        subst this
        rw [ho]; rfl
theorem anc_listed {md : Region.Mode} {ops : Array Oper} {l : Array Bool} (hc : ∀ j o, ops[j]? = some o → l.getD j false = true → ∀ e ∈ o.after, Region.binds md e = true → l.getD e.on false = true) {i j : Nat} {o : Oper} (ho : ops[i]? = some o) (hd : ∀ e ∈ o.after, Region.binds md e = true → l.getD e.on false = true)
    (h : ((ancs md ops.toList []).getD i 0).testBit j = true) : l.getD j false = true := by
  rw [List.getD_eq_getElem?_getD] at h
  cases hm : (ancs md ops.toList [])[i]? with
  | none => rw [hm] at h; simp at h
  | some m =>
    rw [hm] at h
    refine ancs_listed hc ops.toList [] (fun k o hk => ?_) (fun k m hk => by simp at hk) (fun k hk => by simp at hk) i m hm (fun o2 ho2 => by rw [ho] at ho2; injection ho2 with ho2; subst ho2; exact hd) j (by simpa using h)
    simpa using hk
def coreOk1 (tl : Bool) (md : Region.Mode) (ops : Array Oper) (m : Nat) : Bool :=
  decide (m ≤ ops.size) && (List.range ops.size).all fun i => match ops[i]? with
    | none => false
    | some o => if i < m then o.after.all (fun e => !Region.binds md e || decide (e.on < i)) else !tl || (List.range m).all fun j => ((ancs md ops.toList []).getD i 0).testBit j
def refOk (md : Region.Mode) (ops : Array Oper) (m : Nat) (dsts : List (Option Tmp)) (pres : List Tmp) (i : Option Nat) : Ref → Bool
  | .pre k => match pres[k]? with
    | some s => !dsts.contains (some s)
    | none => false
  | .res j => decide (j < m) && (dsts.getD j none).isSome && (match i with
    | some i => direct md ops i j
    | none => true)
def distinct : List (Option Tmp) → Bool
  | [] => true
  | none :: l => distinct l
  | some d :: l => !l.contains (some d) && distinct l
def flowCheck (tl : Bool) (md : Region.Mode) (ops : Array Oper) (m N : Nat) (dsts : List (Option Tmp)) (pres bxs : List Tmp) (refs : List (List Ref)) (outs : List Ref) (als : List Bool) : Bool :=
  coreOk1 tl md ops m && decide (dsts.length = m) && decide (refs.length = m) && decide (als.length = m) &&
  ((List.range m).all fun i => match ops[i]? with
    | some o => decide (o.dst = dsts.getD i none)
    | none => false) &&
  distinct dsts && (dsts.all fun d => match d with
    | some d => decide (d < N)
    | none => true) &&
  ((List.range m).all fun i => (refs.getD i []).all (refOk md ops m dsts pres (some i))) && outs.all (refOk md ops m dsts pres none) &&
  ((List.range m).all fun i => !als.getD i false || (dsts.getD i none).isSome) && bxs.all fun s => !dsts.contains (some s)

theorem distinct_ne {dsts : List (Option Tmp)} (h : distinct dsts = true) : ∀ i j d, dsts.getD i none = some d → dsts.getD j none = some d → i = j := by
  induction dsts with
  | nil => intro i j d hi; simp at hi
  | cons x l ih =>
    intro i j d hi hj
    have aux : ∀ (l : List (Option Tmp)) (k : Nat), l.getD k none = some d → l.contains (some d) = true := by
      intro l k hk
      rw [List.contains_iff_mem]
      rw [List.getD_eq_getElem?_getD] at hk
      cases h2 : l[k]? with
      | none => rw [h2] at hk; cases hk
      | some y => rw [h2] at hk; simp at hk; subst hk; exact List.mem_of_getElem? h2
    cases x with
    | none =>
      cases i with
      | zero => simp at hi
      | succ i =>
        cases j with
        | zero => simp at hj
        | succ j => rw [ih (by simpa [distinct] using h) i j d (by simpa using hi) (by simpa using hj)]
    | some e =>
      simp only [distinct, Bool.and_eq_true, Bool.not_eq_true'] at h
      cases i with
      | zero =>
        cases j with
        | zero => rfl
        | succ j =>
          simp at hi
          subst hi
          have := aux l j (by simpa using hj)
          rw [h.1] at this; cases this
      | succ i =>
        cases j with
        | zero =>
          simp at hj
          subst hj
          have := aux l i (by simpa using hi)
          rw [h.1] at this; cases this
        | succ j => rw [ih h.2 i j d (by simpa using hi) (by simpa using hj)]

/-- The state of a walk: what the slots hold; the call's own variables. -/
structure St (N : Nat) (w0 : World) (B0 : Bx) (a : Act) (w : World) (B : Bx) (l : List (Tmp × FD)) (bxs : List Tmp) : Prop where
  df : a.defers = []
  sz : a.tmps.size = N
  fc : Fct a w B l
  bx : ∀ s ∈ bxs, ∃ b, a.tmps.getD s undef = .pointer (some ⟨b, 0, none⟩) ∧ b < w.heap.size ∧ w0.heap.size ≤ b
  ap : ∀ s ∈ bxs, ∀ t ∈ bxs, s ≠ t → a.tmps.getD s undef ≠ a.tmps.getD t undef
  bel : Below w0.heap.size w0 w
  own : Own1 B w
  own0 : ∀ k, B0 k → B k
theorem St.drew {N : Nat} {w0 : World} {B0 : Bx} {a : Act} {w : World} {B : Bx} {l : List (Tmp × FD)} {bxs : List Tmp} (h : St N w0 B0 a w B l bxs) : St N w0 B0 a w.drew B l bxs := by
  have hb : Bl w B w.drew B := ⟨Nat.le_refl _, fun _ _ => rfl, fun _ _ => Iff.rfl⟩
  exact ⟨h.df, h.sz, Fct.of_all fun x hx => x.2.st hb (h.fc.all x hx), h.bx, h.ap, below_drew h.bel, h.own, h.own0⟩
/-- Fewer facts. -/
theorem St.pick {N : Nat} {w0 : World} {B0 : Bx} {a : Act} {w : World} {B : Bx} {l : List (Tmp × FD)} {bxs : List Tmp} (h : St N w0 B0 a w B l bxs) (is : List Nat) {l' : List (Tmp × FD)} (he : is.map (fun i => l[i]?) = l'.map some) : St N w0 B0 a w B l' bxs := by
  refine ⟨h.df, h.sz, Fct.of_all fun x hx => ?_, h.bx, h.ap, h.bel, h.own, h.own0⟩
  have h2 : some x ∈ is.map (fun i => l[i]?) := by rw [he]; exact List.mem_map.2 ⟨x, hx, rfl⟩
  obtain ⟨i, _, hi⟩ := List.mem_map.1 h2
  exact h.fc.all x (List.mem_of_getElem? hi)

section
variable {P : Program} {ops : Array Oper} {Q : Exit → Act → World → Prop} {md : Region.Mode}

structure Mid2 (md : Region.Mode) (ops : Array Oper) (m : Nat) (dsts : List (Option Tmp)) (posts : List FD) (als : List Bool) (base : Act) (w0 : World) (B0 : Bx) (l : Array Bool) (a : Act) (w : World) (B : Bx) : Prop where
  size : l.size = ops.size
  late : ∀ j, m ≤ j → j < ops.size → l.getD j true = false
  closed : ∀ j o, ops[j]? = some o → l.getD j false = true → ∀ e ∈ o.after, Region.binds md e = true → l.getD e.on false = true
  defers : a.defers = base.defers
  tsize : a.tmps.size = base.tmps.size
  rest : ∀ s, dsts.contains (some s) = false → a.tmps.getD s undef = base.tmps.getD s undef
  fact : ∀ i d, i < m → dsts.getD i none = some d → l.getD i false = true → (posts.getD i (.val VP.top)).p (a.tmps.getD d undef) w B
  fresh : ∀ i d, i < m → als.getD i false = true → dsts.getD i none = some d → l.getD i false = true → ∃ b, a.tmps.getD d undef = .pointer (some ⟨b, 0, none⟩) ∧ w0.heap.size ≤ b ∧ b < w.heap.size
  apart : ∀ i j d e, i < m → j < m → i ≠ j → als.getD i false = true → als.getD j false = true → dsts.getD i none = some d → dsts.getD j none = some e → l.getD i false = true → l.getD j false = true → a.tmps.getD d undef ≠ a.tmps.getD e undef
  bl : Bl w0 B0 w B
  below : Below w0.heap.size w0 w
  own : Own1 B w

theorem put_getD {a : Act} {x : Option Tmp} {s : Tmp} {v : Value} (hx : ∀ d, x = some d → d < a.tmps.size) : (a.put x v).tmps.getD s undef = if x = some s then v else a.tmps.getD s undef := by
  cases x with
  | none => simp [Act.put]
  | some d =>
    have := getD_put (t := a.tmps) (d := d) (s := s) (v := v) (hx d rfl)
    simp only [Option.some.injEq]
    exact this
theorem put_size {a : Act} {x : Option Tmp} {v : Value} : (a.put x v).tmps.size = a.tmps.size := by
  cases x with
  | none => rfl
  | some d => simp [Act.put]
theorem put_defers {a : Act} {x : Option Tmp} {v : Value} : (a.put x v).defers = a.defers := by
  cases x <;> rfl

structure FlowOk (tl : Bool) (md : Region.Mode) (ops : Array Oper) (m N : Nat) (dsts : List (Option Tmp)) (pres bxs : List Tmp) (refs : List (List Ref)) (outs : List Ref) (als : List Bool) : Prop where
  core : coreOk1 tl md ops m = true
  ld : dsts.length = m
  lr : refs.length = m
  la : als.length = m
  dst : ∀ i o, i < m → ops[i]? = some o → o.dst = dsts.getD i none
  dis : distinct dsts = true
  lt : ∀ i d, dsts.getD i none = some d → d < N
  ref : ∀ i r, i < m → r ∈ refs.getD i [] → refOk md ops m dsts pres (some i) r = true
  out : ∀ r, r ∈ outs → refOk md ops m dsts pres none r = true
  al : ∀ i, i < m → als.getD i false = true → (dsts.getD i none).isSome = true
  bx : ∀ s, s ∈ bxs → dsts.contains (some s) = false
theorem flowCheck_ok {tl : Bool} {m N : Nat} {dsts : List (Option Tmp)} {pres bxs : List Tmp} {refs : List (List Ref)} {outs : List Ref} {als : List Bool} (h : flowCheck tl md ops m N dsts pres bxs refs outs als = true) : FlowOk tl md ops m N dsts pres bxs refs outs als := by
  simp only [flowCheck, Bool.and_eq_true, decide_eq_true_eq, List.all_eq_true, List.mem_range] at h
  obtain ⟨⟨⟨⟨⟨⟨⟨⟨⟨⟨h1, h2⟩, h3⟩, h4⟩, h5⟩, h6⟩, h7⟩, h8⟩, h9⟩, h10⟩, h11⟩ := h
  refine ⟨h1, h2, h3, h4, fun i o hi ho => ?_, h6, fun i d hd => ?_, fun i r hi hr => h8 i hi r hr, fun r hr => h9 r hr, fun i hi ha => ?_, fun s hs => ?_⟩
  · have := h5 i hi
    rw [ho] at this
    simpa using this
  · rw [List.getD_eq_getElem?_getD] at hd
    cases h12 : dsts[i]? with
    | none => rw [h12] at hd; cases hd
    | some y =>
      rw [h12] at hd
      simp at hd
      subst hd
      have := h7 _ (List.mem_of_getElem? h12)
      simpa using this
  · have := h10 i hi
    rw [ha] at this
    simpa using this
  · have := h11 s hs
    simpa using this

section
variable {tl : Bool} {m N : Nat} {dsts : List (Option Tmp)} {pres bxs : List Tmp} {refs : List (List Ref)} {outs : List Ref} {als : List Bool} {posts : List FD} {pre : List (Tmp × FD)} {base : Act} {w0 : World} {B0 : Bx}

theorem Mid2.need (C : FlowOk tl md ops m N dsts pres bxs refs outs als) (hpre : pre.map Prod.fst = pres) (hb : Fct base w0 B0 pre) {l : Array Bool} {a : Act} {w : World} {B : Bx} (h : Mid2 md ops m dsts posts als base w0 B0 l a w B)
    (r : Ref) (hr : match r with
      | .pre k => match pres[k]? with
        | some s => dsts.contains (some s) = false
        | none => False
      | .res j => j < m ∧ (dsts.getD j none).isSome = true ∧ l.getD j false = true) : (lookR dsts posts pre r).2.p (a.tmps.getD (lookR dsts posts pre r).1 undef) w B := by
  cases r with
  | pre k =>
    simp only at hr
    cases hk : pres[k]? with
    | none => rw [hk] at hr; exact hr.elim
    | some s =>
      rw [hk] at hr
      simp only at hr
      rw [← hpre, List.getElem?_map] at hk
      cases hp : pre[k]? with
      | none => rw [hp] at hk; cases hk
      | some x =>
        rw [hp] at hk
        simp at hk
        have e : lookR dsts posts pre (.pre k) = x := by simp [lookR, List.getD_eq_getElem?_getD, hp]
        rw [e]
        have h1 := hb.all x (List.mem_of_getElem? hp)
        have h2 := h.rest x.1 (by rw [hk]; exact hr)
        rw [h2]
        exact x.2.st h.bl h1
  | res j =>
    obtain ⟨h1, h2, h3⟩ := hr
    obtain ⟨d, hd⟩ := Option.isSome_iff_exists.1 h2
    have := h.fact j d h1 hd h3
    have e : lookR dsts posts pre (.res j) = (d, posts.getD j (.val VP.top)) := by simp only [lookR, hd, Option.getD_some]
    rw [e]
    exact this

theorem Mid2.step (C : FlowOk tl md ops m N dsts pres bxs refs outs als) (hpre : pre.map Prod.fst = pres) (hb : Fct base w0 B0 pre) (hN : base.tmps.size = N)
    (hall : ∀ i, i < m → ∃ o, ops[i]? = some o ∧ StepOk P ops o ((refs.getD i []).map (lookR dsts posts pre)) (posts.getD i (.val VP.top)) (als.getD i false))
    {l : Array Bool} {a : Act} {w : World} {B : Bx} (h : Mid2 md ops m dsts posts als base w0 B0 l a w B) (i : Nat) (hi : i < m) (hun : l.getD i true = false)
    (hdeps : ∀ o, ops[i]? = some o → ∀ e ∈ o.after, Region.binds md e = true → l.getD e.on false = true) :
    wpOp P ops Q i (fun a' w' => ∃ B', Mid2 md ops m dsts posts als base w0 B0 (l.setIfInBounds i true) a' w' B') a w := by
  obtain ⟨o, ho, hstep⟩ := hall i hi
  have hod := C.dst i o hi ho
  have hisz : i < ops.size := (Array.getElem?_eq_some_iff.1 ho).1
  have hdeps := hdeps o ho
  refine hstep Q _ i a w B ho h.own (Fct.of_all fun x hx => ?_) ?_
  · obtain ⟨r, hr, rfl⟩ := List.mem_map.1 hx
    have hok := C.ref i r hi hr
    refine h.need C hpre hb r ?_
    cases r with
    | pre k =>
      simp only [refOk] at hok
      cases hs : pres[k]? with
      | none => rw [hs] at hok; cases hok
      | some s => rw [hs] at hok; simp only [hs]; simpa using hok

    | res j =>
      simp only [refOk, Bool.and_eq_true, decide_eq_true_eq] at hok
      exact ⟨hok.1.1, hok.1.2, direct_listed ho hdeps hok.2⟩
  · intro v w' B' hp hbl hbel hown hal
    have hds : ∀ d, o.dst = some d → d < a.tmps.size := fun d hd => by
      rw [h.tsize, hN]; exact C.lt i d (by rw [← hod]; exact hd)
    have hput : ∀ s, (a.put o.dst v).tmps.getD s undef = if o.dst = some s then v else a.tmps.getD s undef := fun s => put_getD hds
    have hlset : ∀ j b, j < ops.size → (l.setIfInBounds i true).getD j b = if i = j then true else l.getD j b := fun j b hj => by
      have hil : i < l.size := by rw [h.size]; exact hisz
      rw [Array.getD_eq_getD_getElem?, Array.getD_eq_getD_getElem?, Array.getElem?_setIfInBounds]
      by_cases e : i = j
      · subst e; simp [hil]
      · rw [if_neg e, if_neg e]
    have hmono : ∀ j, l.getD j false = true → (l.setIfInBounds i true).getD j false = true := fun j hj => getD_set_true hj
    have hms : m ≤ ops.size := by
      have := C.core
      unfold coreOk1 at this
      simp only [Bool.and_eq_true, decide_eq_true_eq] at this
      exact this.1
    refine ⟨B', by rw [Array.size_setIfInBounds]; exact h.size, ?_, ?_, ?_, ?_, ?_, ?_, ?_, ?_, h.bl.trans hbl, below_then h.below h.below.size hbel, hown⟩
    · intro j hj1 hj2
      rw [hlset j true hj2, if_neg (by omega)]
      exact h.late j hj1 hj2
    · intro j o2 ho2 hlj e he hb2
      refine hmono _ ?_
      by_cases e1 : i = j
      · subst e1
        rw [ho] at ho2
        injection ho2 with ho2
        subst ho2
        exact hdeps e he hb2
      · have hj2 : j < ops.size := (Array.getElem?_eq_some_iff.1 ho2).1
        rw [hlset j false hj2, if_neg e1] at hlj
        exact h.closed j o2 ho2 hlj e he hb2
    · rw [put_defers]; exact h.defers
    · rw [put_size]; exact h.tsize
    · intro s hs
      rw [hput, if_neg ?_]
      · exact h.rest s hs
      · intro e
        rw [hod] at e
        have : dsts.contains (some s) = true := by
          rw [List.contains_iff_mem]
          rw [List.getD_eq_getElem?_getD] at e
          cases h2 : dsts[i]? with
          | none => rw [h2] at e; cases e
          | some y => rw [h2] at e; simp at e; subst e; exact List.mem_of_getElem? h2
        rw [hs] at this; cases this
    · intro j d hj hd hlj
      rw [hlset j false (by omega)] at hlj
      rw [hput]
      by_cases e : i = j
      · subst e; rw [if_pos (by rw [hod]; exact hd)]; exact hp
      · rw [if_neg e] at hlj
        rw [if_neg (fun e2 => e (distinct_ne C.dis i j d (by rw [← hod]; exact e2) hd))]
        exact FD.st _ hbl (h.fact j d hj hd hlj)
    · intro j d hj haj hd hlj
      rw [hlset j false (by omega)] at hlj
      rw [hput]
      by_cases e : i = j
      · subst e
        rw [if_pos (by rw [hod]; exact hd)]
        obtain ⟨b, h1, h2, h3⟩ := hal haj
        exact ⟨b, h1, Nat.le_trans h.below.size h2, h3⟩
      · rw [if_neg e] at hlj
        rw [if_neg (fun e2 => e (distinct_ne C.dis i j d (by rw [← hod]; exact e2) hd))]
        obtain ⟨b, h1, h2, h3⟩ := h.fresh j d hj haj hd hlj
        exact ⟨b, h1, h2, Nat.lt_of_lt_of_le h3 hbel.size⟩
    · intro j k d e hj hk hjk aj ak hd he lj lk
      rw [hlset j false (by omega)] at lj
      rw [hlset k false (by omega)] at lk
      rw [hput, hput]
      by_cases e1 : i = j
      · subst e1
        rw [if_neg hjk] at lk
        rw [if_pos (by rw [hod]; exact hd), if_neg (fun e2 => hjk (distinct_ne C.dis i k e (by rw [← hod]; exact e2) he))]
        obtain ⟨b, h1, h2, h3⟩ := hal aj
        obtain ⟨c, g1, g2, g3⟩ := h.fresh k e hk ak he lk
        rw [h1, g1]
        intro e3
        injection e3 with e3; injection e3 with e3; injection e3 with e3
        omega
      · rw [if_neg e1] at lj
        rw [if_neg (fun e2 => e1 (distinct_ne C.dis i j d (by rw [← hod]; exact e2) hd))]
        by_cases e2 : i = k
        · subst e2
          rw [if_pos (by rw [hod]; exact he)]
          obtain ⟨b, h1, h2, h3⟩ := hal ak
          obtain ⟨c, g1, g2, g3⟩ := h.fresh j d hj aj hd lj
          rw [h1, g1]
          intro e3
          injection e3 with e3; injection e3 with e3; injection e3 with e3
          omega
        · rw [if_neg e2] at lk
          rw [if_neg (fun e3 => e2 (distinct_ne C.dis i k e (by rw [← hod]; exact e3) he))]
          exact h.apart j k d e hj hk hjk aj ak hd he lj lk

/-- The slots of the new variables. -/
def newBx (dsts : List (Option Tmp)) (als : List Bool) : List Tmp := (List.range als.length).filterMap fun i => if als.getD i false then dsts.getD i none else none
theorem mem_newBx {s : Tmp} (h : s ∈ newBx dsts als) : ∃ i, i < als.length ∧ als.getD i false = true ∧ dsts.getD i none = some s := by
  unfold newBx at h
  obtain ⟨i, hi, h2⟩ := List.mem_filterMap.1 h
  rw [List.mem_range] at hi
  by_cases h3 : als.getD i false = true
  · rw [if_pos h3] at h2; exact ⟨i, hi, h3, h2⟩
  · rw [if_neg h3] at h2; cases h2

theorem Mid2.done (C : FlowOk tl md ops m N dsts pres bxs refs outs als) (hpre : pre.map Prod.fst = pres) {w00 : World} {B00 : Bx} (H : St N w00 B00 base w0 B0 pre bxs) {out : List (Tmp × FD)} (hout : outs.map (lookR dsts posts pre) = out) {nb : List Tmp} (hnb : newBx dsts als = nb)
    {l : Array Bool} {a : Act} {w : World} {B : Bx} (h : Mid2 md ops m dsts posts als base w0 B0 l a w B) (hl : ∀ i, i < m → l.getD i false = true) : St N w00 B00 a w B out (nb ++ bxs) := by
  subst hout hnb
  have old : ∀ s, s ∈ bxs → a.tmps.getD s undef = base.tmps.getD s undef := fun s hs => h.rest s (C.bx s hs)
  refine ⟨h.defers.trans H.df, h.tsize.trans H.sz, Fct.of_all fun x hx => ?_, fun s hs => ?_, fun s hs t ht hst => ?_, below_then H.bel H.bel.size h.below, h.own, fun k hk => ?_⟩
  · obtain ⟨r, hr, rfl⟩ := List.mem_map.1 hx
    have hok := C.out r hr
    refine h.need C hpre H.fc r ?_
    cases r with
    | pre k =>
      simp only [refOk] at hok
      cases hs : pres[k]? with
      | none => rw [hs] at hok; cases hok
      | some s => rw [hs] at hok; simp only [hs]; simpa using hok

    | res j =>
      simp only [refOk, Bool.and_eq_true, decide_eq_true_eq] at hok
      exact ⟨hok.1.1, hok.1.2, hl j hok.1.1⟩
  · rcases List.mem_append.1 hs with hs | hs
    · obtain ⟨i, h1, h2, h3⟩ := mem_newBx hs
      obtain ⟨b, g1, g2, g3⟩ := h.fresh i s (by rw [← C.la]; exact h1) h2 h3 (hl i (by rw [← C.la]; exact h1))
      exact ⟨b, g1, g3, Nat.le_trans H.bel.size g2⟩
    · obtain ⟨b, g1, g2, g3⟩ := H.bx s hs
      exact ⟨b, (old s hs).trans g1, Nat.lt_of_lt_of_le g2 h.below.size, g3⟩
  · have key : ∀ s t, s ∈ newBx dsts als → t ∈ bxs → a.tmps.getD s undef ≠ a.tmps.getD t undef := by
      intro s t hs ht
      obtain ⟨i, h1, h2, h3⟩ := mem_newBx hs
      obtain ⟨b, g1, g2, g3⟩ := h.fresh i s (by rw [← C.la]; exact h1) h2 h3 (hl i (by rw [← C.la]; exact h1))
      obtain ⟨c, k1, k2, k3⟩ := H.bx t ht
      rw [g1, (old t ht).trans k1]
      intro e3
      injection e3 with e3; injection e3 with e3; injection e3 with e3
      omega
    rcases List.mem_append.1 hs with hs | hs <;> rcases List.mem_append.1 ht with ht | ht
    · obtain ⟨i, h1, h2, h3⟩ := mem_newBx hs
      obtain ⟨j, k1, k2, k3⟩ := mem_newBx ht
      rw [C.la] at h1 k1
      refine h.apart i j s t h1 k1 (fun e => hst ?_) h2 k2 h3 k3 (hl i h1) (hl j k1)
      subst e; rw [h3] at k3; injection k3
    · exact key s t hs ht
    · exact (key t s ht hs).symm
    · rw [old s hs, old t ht]; exact H.ap s hs t ht hst
  · have h1 := H.own0 k hk
    have h2 := H.own k h1
    exact (h.bl.box k h2).2 h1

theorem Mid2.start (H : Own1 B0 w0) : Mid2 md ops m dsts posts als base w0 B0 (Array.replicate ops.size false) base w0 B0 := by
  have no : ∀ i : Nat, (Array.replicate ops.size false).getD i false = false := fun i => by
    rw [Array.getD_eq_getD_getElem?, Array.getElem?_replicate]; split <;> rfl
  refine ⟨by simp, fun j _ hj => by simp [hj], fun j o ho hl => ?_, rfl, rfl, fun _ _ => rfl, fun i d _ _ hl => ?_, fun i d _ _ _ hl => ?_, fun i j d e _ _ _ _ _ _ _ hl => ?_, Bl.refl _ _, Below.refl _ _, H⟩ <;> (rw [no] at hl; cases hl)
end

theorem flow_any (m : Nat) {N : Nat} {opl : List Oper} {dsts : List (Option Tmp)} {refs : List (List Ref)} {outs : List Ref} {als : List Bool} {posts : List FD} {pre out : List (Tmp × FD)} {bxs nb : List Tmp} {a : Act} {w w0 : World} {B B0 : Bx} {K : Nat → Array Bool → Prop}
    (H : St N w0 B0 a w B pre bxs)
    (hck : flowCheck true .any opl.toArray m N dsts (pre.map Prod.fst) bxs refs outs als = true) (hout : outs.map (lookR dsts posts pre) = out) (hnb : newBx dsts als = nb)
    (hall : AllOk P opl.toArray (lookR dsts posts pre) opl refs posts als)
    (hfull : ∀ a w B, St N w0 B0 a w B out (nb ++ bxs) → wpAny P .any opl.toArray Q (unlisted (coreFull opl.toArray.size m)) (coreFull opl.toArray.size m) a w) :
    wpAny P .any opl.toArray Q opl.toArray.size (Array.replicate opl.toArray.size false) a w := by
  have C := flowCheck_ok hck
  have hc := C.core
  have hallg := hall.get
  rw [C.lr] at hallg
  simp only [← List.getElem?_toArray] at hallg
  generalize opl.toArray = ops at *
  unfold coreOk1 at hc
  rw [Bool.and_eq_true, decide_eq_true_eq, List.all_eq_true] at hc
  obtain ⟨hm, hc⟩ := hc
  have key : ∀ l a w B, Mid2 .any ops m dsts posts als a w B l a w B → True := fun _ _ _ _ _ => trivial
  have keyf : ∀ l a1 w1 B1, Mid2 .any ops m dsts posts als a w B l a1 w1 B1 → (∀ i, i < m → l.getD i false = true) → l = coreFull ops.size m := by
    intro l a1 w1 B1 h hl
    apply Array.ext
    · rw [h.size]; simp [coreFull]
    · intro i h1 h2
      have hi : i < ops.size := by rw [← h.size]; exact h1
      have e : (coreFull ops.size m)[i] = decide (i < m) := by simp [coreFull]
      rw [e]
      by_cases him : i < m
      · have := hl i him
        rw [Array.getD_eq_getD_getElem?, Array.getElem?_eq_getElem h1] at this
        rw [decide_eq_true him]
        simpa using this
      · have := h.late i (by omega) hi
        rw [Array.getD_eq_getD_getElem?, Array.getElem?_eq_getElem h1] at this
        rw [decide_eq_false him]
        simpa using this
  refine wpAny_inv (coreFull ops.size m) (fun l a1 w1 => ∃ B1, Mid2 .any ops m dsts posts als a w B l a1 w1 B1) ?_ ?_ ?_ ops.size _ a w ?_ ⟨B, Mid2.start H.own⟩
  · rintro l a1 w1 ⟨B1, h⟩ hl
    by_cases hall : ∀ i, i < m → l.getD i false = true
    · exact absurd (keyf l a1 w1 B1 h hall) hl
    · have hex : ∃ i, i < m ∧ l.getD i false ≠ true := by
        simpa [Classical.not_forall] using hall
      obtain ⟨i, ⟨hi, hne⟩, hmin⟩ : ∃ i, (i < m ∧ l.getD i false ≠ true) ∧ ∀ j, j < i → ¬ (j < m ∧ l.getD j false ≠ true) := least_of _ hex
      have hisz : i < ops.size := by omega
      have hoi := hc i (List.mem_range.2 hisz)
      rw [Array.getElem?_eq_getElem hisz] at hoi
      simp only [hi, if_true] at hoi
      have hmem : i ∈ Region.ready .any ops l := mem_ready.2 ⟨by
          have hl2 : i < l.size := by rw [h.size]; exact hisz
          rw [Array.getD_eq_getD_getElem?, Array.getElem?_eq_getElem hl2] at hne ⊢
          simpa using hne, ops[i], Array.getElem?_eq_getElem hisz, fun e he hbi => by
          have h1 := Array.all_eq_true_iff_forall_mem.1 hoi e he
          have h2 : e.on < i := by simpa [hbi] using h1
          have h3 := hmin e.on h2
          by_cases h4 : l.getD e.on false = true
          · exact h4
          · exact absurd ⟨by omega, h4⟩ h3⟩
      intro e
      rw [e] at hmem
      cases hmem
  · rintro l a1 w1 i ⟨B1, h⟩ hl hi
    obtain ⟨hun, o, ho, hdeps⟩ := mem_ready.1 hi
    have hisz : i < ops.size := (Array.getElem?_eq_some_iff.1 ho).1
    by_cases him : i < m
    · exact h.step C rfl H.fc H.sz hallg i him hun (fun o2 ho2 => by rw [ho] at ho2; injection ho2 with ho2; subst ho2; exact hdeps)
    · exfalso
      have hoi := hc i (List.mem_range.2 hisz)
      rw [ho] at hoi
      simp only [him, if_false] at hoi
      refine hl (keyf l a1 w1 B1 h fun j hj => ?_)
      rw [Bool.not_true, Bool.false_or] at hoi
      have h1 := List.all_eq_true.1 hoi j (List.mem_range.2 hj)
      exact anc_listed h.closed ho hdeps h1
  · rintro a1 w1 ⟨B1, h⟩
    refine hfull a1 w1 B1 (h.done C rfl H hout hnb fun i hi => ?_)
    have : i < ops.size := by omega
    simp [coreFull, Array.getD_eq_getD_getElem?, this, hi]
  · unfold unlisted
    simp [List.countP_replicate]

theorem flow_seq (m : Nat) {N : Nat} {opl : List Oper} {dsts : List (Option Tmp)} {refs : List (List Ref)} {outs : List Ref} {als : List Bool} {posts : List FD} {pre out : List (Tmp × FD)} {bxs nb : List Tmp} {a : Act} {w w0 : World} {B B0 : Bx} {rest : List Nat}
    (H : St N w0 B0 a w B pre bxs)
    (hck : flowCheck false .any opl.toArray m N dsts (pre.map Prod.fst) bxs refs outs als = true) (hout : outs.map (lookR dsts posts pre) = out) (hnb : newBx dsts als = nb)
    (hall : AllOk P opl.toArray (lookR dsts posts pre) opl refs posts als)
    (hfull : ∀ a w B, St N w0 B0 a w B out (nb ++ bxs) → wpOps P opl.toArray Q rest a w) :
    wpOps P opl.toArray Q (List.range m ++ rest) a w := by
  have C := flowCheck_ok hck
  have hc := C.core
  have hallg := hall.get
  rw [C.lr] at hallg
  simp only [← List.getElem?_toArray] at hallg
  generalize opl.toArray = ops at *
  unfold coreOk1 at hc
  rw [Bool.and_eq_true, decide_eq_true_eq, List.all_eq_true] at hc
  obtain ⟨hm, hc⟩ := hc
  have main : ∀ n k l a1 w1 B1, n + k = m → Mid2 .any ops m dsts posts als a w B l a1 w1 B1 → (∀ i, i < m → (l.getD i false = true ↔ i < k)) → wpOps P ops Q (List.range' k n ++ rest) a1 w1 := by
    intro n
    induction n with
    | zero =>
      intro k l a1 w1 B1 hk h hl
      exact hfull a1 w1 B1 (h.done C rfl H hout hnb fun i hi => (hl i hi).2 (by omega))
    | succ n ih =>
      intro k l a1 w1 B1 hk h hl
      rw [List.range'_succ, List.cons_append, wpOps_cons]
      have hkm : k < m := by omega
      have hks : k < l.size := by rw [h.size]; omega
      refine wpOp_mono ?_ (h.step C rfl H.fc H.sz hallg k hkm ?_ ?_)
      · rintro a2 w2 ⟨B2, h2⟩
        refine ih (k + 1) _ a2 w2 B2 (by omega) h2 fun i hi => ?_
        rw [Array.getD_eq_getD_getElem?, Array.getElem?_setIfInBounds]
        by_cases e : k = i
        · subst e; simp [hks]
        · rw [if_neg e, ← Array.getD_eq_getD_getElem?, hl i hi]; omega
      · have := hl k hkm
        rw [Array.getD_eq_getD_getElem?, Array.getElem?_eq_getElem hks] at this ⊢
        simpa using this
      · intro o ho e he hb
        have hisz : k < ops.size := by omega
        have hoi := hc k (List.mem_range.2 hisz)
        rw [ho] at hoi
        simp only [hkm, if_true] at hoi
        have := Array.all_eq_true_iff_forall_mem.1 hoi e he
        have h2 : e.on < k := by simpa [hb] using this
        exact (hl e.on (by omega)).2 h2
  have := main m 0 _ a w B (by omega) (Mid2.start H.own) (fun i hi => by
    rw [Array.getD_eq_getD_getElem?, Array.getElem?_replicate]; split <;> simp)
  rwa [← List.range_eq_range'] at this

/-- A region that does not draw, whole. -/
theorem flow_region {id : Nat} {N : Nat} {opl : List Oper} {dsts : List (Option Tmp)} {refs : List (List Ref)} {outs : List Ref} {als : List Bool} {posts : List FD} {pre out : List (Tmp × FD)} {bxs nb : List Tmp} {a : Act} {w w0 : World} {B B0 : Bx} (H : St N w0 B0 a w B pre bxs)
    (m : Nat) (rest : List Nat) (hr : List.range opl.toArray.size = List.range m ++ rest)
    (hck : flowCheck false .any opl.toArray m N dsts (pre.map Prod.fst) bxs refs outs als = true) (hout : outs.map (lookR dsts posts pre) = out) (hnb : newBx dsts als = nb)
    (hall : AllOk P opl.toArray (lookR dsts posts pre) opl refs posts als)
    (hfull : ∀ a w B, St N w0 B0 a w B out (nb ++ bxs) → wpOps P opl.toArray Q rest a w) : (Code.region id opl.toArray false).wp P Q a w :=
  wp_region (by rw [hr]; exact flow_seq m H hck hout hnb hall hfull)
/-- A region that draws. -/
theorem flow_draw {id : Nat} {N : Nat} {opl : List Oper} {dsts : List (Option Tmp)} {refs : List (List Ref)} {outs : List Ref} {als : List Bool} {posts : List FD} {pre out : List (Tmp × FD)} {bxs nb : List Tmp} {a : Act} {w w0 : World} {B B0 : Bx} (H : St N w0 B0 a w B pre bxs)
    (hm : P.follows .mixedOrders = true) (m : Nat)
    (hck : flowCheck true .any opl.toArray m N dsts (pre.map Prod.fst) bxs refs outs als = true) (hout : outs.map (lookR dsts posts pre) = out) (hnb : newBx dsts als = nb)
    (hall : AllOk P opl.toArray (lookR dsts posts pre) opl refs posts als)
    (hfull : ∀ a w B, St N w0 B0 a w B out (nb ++ bxs) → wpAny P .any opl.toArray Q (unlisted (coreFull opl.toArray.size m)) (coreFull opl.toArray.size m) a w) : (Code.region id opl.toArray true).wp P Q a w :=
  wp_region_any hm (flow_any (K := fun _ _ => True) m H.drew hck hout hnb hall hfull)
end
end Go.Proofs.YtoimhjcpeifegaaGreatDoor

