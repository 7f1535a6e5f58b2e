/- Contracts of functions, and plain facts, part 8. -/
import Derived.Test.YtoimhjcpeifegaaGreatDoorPk5
set_option linter.unusedVariables false
set_option linter.unusedSimpArgs false
/- A region that draws, with stores into its own new variables among the other operations. -/
namespace Go.Proofs.YtoimhjcpeifegaaGreatDoor
open Go Go.RowKit

section
variable {P : Program} {ops : Array Oper} {Q : Exit → Act → World → Prop} {md : Region.Mode}
def curF (posts : List FD) (posts2 : List (Option (Nat × FD))) (l : Array Bool) (j : Nat) : FD := match posts2.getD j none with
  | some (i, f) => if l.getD i false then f else posts.getD j (.val VP.top)
  | none => posts.getD j (.val VP.top)
def FD.notPtr (t : TypeId) : FD → Bool
  | .ptr t' _ _ _ => decide (t' ≠ t)
  | _ => true

def notStore (posts2 : List (Option (Nat × FD))) (i : Nat) : Bool := posts2.all fun x => match x with
  | some (k, _) => decide (k ≠ i)
  | none => true
theorem notStore_ne {posts2 : List (Option (Nat × FD))} {i : Nat} (h : notStore posts2 i = true) (j : Nat) (f : FD) : posts2.getD j none ≠ some (i, f) := by
  intro e
  rw [List.getD_eq_getElem?_getD] at e
  cases hm : posts2[j]? with
  | none => rw [hm] at e; cases e
  | some y =>
    rw [hm] at e
    simp at e
    subst e
    have := List.all_eq_true.1 h _ (List.mem_of_getElem? hm)
    simp at this
inductive AllOkS (P : Program) (ops : Array Oper) (look : Ref → Tmp × FD) (dsts : List (Option Tmp)) (posts : List FD) (posts2 : List (Option (Nat × FD))) (als : List Bool) (refs : List (List Ref)) : Nat → List Oper → Prop where
  | nil {i : Nat} : AllOkS P ops look dsts posts posts2 als refs i []
  | norm {i : Nat} {o : Oper} {os : List Oper} (hn : notStore posts2 i = true) (h : StepOk P ops o ((refs.getD i []).map look) (posts.getD i (.val VP.top)) (als.getD i false)) (t : AllOkS P ops look dsts posts posts2 als refs (i + 1) os) : AllOkS P ops look dsts posts posts2 als refs i (o :: os)
  | stor {i : Nat} {o : Oper} {os : List Oper} (j : Nat) {p : Tmp} {x : Operand} {t : TypeId} {n : Nat} {D0 D : VP} {ty : TypeId} {pos : String} {af : Array Edge} (ho : o = ⟨none, .store t (.tmp p) x, ty, pos, af, none⟩) (hj : dsts.getD j none = some p) (h1 : posts.getD j (.val VP.top) = .box t n D0) (h2 : posts2.getD j none = some (i, .box t n D))
      (hx : Opd ((refs.getD i []).map look) x (.val D)) (T : TyOk P t n) (s0 : Shape n D0) (s1 : Shape n D) (hp : posts.all (FD.notPtr t) = true) (tl : AllOkS P ops look dsts posts posts2 als refs (i + 1) os) : AllOkS P ops look dsts posts posts2 als refs i (o :: os)
def OneOk (P : Program) (ops : Array Oper) (look : Ref → Tmp × FD) (dsts : List (Option Tmp)) (posts : List FD) (posts2 : List (Option (Nat × FD))) (als : List Bool) (refs : List (List Ref)) (i : Nat) (o : Oper) : Prop :=
  (notStore posts2 i = true ∧ StepOk P ops o ((refs.getD i []).map look) (posts.getD i (.val VP.top)) (als.getD i false)) ∨
  ∃ (j : Nat) (p : Tmp) (x : Operand) (t : TypeId) (n : Nat) (D0 D : VP) (ty : TypeId) (pos : String) (af : Array Edge), o = ⟨none, .store t (.tmp p) x, ty, pos, af, none⟩ ∧ dsts.getD j none = some p ∧ posts.getD j (.val VP.top) = .box t n D0 ∧ posts2.getD j none = some (i, .box t n D) ∧
      Opd ((refs.getD i []).map look) x (.val D) ∧ TyOk P t n ∧ Shape n D0 ∧ Shape n D ∧ posts.all (FD.notPtr t) = true
theorem AllOkS.get {look : Ref → Tmp × FD} {dsts : List (Option Tmp)} {posts : List FD} {posts2 : List (Option (Nat × FD))} {als : List Bool} {refs : List (List Ref)} {i : Nat} {os : List Oper} (h : AllOkS P ops look dsts posts posts2 als refs i os) :
    ∀ k o, os[k]? = some o → OneOk P ops look dsts posts posts2 als refs (i + k) o := by
  induction h with
  | nil => intro k o hk; simp at hk
  | norm hn h t ih =>
    intro k o hk
    cases k with
    | zero => simp at hk; subst hk; exact .inl ⟨hn, h⟩
    | succ k => rw [show ∀ i : Nat, i + (k + 1) = i + 1 + k from fun i => by omega]; exact ih k o (by simpa using hk)
  | stor j ho hj h1 h2 hx T s0 s1 hp tl ih =>
    intro k o hk
    cases k with
    | zero => simp at hk; subst hk; exact .inr ⟨j, _, _, _, _, _, _, _, _, _, ho, hj, h1, h2, hx, T, s0, s1, hp⟩
    | succ k => rw [show ∀ i : Nat, i + (k + 1) = i + 1 + k from fun i => by omega]; exact ih k o (by simpa using hk)

structure Mid3 (md : Region.Mode) (ops : Array Oper) (m : Nat) (dsts : List (Option Tmp)) (posts : List FD) (posts2 : List (Option (Nat × FD))) (als : List Bool) (base : Act) (w0 : World) (B0 : Bx) (l : Array Bool) (a : Act) (w : World) (B : Bx) : Prop where
  size : l.size = ops.size
  closed : ∀ j o, ops[j]? = some o → l.getD j false = true → ∀ e ∈ o.after, Region.binds md e = true → l.getD e.on false = true
  defers : a.defers = base.defers
  tsize : a.tmps.size = base.tmps.size
  rest : ∀ s, dsts.contains (some s) = false → a.tmps.getD s undef = base.tmps.getD s undef
  fact : ∀ i d, i < m → dsts.getD i none = some d → l.getD i false = true → (curF posts posts2 l i).p (a.tmps.getD d undef) w B
  fresh : ∀ i d, i < m → als.getD i false = true → dsts.getD i none = some d → l.getD i false = true → ∃ b, a.tmps.getD d undef = .pointer (some ⟨b, 0, none⟩) ∧ w0.heap.size ≤ b ∧ b < w.heap.size
  apart : ∀ i j d e, i < m → j < m → i ≠ j → als.getD i false = true → als.getD j false = true → dsts.getD i none = some d → dsts.getD j none = some e → l.getD i false = true → l.getD j false = true → a.tmps.getD d undef ≠ a.tmps.getD e undef
  bl : Bl w0 B0 w B
  below : Below w0.heap.size w0 w
  own : Own1 B w

/-- What is asked beside flowCheck: boxes that are stored into are new; they are named by their own store alone; the store comes behind. -/
def storeCheck (m : Nat) (dsts : List (Option Tmp)) (refs : List (List Ref)) (outs : List Ref) (als : List Bool) (posts : List FD) (posts2 : List (Option (Nat × FD))) (md : Region.Mode) (ops : Array Oper) : Bool :=
  decide (posts2.length = m) && (List.range m).all fun j => match posts2.getD j none with
    | none => match posts.getD j (.val VP.top) with
      | .box .. => als.getD j false
      | _ => true
    | some (i, f) => als.getD j false && decide (i < m) && decide (dsts.getD i none = none) && direct md ops i j && f.isBox && (posts.getD j (.val VP.top)).isBox && ((List.range m).all fun k => decide (k = j) || match posts2.getD k none with
        | some (q, _) => decide (q ≠ i)
        | none => true) &&
        (List.range m).all fun k => decide (k = i) || (refs.getD k []).all fun r => match r with
          | .res q => decide (q ≠ j)
          | _ => true

section
variable {m N : Nat} {dsts : List (Option Tmp)} {pres bxs : List Tmp} {refs : List (List Ref)} {outs : List Ref} {als : List Bool} {posts : List FD} {posts2 : List (Option (Nat × FD))} {pre : List (Tmp × FD)} {base : Act} {w0 : World} {B0 : Bx}

theorem storeCheck_spec (h : storeCheck m dsts refs outs als posts posts2 md ops = true) (j : Nat) (hj : j < m) :
    (posts2.getD j none = none ∧ (∀ t n D, posts.getD j (.val VP.top) = .box t n D → als.getD j false = true)) ∨ ∃ i f, posts2.getD j none = some (i, f) ∧ als.getD j false = true ∧ i < m ∧ dsts.getD i none = none ∧ direct md ops i j = true ∧ (∀ k, k < m → k ≠ i → ∀ r ∈ refs.getD k [], r ≠ .res j) ∧ f.isBox = true ∧ (posts.getD j (.val VP.top)).isBox = true ∧ ∀ k f2, k < m → k ≠ j → posts2.getD k none ≠ some (i, f2) := by
  simp only [storeCheck, Bool.and_eq_true, List.all_eq_true, List.mem_range] at h
  have h2 := h.2 j hj
  cases hp : posts2.getD j none with
  | none =>
    rw [hp] at h2
    refine .inl ⟨rfl, fun t n D hf => ?_⟩
    rw [hf] at h2
    exact h2
  | some x =>
    obtain ⟨i, f⟩ := x
    rw [hp] at h2
    simp only [Bool.and_eq_true, decide_eq_true_eq, List.all_eq_true, List.mem_range, Bool.or_eq_true] at h2
    obtain ⟨⟨⟨⟨⟨⟨⟨g1, g2⟩, g3⟩, g4⟩, g6⟩, g7⟩, g8⟩, g5⟩ := h2
    refine .inr ⟨i, f, rfl, g1, g2, g3, g4, fun k hk hki r hr e => ?_, g6, g7, fun k f2 hk hkj e => ?_⟩
    · subst e
      have := (g5 k hk).resolve_left hki _ hr
      simp at this
    · have := (g8 k hk).resolve_left hkj
      rw [e] at this
      simp at this

theorem curF_none {l : Array Bool} {j : Nat} (h : posts2.getD j none = none) : curF posts posts2 l j = posts.getD j (.val VP.top) := by unfold curF; rw [h]
theorem curF_some {l : Array Bool} {j i : Nat} {f : FD} (h : posts2.getD j none = some (i, f)) : curF posts posts2 l j = if l.getD i false then f else posts.getD j (.val VP.top) := by unfold curF; rw [h]

theorem Mid3.need (C : FlowOk true md ops m N dsts pres bxs refs outs als) (hpre : pre.map Prod.fst = pres) (hb : Fct base w0 B0 pre) {l : Array Bool} {a : Act} {w : World} {B : Bx} (h : Mid3 md ops m dsts posts posts2 als base w0 B0 l a w B)
    (r : Ref) (hr : match r with
      | .pre k => match pres[k]? with
        | some s => dsts.contains (some s) = false
        | none => False
      | .res j => j < m ∧ (dsts.getD j none).isSome = true ∧ l.getD j false = true ∧ curF posts posts2 l j = posts.getD j (.val VP.top)) : (lookR dsts posts pre r).2.p (a.tmps.getD (lookR dsts posts pre r).1 undef) w B := by
  cases r with
  | pre k =>
    simp only at hr
    cases hk : pres[k]? with
    | none => rw [hk] at hr; exact hr.elim
    | some s =>
      rw [hk] at hr
      simp only at hr
      rw [← hpre, List.getElem?_map] at hk
      cases hp : pre[k]? with
      | none => rw [hp] at hk; cases hk
      | some x =>
        rw [hp] at hk
        simp at hk
        have e : lookR dsts posts pre (.pre k) = x := by simp [lookR, List.getD_eq_getElem?_getD, hp]
        rw [e]
        have h1 := hb.all x (List.mem_of_getElem? hp)
        have h2 := h.rest x.1 (by rw [hk]; exact hr)
        rw [h2]
        exact x.2.st h.bl h1
  | res j =>
    obtain ⟨h1, h2, h3, h4⟩ := hr
    obtain ⟨d, hd⟩ := Option.isSome_iff_exists.1 h2
    have := h.fact j d h1 hd h3
    rw [h4] at this
    have e : lookR dsts posts pre (.res j) = (d, posts.getD j (.val VP.top)) := by simp only [lookR, hd, Option.getD_some]
    rw [e]
    exact this

theorem Mid3.step (C : FlowOk true md ops m N dsts pres bxs refs outs als) (S : storeCheck m dsts refs outs als posts posts2 md ops = true) (hms : m = ops.size) (hpre : pre.map Prod.fst = pres) (hb : Fct base w0 B0 pre) (hN : base.tmps.size = N)
    (hall : ∀ i o, ops[i]? = some o → OneOk P ops (lookR dsts posts pre) dsts posts posts2 als refs i o)
    {l : Array Bool} {a : Act} {w : World} {B : Bx} (h : Mid3 md ops m dsts posts posts2 als base w0 B0 l a w B) (i : Nat) (hi : i < m) (hun : l.getD i true = false)
    (hdeps : ∀ o, ops[i]? = some o → ∀ e ∈ o.after, Region.binds md e = true → l.getD e.on false = true) :
    wpOp P ops Q i (fun a' w' => ∃ B', Mid3 md ops m dsts posts posts2 als base w0 B0 (l.setIfInBounds i true) a' w' B') a w := by
  have hisz : i < ops.size := by omega
  have ho : ops[i]? = some ops[i] := Array.getElem?_eq_getElem hisz
  generalize ops[i] = o at ho
  have hod := C.dst i o hi ho
  have hdeps := hdeps o ho
  have hlset : ∀ j b, j < ops.size → (l.setIfInBounds i true).getD j b = if i = j then true else l.getD j b := fun j b hj => by
    have hil : i < l.size := by rw [h.size]; exact hisz
    rw [Array.getD_eq_getD_getElem?, Array.getD_eq_getD_getElem?, Array.getElem?_setIfInBounds]
    by_cases e : i = j
    · subst e; simp [hil]
    · rw [if_neg e, if_neg e]
  have hmono : ∀ j, l.getD j false = true → (l.setIfInBounds i true).getD j false = true := fun j hj => getD_set_true hj
  have hunf : l.getD i false = false := by
    have hil : i < l.size := by rw [h.size]; exact hisz
    rw [Array.getD_eq_getD_getElem?, Array.getElem?_eq_getElem hil] at hun ⊢
    simpa using hun
  have hclosed : ∀ j o2, ops[j]? = some o2 → (l.setIfInBounds i true).getD j false = true → ∀ e ∈ o2.after, Region.binds md e = true → (l.setIfInBounds i true).getD e.on false = true := by
    intro j o2 ho2 hlj e he hb2
    refine hmono _ ?_
    by_cases e1 : i = j
    · subst e1
      rw [ho] at ho2
      injection ho2 with ho2
      subst ho2
      exact hdeps e he hb2
    · have hj2 : j < ops.size := (Array.getElem?_eq_some_iff.1 ho2).1
      rw [hlset j false hj2, if_neg e1] at hlj
      exact h.closed j o2 ho2 hlj e he hb2
  have needs : ∀ r ∈ refs.getD i [], (lookR dsts posts pre r).2.p (a.tmps.getD (lookR dsts posts pre r).1 undef) w B := by
    intro r hr
    have hok := C.ref i r hi hr
    refine h.need C hpre hb r ?_
    cases r with
    | pre k =>
      simp only [refOk] at hok
      cases hs : pres[k]? with
      | none => rw [hs] at hok; cases hok
      | some s => rw [hs] at hok; simp only [hs]; simpa using hok
    | res j =>
      simp only [refOk, Bool.and_eq_true, decide_eq_true_eq] at hok
      refine ⟨hok.1.1, hok.1.2, direct_listed ho hdeps hok.2, ?_⟩
      rcases storeCheck_spec S j hok.1.1 with ⟨h1, _⟩ | ⟨k, f, h1, h2, h3, h4, h5, h6, _⟩
      · exact curF_none h1
      · rw [curF_some h1]
        by_cases e : i = k
        · subst e; rw [hunf]; rfl
        · exact absurd rfl (h6 i hi e _ hr)
  -- what the facts of others become when the list grows
  have curSame : ∀ j, j < m → (∀ f, posts2.getD j none ≠ some (i, f)) → curF posts posts2 (l.setIfInBounds i true) j = curF posts posts2 l j := by
    intro j hj hne
    rcases storeCheck_spec S j hj with ⟨h1, _⟩ | ⟨k, f, h1, h2, h3, _⟩
    · rw [curF_none h1, curF_none h1]
    · rw [curF_some h1, curF_some h1, hlset k false (by omega), if_neg (show ¬ i = k by rintro rfl; exact hne f h1)]
  rcases hall i o ho with ⟨hns, hstep⟩ | ⟨j, p, x, t, n, D0, D, ty, pos, af, rfl, hj, h1, h2, hx, T, s0, s1, hnp⟩
  · refine hstep Q _ i a w B ho h.own (Fct.of_all fun x hx => ?_) ?_
    · obtain ⟨r, hr, rfl⟩ := List.mem_map.1 hx
      exact needs r hr
    · intro v w' B' hp hbl hbel hown hal
      have hds : ∀ d, o.dst = some d → d < a.tmps.size := fun d hd => by
        rw [h.tsize, hN]; exact C.lt i d (by rw [← hod]; exact hd)
      have hput : ∀ s, (a.put o.dst v).tmps.getD s undef = if o.dst = some s then v else a.tmps.getD s undef := fun s => put_getD hds
      refine ⟨B', by rw [Array.size_setIfInBounds]; exact h.size, hclosed, ?_, ?_, ?_, ?_, ?_, ?_, h.bl.trans hbl, below_then h.below h.below.size hbel, hown⟩
      · rw [put_defers]; exact h.defers
      · rw [put_size]; exact h.tsize
      · intro s hs
        rw [hput, if_neg ?_]
        · exact h.rest s hs
        · intro e
          rw [hod] at e
          have : dsts.contains (some s) = true := by
            rw [List.contains_iff_mem]
            rw [List.getD_eq_getElem?_getD] at e
            cases h2 : dsts[i]? with
            | none => rw [h2] at e; cases e
            | some y => rw [h2] at e; simp at e; subst e; exact List.mem_of_getElem? h2
          rw [hs] at this; cases this
      · intro j d hj hd hlj
        rw [hlset j false (by omega)] at hlj
        rw [hput]
        rw [curSame j hj (notStore_ne hns j)]
        by_cases e : i = j
        · subst e
          rw [if_pos (by rw [hod]; exact hd)]
          rcases storeCheck_spec S i hi with ⟨g1, _⟩ | ⟨q, f2, g1, g2, g3, g4, g5, _⟩
          · rw [curF_none g1]; exact hp
          · rw [curF_some g1, if_neg]
            · exact hp
            · intro hq
              obtain ⟨oq, hoq⟩ : ∃ oq, ops[q]? = some oq := ⟨ops[q], Array.getElem?_eq_getElem (by omega)⟩
              have := direct_listed hoq (h.closed q oq hoq hq) g5
              rw [hunf] at this; cases this
        · rw [if_neg e] at hlj
          rw [if_neg (fun e2 => e (distinct_ne C.dis i j d (by rw [← hod]; exact e2) hd))]
          exact FD.st _ hbl (h.fact j d hj hd hlj)
      · intro j d hj haj hd hlj
        rw [hlset j false (by omega)] at hlj
        rw [hput]
        by_cases e : i = j
        · subst e
          rw [if_pos (by rw [hod]; exact hd)]
          obtain ⟨b, h1, h2, h3⟩ := hal haj
          exact ⟨b, h1, Nat.le_trans h.below.size h2, h3⟩
        · rw [if_neg e] at hlj
          rw [if_neg (fun e2 => e (distinct_ne C.dis i j d (by rw [← hod]; exact e2) hd))]
          obtain ⟨b, h1, h2, h3⟩ := h.fresh j d hj haj hd hlj
          exact ⟨b, h1, h2, Nat.lt_of_lt_of_le h3 hbel.size⟩
      · intro j k d e hj hk hjk aj ak hd he lj lk
        rw [hlset j false (by omega)] at lj
        rw [hlset k false (by omega)] at lk
        rw [hput, hput]
        by_cases e1 : i = j
        · subst e1
          rw [if_neg hjk] at lk
          rw [if_pos (by rw [hod]; exact hd), if_neg (fun e2 => hjk (distinct_ne C.dis i k e (by rw [← hod]; exact e2) he))]
          obtain ⟨b, h1, h2, h3⟩ := hal aj
          obtain ⟨c, g1, g2, g3⟩ := h.fresh k e hk ak he lk
          rw [h1, g1]
          intro e3
          injection e3 with e3; injection e3 with e3; injection e3 with e3
          omega
        · rw [if_neg e1] at lj
          rw [if_neg (fun e2 => e1 (distinct_ne C.dis i j d (by rw [← hod]; exact e2) hd))]
          by_cases e2 : i = k
          · subst e2
            rw [if_pos (by rw [hod]; exact he)]
            obtain ⟨b, h1, h2, h3⟩ := hal ak
            obtain ⟨c, g1, g2, g3⟩ := h.fresh j d hj aj hd lj
            rw [h1, g1]
            intro e3
            injection e3 with e3; injection e3 with e3; injection e3 with e3
            omega
          · rw [if_neg e2] at lk
            rw [if_neg (fun e3 => e2 (distinct_ne C.dis i k e (by rw [← hod]; exact e3) he))]
            exact h.apart j k d e hj hk hjk aj ak hd he lj lk
  · -- a store
    have hjm : j < m := by
      rcases Nat.lt_or_ge j m with g | g
      · exact g
      · rw [List.getD_eq_getElem?_getD, List.getElem?_eq_none (by rw [C.ld]; exact g)] at hj; cases hj
    obtain ⟨q, f2, g1, haj, g3, g4, g5, g6, g7, g8, g9⟩ := (storeCheck_spec S j hjm).resolve_left (fun e => by rw [e.1] at h2; cases h2)
    rw [h2] at g1
    injection g1 with g1
    injection g1 with g1 g1'
    subst g1 g1'
    have hlj : l.getD j false = true := direct_listed ho hdeps g5
    have hcur : curF posts posts2 l j = .box t n D0 := by rw [curF_some h2, hunf, ← h1]; rfl
    have hf := h.fact j p hjm hj hlj
    rw [hcur] at hf
    obtain ⟨b, cs0, e1, hB, hlt, hrow, hsz, hD0⟩ := hf
    have hxv := hx a w B (Fct.of_all fun x hx => by
      obtain ⟨r, hr, rfl⟩ := List.mem_map.1 hx
      exact needs r hr)
    obtain ⟨cs, e2, hn, hone, hpl⟩ := s1 _ _ _ hxv
    obtain ⟨cs1, e3, hn1, hone1, hpl1⟩ := s0 _ _ _ hD0
    injection e3 with e3
    subst e3
    have hrun : (storeVar t ⟨b, 0, none⟩ (.agg cs)).run P w = .ok () (w.setRow b cs) := run_storeVar_row w b t t cs0 cs hrow (by rw [T.size, hn]) (by omega) hone
    have hmv : Mv w B (w.setRow b cs) B := Mv.setRow hB hrow hpl1
    have hsame : ∀ k, k ≠ b → (w.setRow b cs).heap[k]? = w.heap[k]? := fun k hk => by simp [World.setRow, Array.getElem?_modify, Ne.symm hk]
    have hs : (w.setRow b cs).heap.size = w.heap.size := by simp [World.setRow]
    have hD1 : D.p (.agg cs) w B := by rw [← e2]; exact hxv
    obtain ⟨b', e1', hb0, hb1⟩ := h.fresh j p hjm haj hj hlj
    rw [e1] at e1'
    injection e1' with e1'; injection e1' with e1'; injection e1' with e1'
    subst e1'
    unfold wpOp
    simp only [ho]
    rw [if_pos (by simp [Region.wanted])]
    refine .inl ?_
    unfold Oper.wp
    have hr2 : (execOp a.eval ⟨none, .store t (.tmp p) x, ty, pos, af, none⟩).run P w = .ok .skip (w.setRow b cs) := by
      have e4 : a.eval (.tmp p) = .pointer (some ⟨b, 0, none⟩) := e1
      simp only [execOp, e4, e2, Instr.storeAt, Instr.sureAddr, Sem.run_bind, Sem.run_pure, Result.andThen_ok, hrun]
    rw [hr2]
    show ∃ B', Mid3 md ops m dsts posts posts2 als base w0 B0 (l.setIfInBounds i true) a (w.setRow b cs) B'
    have hnone : dsts.getD i none = none := g4
    refine ⟨B, by rw [Array.size_setIfInBounds]; exact h.size, hclosed, h.defers, h.tsize, h.rest, fun k d hk hd hlk => ?_, fun k d hk hak hd hlk => ?_, fun k q d e hk hq hkq ak aq hd he lk lq => ?_, ?_, ?_, fun k hk => by rw [hs]; exact h.own k hk⟩
    · have hik : i ≠ k := by rintro rfl; rw [hnone] at hd; cases hd
      rw [hlset k false (by omega), if_neg hik] at hlk
      by_cases ekj : k = j
      · subst ekj
        rw [hj] at hd
        injection hd with hd
        subst hd
        rw [curF_some h2, hlset i false (by omega), if_pos rfl, if_pos rfl]
        exact ⟨b, cs, e1, hB, by rw [hs]; exact hlt, setRow_heap w b cs0 cs t (0, 0) hrow, hn, D.st _ _ _ _ _ hmv hD1⟩
      · have hcs : curF posts posts2 (l.setIfInBounds i true) k = curF posts posts2 l k := by
          exact curSame k hk fun f e => g9 k f hk ekj e
        rw [hcs]
        have hfk := h.fact k d hk hd hlk
        have hxk : ∀ f, curF posts posts2 l k = f → f.p (a.tmps.getD d undef) w B → f.p (a.tmps.getD d undef) (w.setRow b cs) B := by
          intro f hfeq hp2
          cases f with
          | val E => exact E.st _ _ _ _ _ hmv hp2
          | box t2 n2 E =>
            have hak : als.getD k false = true := by
              rcases storeCheck_spec S k hk with ⟨q1, q2⟩ | ⟨z, f3, q1, q2, _⟩
              · rw [curF_none q1] at hfeq; exact q2 _ _ _ hfeq
              · exact q2
            obtain ⟨c, cs2, k1, k2, k3, k4, k5, k6⟩ := hp2
            have hne : c ≠ b := by
              rintro rfl
              exact h.apart k j d p hk hjm ekj hak haj hd hj hlk hlj (k1.trans e1.symm)
            exact ⟨c, cs2, k1, k2, by rw [hs]; exact k3, (hsame c hne).trans k4, k5, E.st _ _ _ _ _ hmv k6⟩
          | ptr t2 n2 E off =>
            obtain ⟨c, cs2, k1, k2, k3, k4, k5, k6⟩ := hp2
            have hne : c ≠ b := by
              rintro rfl
              rw [hrow] at k4
              injection k4 with k4
              injection k4 with _ k4
              have htt : FD.notPtr t (.ptr t2 n2 E off) = true := by
                rcases storeCheck_spec S k hk with ⟨q1, q2⟩ | ⟨z, f3, q1, q2, q3, q4, q5, q6⟩
                · rw [curF_none q1, List.getD_eq_getElem?_getD] at hfeq
                  cases hm : posts[k]? with
                  | none => rw [hm] at hfeq; cases hfeq
                  | some y =>
                    rw [hm] at hfeq
                    simp only [Option.getD_some] at hfeq
                    subst hfeq
                    exact List.all_eq_true.1 hnp _ (List.mem_of_getElem? hm)
                · exfalso
                  obtain ⟨q6, q7, q8, _⟩ := q6
                  rw [curF_some q1] at hfeq
                  split at hfeq
                  · rw [hfeq] at q7; cases q7
                  · rw [hfeq] at q8; cases q8
              exact (of_decide_eq_true htt) k4.symm
            exact ⟨c, cs2, k1, k2, by rw [hs]; exact k3, (hsame c hne).trans k4, k5, E.st _ _ _ _ _ hmv k6⟩
        exact hxk _ rfl hfk
    · have hik : i ≠ k := by rintro rfl; rw [hnone] at hd; cases hd
      rw [hlset k false (by omega), if_neg hik] at hlk
      rw [hs]
      exact h.fresh k d hk hak hd hlk
    · have hik : i ≠ k := by rintro rfl; rw [hnone] at hd; cases hd
      have hiq : i ≠ q := by rintro rfl; rw [hnone] at he; cases he
      rw [hlset k false (by omega), if_neg hik] at lk
      rw [hlset q false (by omega), if_neg hiq] at lq
      exact h.apart k q d e hk hq hkq ak aq hd he lk lq
    · refine ⟨by rw [hs]; exact h.bl.size, fun k hk => ?_, h.bl.box⟩
      rw [hsame k (by omega)]
      exact h.bl.same k hk
    · refine ⟨h.below.os, h.below.tape, h.below.output, by rw [hs]; exact h.below.size, fun k hk => ?_⟩
      rw [hsame k (by omega)]
      exact h.below.block k hk
theorem Mid3.done (C : FlowOk true md ops m N dsts pres bxs refs outs als) (hpre : pre.map Prod.fst = pres) {w00 : World} {B00 : Bx} (H : St N w00 B00 base w0 B0 pre bxs) {out : List (Tmp × FD)} {nb : List Tmp} (hnb : newBx dsts als = nb)
    {l : Array Bool} {a : Act} {w : World} {B : Bx} (h : Mid3 md ops m dsts posts posts2 als base w0 B0 l a w B) (hl : ∀ i, i < m → l.getD i false = true)
    (hout : outs.map (lookR dsts ((List.range m).map fun j => match posts2.getD j none with
      | some (_, f) => f
      | none => posts.getD j (.val VP.top)) pre) = out) (S : storeCheck m dsts refs outs als posts posts2 md ops = true) : St N w00 B00 a w B out (nb ++ bxs) := by
  have h2 : Mid2 md ops m dsts ((List.range m).map fun j => match posts2.getD j none with
      | some (_, f) => f
      | none => posts.getD j (.val VP.top)) als base w0 B0 (coreFull ops.size m) a w B := by
    have full : ∀ i, i < m → i < ops.size → (coreFull ops.size m).getD i false = true := fun i hi hs => by simp [coreFull, Array.getD_eq_getD_getElem?, hs, hi]
    have lt : ∀ i, (coreFull ops.size m).getD i false = true → i < m := by
      intro i hi
      rw [Array.getD_eq_getD_getElem?] at hi
      unfold coreFull at hi
      rw [List.getElem?_toArray, List.getElem?_map] at hi
      cases hr : (List.range ops.size)[i]? with
      | none => rw [hr] at hi; cases hi
      | some x =>
        rw [hr] at hi
        obtain ⟨hlt, he⟩ := List.getElem?_eq_some_iff.1 hr
        rw [List.getElem_range] at he
        subst he
        simpa using hi
    refine ⟨by simp [coreFull], fun j hj hs => by simp [coreFull, Array.getD_eq_getD_getElem?, hs]; omega, fun j o ho hlj e he hb => ?_, h.defers, h.tsize, h.rest, fun i d hi hd hli => ?_, fun i d hi hai hd hli => h.fresh i d hi hai hd (hl i hi), fun i j d e hi hj hij ai aj hd he li lj => h.apart i j d e hi hj hij ai aj hd he (hl i hi) (hl j hj), h.bl, h.below, h.own⟩
    · have hjm := lt j hlj
      have := h.closed j o ho (hl j hjm) e he hb
      have hsz : e.on < ops.size := by
        rcases Nat.lt_or_ge e.on l.size with g | g
        · rw [← h.size]; exact g
        · rw [Array.getD_eq_getD_getElem?, Array.getElem?_eq_none g] at this; cases this
      have hc := C.core
      unfold coreOk1 at hc
      rw [Bool.and_eq_true, List.all_eq_true] at hc
      have hoj := hc.2 j (List.mem_range.2 (Array.getElem?_eq_some_iff.1 ho).1)
      rw [ho] at hoj
      simp only [hjm, if_true] at hoj
      have h3 := Array.all_eq_true_iff_forall_mem.1 hoj e he
      have h4 : e.on < j := by simpa [hb] using h3
      exact full e.on (by omega) hsz
    · have := h.fact i d hi hd (hl i hi)
      have e : (((List.range m).map fun j => match posts2.getD j none with
        | some (_, f) => f
        | none => posts.getD j (.val VP.top)).getD i (.val VP.top)) = curF posts posts2 l i := by
        rw [List.getD_eq_getElem?_getD, List.getElem?_map, List.getElem?_range hi]
        simp only [Option.map_some, Option.getD_some]
        rcases storeCheck_spec S i hi with ⟨g1, _⟩ | ⟨q, f, g1, g2, g3, _⟩
        · rw [curF_none g1, g1]
        · rw [curF_some g1, g1, hl q g3]; rfl
      rw [e]
      exact this
  refine Mid2.done C hpre H hout hnb h2 fun i hi => ?_
  have hs : i < ops.size := by
    have hc := C.core
    unfold coreOk1 at hc
    rw [Bool.and_eq_true, decide_eq_true_eq] at hc
    omega
  simp [coreFull, Array.getD_eq_getD_getElem?, hs, hi]
end

end
end Go.Proofs.YtoimhjcpeifegaaGreatDoor

