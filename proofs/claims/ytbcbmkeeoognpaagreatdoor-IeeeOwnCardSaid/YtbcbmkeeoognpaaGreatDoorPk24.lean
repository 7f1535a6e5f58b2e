/- Contracts of functions, and plain facts, part 24. -/
import Derived.Test.YtbcbmkeeoognpaaGreatDoorPk9
import Derived.Test.YtbcbmkeeoognpaaGreatDoorPk22
import Derived.Test.YtbcbmkeeoognpaaGreatDoorPk23
set_option linter.unusedVariables false
set_option linter.unusedSimpArgs false
/- A region that draws, with one operation that makes a row of one's own longer among the others. -/
namespace Go.Proofs.YtbcbmkeeoognpaaGreatDoor
open Go Go.RowKit

section
variable {P : Program} {ops : Array Oper} {Q : Exit → Act → World → Prop} {md : Region.Mode}
/-- The fact on operation j: behind operation μ only where it is kept. -/
def curM (posts : List FD) (cls : List Bool) (μ : Nat) (l : Array Bool) (j : Nat) : FD := if l.getD μ false && !cls.getD j false then .val VP.top else posts.getD j (.val VP.top)
def KeptAny (q : Nat) (f : FD) : Prop := ∀ g, Kept g q f
/-- An operation that writes upon one row of one's own from block q on. -/
def MutOk (P : Program) (ops : Array Oper) (o : Oper) (need : List (Tmp × FD)) (post : FD) (q : Nat) : Prop :=
  ∀ (Q : Exit → Act → World → Prop) (K : Act → World → Prop) (i : Nat) (a : Act) (w : World) (B : Bx), ops[i]? = some o → Own1 B w → Fct a w B need →
    (∀ v w' (g : Option Nat), post.p v w' B → w.heap.size ≤ w'.heap.size → (∀ i, i < w.heap.size → g ≠ some i → w'.heap[i]? = w.heap[i]?) → (∀ b, g = some b → q ≤ b ∧ ¬ B b) → w'.os = w.os → w'.tape = w.tape → w'.output = w.output → K (a.put o.dst v) w') →
    wpOp P ops Q i K a w
structure MidM (md : Region.Mode) (ops : Array Oper) (m μ : Nat) (dsts : List (Option Tmp)) (posts : List FD) (cls : List Bool) (als : List Bool) (base : Act) (w0 : World) (B0 : Bx) (l : Array Bool) (a : Act) (w : World) (B : Bx) : Prop where
  size : l.size = ops.size
  late : ∀ j, m ≤ j → j < ops.size → l.getD j true = false
  closed : ∀ j o, ops[j]? = some o → l.getD j false = true → ∀ e ∈ o.after, Region.binds md e = true → l.getD e.on false = true
  defers : a.defers = base.defers
  tsize : a.tmps.size = base.tmps.size
  rest : ∀ s, dsts.contains (some s) = false → a.tmps.getD s undef = base.tmps.getD s undef
  fact : ∀ i d, i < m → dsts.getD i none = some d → l.getD i false = true → (curM posts cls μ l i).p (a.tmps.getD d undef) w B
  fresh : ∀ i d, i < m → als.getD i false = true → dsts.getD i none = some d → l.getD i false = true → ∃ b, a.tmps.getD d undef = .pointer (some ⟨b, 0, none⟩) ∧ w0.heap.size ≤ b ∧ b < w.heap.size
  apart : ∀ i j d e, i < m → j < m → i ≠ j → als.getD i false = true → als.getD j false = true → dsts.getD i none = some d → dsts.getD j none = some e → l.getD i false = true → l.getD j false = true → a.tmps.getD d undef ≠ a.tmps.getD e undef
  bl : Bl w0 B0 w B
  below : Below w0.heap.size w0 w
  own : Own1 B w
/-- j comes behind i at first hand or through others. -/
def behind (md : Region.Mode) (ops : Array Oper) (i j : Nat) : Bool := ((ancs md ops.toList []).getD j 0).testBit i
/-- Beside flowCheck: what is used of a fact that is not kept is used ahead of μ. -/
def mutCheck (md : Region.Mode) (ops : Array Oper) (m μ : Nat) (refs : List (List Ref)) (outs : List Ref) (cls : List Bool) : Bool :=
  decide (μ < m) && ((List.range m).all fun i => (refs.getD i []).all fun r => match r with
    | .res j => cls.getD j false || decide (i = μ) || behind md ops i μ
    | _ => true) && outs.all fun r => match r with
    | .res j => cls.getD j false
    | _ => true
section
variable {tl : Bool} {m μ N q : Nat} {dsts : List (Option Tmp)} {pres bxs : List Tmp} {refs : List (List Ref)} {outs : List Ref} {als cls : List Bool} {posts : List FD} {pre : List (Tmp × FD)} {base : Act} {w0 : World} {B0 : Bx}

theorem MidM.need (C : FlowOk tl md ops m N dsts pres bxs refs outs als) (hpre : pre.map Prod.fst = pres) (hb : Fct base w0 B0 pre) {l : Array Bool} {a : Act} {w : World} {B : Bx} (h : MidM md ops m μ dsts posts cls als base w0 B0 l a w B)
    (r : Ref) (hr : match r with
      | .pre k => match pres[k]? with
        | some s => dsts.contains (some s) = false
        | none => False
      | .res j => j < m ∧ (dsts.getD j none).isSome = true ∧ l.getD j false = true ∧ curM posts cls μ l j = posts.getD j (.val VP.top)) : (lookR dsts posts pre r).2.p (a.tmps.getD (lookR dsts posts pre r).1 undef) w B := by
  cases r with
  | pre k =>
    simp only at hr
    cases hk : pres[k]? with
    | none => rw [hk] at hr; exact hr.elim
    | some s =>
      rw [hk] at hr
      simp only at hr
      rw [← hpre, List.getElem?_map] at hk
      cases hp : pre[k]? with
      | none => rw [hp] at hk; cases hk
      | some x =>
        rw [hp] at hk
        simp at hk
        have e : lookR dsts posts pre (.pre k) = x := by simp [lookR, List.getD_eq_getElem?_getD, hp]
        rw [e]
        have h1 := hb.all x (List.mem_of_getElem? hp)
        have h2 := h.rest x.1 (by rw [hk]; exact hr)
        rw [h2]
        exact x.2.st h.bl h1
  | res j =>
    obtain ⟨h1, h2, h3, h4⟩ := hr
    obtain ⟨d, hd⟩ := Option.isSome_iff_exists.1 h2
    have := h.fact j d h1 hd h3
    rw [h4] at this
    have e : lookR dsts posts pre (.res j) = (d, posts.getD j (.val VP.top)) := by simp only [lookR, hd, Option.getD_some]
    rw [e]
    exact this

theorem MidM.step (C : FlowOk tl md ops m N dsts pres bxs refs outs als) (hpre : pre.map Prod.fst = pres) (hb : Fct base w0 B0 pre) (hN : base.tmps.size = N)
    (hall : ∀ i, i < m → ∃ o, ops[i]? = some o ∧ ((i ≠ μ ∧ StepOk P ops o ((refs.getD i []).map (lookR dsts posts pre)) (posts.getD i (.val VP.top)) (als.getD i false)) ∨ (i = μ ∧ als.getD i false = false ∧ MutOk P ops o ((refs.getD i []).map (lookR dsts posts pre)) (posts.getD i (.val VP.top)) q)))
    (hmut : mutCheck md ops m μ refs outs cls = true) (hclsμ : cls.getD μ false = true) (hq : w0.heap.size ≤ q) (hkept : ∀ j, j < m → cls.getD j false = true → behind md ops μ j = false → j ≠ μ → KeptAny q (posts.getD j (.val VP.top)))
    {l : Array Bool} {a : Act} {w : World} {B : Bx} (h : MidM md ops m μ dsts posts cls als base w0 B0 l a w B) (i : Nat) (hi : i < m) (hun : l.getD i true = false)
    (hdeps : ∀ o, ops[i]? = some o → ∀ e ∈ o.after, Region.binds md e = true → l.getD e.on false = true) :
    wpOp P ops Q i (fun a' w' => ∃ B', MidM md ops m μ dsts posts cls als base w0 B0 (l.setIfInBounds i true) a' w' B') a w := by
  obtain ⟨o, ho, hcase⟩ := hall i hi
  have hod := C.dst i o hi ho
  have hisz : i < ops.size := (Array.getElem?_eq_some_iff.1 ho).1
  have hdeps := hdeps o ho
  have hil : i < l.size := by rw [h.size]; exact hisz
  have hunf : l.getD i false = false := by
    rw [Array.getD_eq_getD_getElem?, Array.getElem?_eq_getElem hil] at hun ⊢
    simpa using hun
  have anc : ∀ j k, behind md ops j k = true → k < ops.size → l.getD k false = true → l.getD j false = true := fun j k hb2 hk hlk => by
    have hok : ops[k]? = some ops[k] := Array.getElem?_eq_getElem hk
    exact anc_listed h.closed hok (h.closed k _ hok hlk) hb2
  have needs : Fct a w B ((refs.getD i []).map (lookR dsts posts pre)) := Fct.of_all fun x hx => by
    obtain ⟨r, hr, rfl⟩ := List.mem_map.1 hx
    have hok := C.ref i r hi hr
    refine h.need C hpre hb r ?_
    cases r with
    | pre k =>
      simp only [refOk] at hok
      cases hs : pres[k]? with
      | none => rw [hs] at hok; cases hok
      | some s => rw [hs] at hok; simp only [hs]; simpa using hok
    | res j =>
      simp only [refOk, Bool.and_eq_true, decide_eq_true_eq] at hok
      refine ⟨hok.1.1, hok.1.2, direct_listed ho hdeps hok.2, ?_⟩
      simp only [mutCheck, Bool.and_eq_true, List.all_eq_true, List.mem_range, decide_eq_true_eq] at hmut
      have h2 := hmut.1.2 i hi _ hr
      simp only [Bool.or_eq_true, decide_eq_true_eq] at h2
      unfold curM
      rcases h2 with (h2 | h2) | h2
      · rw [h2]; simp
      · subst h2; rw [hunf]; simp
      · have : l.getD μ false = false := by
          cases hμ : l.getD μ false with
          | false => rfl
          | true =>
            have hμs : μ < ops.size := by
              rw [Array.getD_eq_getD_getElem?] at hμ
              cases h3 : l[μ]? with
              | none => rw [h3] at hμ; simp at hμ
              | some y => have := (Array.getElem?_eq_some_iff.1 h3).1; rw [h.size] at this; exact this
            have := anc i μ h2 hμs hμ
            rw [hunf] at this; cases this
        rw [this]; simp
  have hds : ∀ d, o.dst = some d → d < a.tmps.size := fun d hd => by
    rw [h.tsize, hN]; exact C.lt i d (by rw [← hod]; exact hd)
  have hput : ∀ v s, (a.put o.dst v).tmps.getD s undef = if o.dst = some s then v else a.tmps.getD s undef := fun v s => put_getD hds
  have hlset : ∀ j b, j < ops.size → (l.setIfInBounds i true).getD j b = if i = j then true else l.getD j b := fun j b hj => by
    rw [Array.getD_eq_getD_getElem?, Array.getD_eq_getD_getElem?, Array.getElem?_setIfInBounds]
    by_cases e : i = j
    · subst e; simp [hil]
    · rw [if_neg e, if_neg e]
  have hmono : ∀ j, l.getD j false = true → (l.setIfInBounds i true).getD j false = true := fun j hj => getD_set_true hj
  have hms : m ≤ ops.size := by
    have := C.core
    unfold coreOk1 at this
    simp only [Bool.and_eq_true, decide_eq_true_eq] at this
    exact this.1
  have hμm : μ < m := by
    simp only [mutCheck, Bool.and_eq_true, decide_eq_true_eq] at hmut
    exact hmut.1.1
  have hlate : ∀ j, m ≤ j → j < ops.size → (l.setIfInBounds i true).getD j true = false := fun j hj1 hj2 => by
    rw [hlset j true hj2, if_neg (by omega)]
    exact h.late j hj1 hj2
  have hclosed : ∀ j o, ops[j]? = some o → (l.setIfInBounds i true).getD j false = true → ∀ e ∈ o.after, Region.binds md e = true → (l.setIfInBounds i true).getD e.on false = true := by
    intro j o2 ho2 hlj e he hb2
    refine hmono _ ?_
    by_cases e1 : i = j
    · subst e1
      rw [ho] at ho2
      injection ho2 with ho2
      subst ho2
      exact hdeps e he hb2
    · have hj2 : j < ops.size := (Array.getElem?_eq_some_iff.1 ho2).1
      rw [hlset j false hj2, if_neg e1] at hlj
      exact h.closed j o2 ho2 hlj e he hb2
  have hrest : ∀ v s, dsts.contains (some s) = false → (a.put o.dst v).tmps.getD s undef = base.tmps.getD s undef := by
    intro v s hs
    rw [hput, if_neg ?_]
    · exact h.rest s hs
    · intro e
      rw [hod] at e
      have : dsts.contains (some s) = true := by
        rw [List.contains_iff_mem]
        rw [List.getD_eq_getElem?_getD] at e
        cases h2 : dsts[i]? with
        | none => rw [h2] at e; cases e
        | some y => rw [h2] at e; simp at e; subst e; exact List.mem_of_getElem? h2
      rw [hs] at this; cases this
  rcases hcase with ⟨hne, hstep⟩ | ⟨hiμ, halμ, hstep⟩
  · refine hstep Q _ i a w B ho h.own needs ?_
    intro v w' B' hp hbl hbel hown hal
    have hcur : ∀ j, curM posts cls μ (l.setIfInBounds i true) j = curM posts cls μ l j := fun j => by
      unfold curM
      rw [hlset μ false (by omega), if_neg hne]
    refine ⟨B', by rw [Array.size_setIfInBounds]; exact h.size, hlate, hclosed, by rw [put_defers]; exact h.defers, by rw [put_size]; exact h.tsize, hrest v, ?_, ?_, ?_, h.bl.trans hbl, below_then h.below h.below.size hbel, hown⟩
    · intro j d hj hd hlj
      rw [hlset j false (by omega)] at hlj
      rw [hput, hcur]
      by_cases e : i = j
      · subst e; rw [if_pos (by rw [hod]; exact hd)]
        unfold curM
        split
        · trivial
        · exact hp
      · rw [if_neg e] at hlj
        rw [if_neg (fun e2 => e (distinct_ne C.dis i j d (by rw [← hod]; exact e2) hd))]
        exact FD.st _ hbl (h.fact j d hj hd hlj)
    · intro j d hj haj hd hlj
      rw [hlset j false (by omega)] at hlj
      rw [hput]
      by_cases e : i = j
      · subst e
        rw [if_pos (by rw [hod]; exact hd)]
        obtain ⟨b, h1, h2, h3⟩ := hal haj
        exact ⟨b, h1, Nat.le_trans h.below.size h2, h3⟩
      · rw [if_neg e] at hlj
        rw [if_neg (fun e2 => e (distinct_ne C.dis i j d (by rw [← hod]; exact e2) hd))]
        obtain ⟨b, h1, h2, h3⟩ := h.fresh j d hj haj hd hlj
        exact ⟨b, h1, h2, Nat.lt_of_lt_of_le h3 hbel.size⟩
    · intro j k d e hj hk hjk aj ak hd he lj lk
      rw [hlset j false (by omega)] at lj
      rw [hlset k false (by omega)] at lk
      rw [hput v, hput v]
      by_cases e1 : i = j
      · subst e1
        rw [if_neg hjk] at lk
        rw [if_pos (by rw [hod]; exact hd), if_neg (fun e2 => hjk (distinct_ne C.dis i k e (by rw [← hod]; exact e2) he))]
        obtain ⟨b, h1, h2, h3⟩ := hal aj
        obtain ⟨c, g1, g2, g3⟩ := h.fresh k e hk ak he lk
        rw [h1, g1]
        intro e3
        injection e3 with e3; injection e3 with e3; injection e3 with e3
        omega
      · rw [if_neg e1] at lj
        rw [if_neg (fun e2 => e1 (distinct_ne C.dis i j d (by rw [← hod]; exact e2) hd))]
        by_cases e2 : i = k
        · subst e2
          rw [if_pos (by rw [hod]; exact he)]
          obtain ⟨b, h1, h2, h3⟩ := hal ak
          obtain ⟨c, g1, g2, g3⟩ := h.fresh j d hj aj hd lj
          rw [h1, g1]
          intro e3
          injection e3 with e3; injection e3 with e3; injection e3 with e3
          omega
        · rw [if_neg e2] at lk
          rw [if_neg (fun e3 => e2 (distinct_ne C.dis i k e (by rw [← hod]; exact e3) he))]
          exact h.apart j k d e hj hk hjk aj ak hd he lj lk
  · subst hiμ
    refine hstep Q _ i a w B ho h.own needs ?_
    intro v w' g hp hs hsame hg hos htp hou
    have hgw : ∀ b, g = some b → w0.heap.size ≤ b := fun b hb2 => Nat.le_trans hq (hg b hb2).1
    refine ⟨B, by rw [Array.size_setIfInBounds]; exact h.size, hlate, hclosed, by rw [put_defers]; exact h.defers, by rw [put_size]; exact h.tsize, hrest v, ?_, ?_, ?_, ?_, ?_, fun k hk => Nat.lt_of_lt_of_le (h.own k hk) hs⟩
    · intro j d hj hd hlj
      rw [hlset j false (by omega)] at hlj
      rw [hput]
      by_cases e : i = j
      · subst e; rw [if_pos (by rw [hod]; exact hd)]
        unfold curM
        rw [hclsμ, Bool.not_true, Bool.and_false]
        exact hp
      · rw [if_neg e] at hlj
        rw [if_neg (fun e2 => e (distinct_ne C.dis i j d (by rw [← hod]; exact e2) hd))]
        have hold := h.fact j d hj hd hlj
        unfold curM at hold ⊢
        rw [hunf, Bool.false_and] at hold
        cases hc : cls.getD j false with
        | false =>
          rw [hlset i false (by omega), if_pos rfl]
          trivial
        | true =>
          rw [Bool.not_true, Bool.and_false]
          refine hkept j hj hc ?_ (fun e2 => e e2.symm) g _ w w' B hs hsame hg hold
          cases hb2 : behind md ops i j with
          | false => rfl
          | true =>
            have := anc i j hb2 (by omega) hlj
            rw [hunf] at this; cases this
    · intro j d hj haj hd hlj
      rw [hlset j false (by omega)] at hlj
      rw [hput]
      by_cases e : i = j
      · subst e; rw [halμ] at haj; cases haj
      · rw [if_neg e] at hlj
        rw [if_neg (fun e2 => e (distinct_ne C.dis i j d (by rw [← hod]; exact e2) hd))]
        obtain ⟨b, h1, h2, h3⟩ := h.fresh j d hj haj hd hlj
        exact ⟨b, h1, h2, Nat.lt_of_lt_of_le h3 hs⟩
    · intro j k d e hj hk hjk aj ak hd he lj lk
      rw [hlset j false (by omega)] at lj
      rw [hlset k false (by omega)] at lk
      rw [hput v, hput v]
      have e1 : ¬ i = j := fun e1 => by subst e1; rw [halμ] at aj; cases aj
      have e2 : ¬ i = k := fun e2 => by subst e2; rw [halμ] at ak; cases ak
      rw [if_neg e1] at lj
      rw [if_neg e2] at lk
      rw [if_neg (fun e2 => e1 (distinct_ne C.dis i j d (by rw [← hod]; exact e2) hd)), if_neg (fun e3 => e2 (distinct_ne C.dis i k e (by rw [← hod]; exact e3) he))]
      exact h.apart j k d e hj hk hjk aj ak hd he lj lk
    · refine ⟨Nat.le_trans h.bl.size hs, fun k hk => ?_, h.bl.box⟩
      rw [hsame k (Nat.lt_of_lt_of_le hk h.bl.size) fun e => by have := hgw k e; omega]
      exact h.bl.same k hk
    · refine ⟨hos.trans h.below.os, htp.trans h.below.tape, hou.trans h.below.output, Nat.le_trans h.below.size hs, fun k hk => ?_⟩
      rw [hsame k (Nat.lt_of_lt_of_le hk h.below.size) fun e => by have := hgw k e; omega]
      exact h.below.block k hk

theorem MidM.done (C : FlowOk tl md ops m N dsts pres bxs refs outs als) (hpre : pre.map Prod.fst = pres) {w00 : World} {B00 : Bx} (H : St N w00 B00 base w0 B0 pre bxs) {out : List (Tmp × FD)} (hout : outs.map (lookR dsts posts pre) = out) {nb : List Tmp} (hnb : newBx dsts als = nb)
    {l : Array Bool} {a : Act} {w : World} {B : Bx} (h : MidM md ops m μ dsts posts cls als base w0 B0 l a w B) (hl : ∀ i, i < m → l.getD i false = true) (hmut : mutCheck md ops m μ refs outs cls = true) : St N w00 B00 a w B out (nb ++ bxs) := by
  subst hout hnb
  have old : ∀ s, s ∈ bxs → a.tmps.getD s undef = base.tmps.getD s undef := fun s hs => h.rest s (C.bx s hs)
  refine ⟨h.defers.trans H.df, h.tsize.trans H.sz, Fct.of_all fun x hx => ?_, fun s hs => ?_, fun s hs t ht hst => ?_, below_then H.bel H.bel.size h.below, h.own, fun k hk => ?_⟩
  · obtain ⟨r, hr, rfl⟩ := List.mem_map.1 hx
    have hok := C.out r hr
    refine h.need C hpre H.fc r ?_
    cases r with
    | pre k =>
      simp only [refOk] at hok
      cases hs : pres[k]? with
      | none => rw [hs] at hok; cases hok
      | some s => rw [hs] at hok; simp only [hs]; simpa using hok

    | res j =>
      simp only [refOk, Bool.and_eq_true, decide_eq_true_eq] at hok
      refine ⟨hok.1.1, hok.1.2, hl j hok.1.1, ?_⟩
      simp only [mutCheck, Bool.and_eq_true, List.all_eq_true] at hmut
      have := hmut.2 _ hr
      simp only at this
      unfold curM; rw [this]; simp
  · rcases List.mem_append.1 hs with hs | hs
    · obtain ⟨i, h1, h2, h3⟩ := mem_newBx hs
      obtain ⟨b, g1, g2, g3⟩ := h.fresh i s (by rw [← C.la]; exact h1) h2 h3 (hl i (by rw [← C.la]; exact h1))
      exact ⟨b, g1, g3, Nat.le_trans H.bel.size g2⟩
    · obtain ⟨b, g1, g2, g3⟩ := H.bx s hs
      exact ⟨b, (old s hs).trans g1, Nat.lt_of_lt_of_le g2 h.below.size, g3⟩
  · have key : ∀ s t, s ∈ newBx dsts als → t ∈ bxs → a.tmps.getD s undef ≠ a.tmps.getD t undef := by
      intro s t hs ht
      obtain ⟨i, h1, h2, h3⟩ := mem_newBx hs
      obtain ⟨b, g1, g2, g3⟩ := h.fresh i s (by rw [← C.la]; exact h1) h2 h3 (hl i (by rw [← C.la]; exact h1))
      obtain ⟨c, k1, k2, k3⟩ := H.bx t ht
      rw [g1, (old t ht).trans k1]
      intro e3
      injection e3 with e3; injection e3 with e3; injection e3 with e3
      omega
    rcases List.mem_append.1 hs with hs | hs <;> rcases List.mem_append.1 ht with ht | ht
    · obtain ⟨i, h1, h2, h3⟩ := mem_newBx hs
      obtain ⟨j, k1, k2, k3⟩ := mem_newBx ht
      rw [C.la] at h1 k1
      refine h.apart i j s t h1 k1 (fun e => hst ?_) h2 k2 h3 k3 (hl i h1) (hl j k1)
      subst e; rw [h3] at k3; injection k3
    · exact key s t hs ht
    · exact (key t s ht hs).symm
    · rw [old s hs, old t ht]; exact H.ap s hs t ht hst
  · have h1 := H.own0 k hk
    have h2 := H.own k h1
    exact (h.bl.box k h2).2 h1

theorem MidM.start (H : Own1 B0 w0) : MidM md ops m μ dsts posts cls als base w0 B0 (Array.replicate ops.size false) base w0 B0 := by
  have no : ∀ i : Nat, (Array.replicate ops.size false).getD i false = false := fun i => by
    rw [Array.getD_eq_getD_getElem?, Array.getElem?_replicate]; split <;> rfl
  refine ⟨by simp, fun j _ hj => by simp [hj], fun j o ho hl => ?_, rfl, rfl, fun _ _ => rfl, fun i d _ _ hl => ?_, fun i d _ _ _ hl => ?_, fun i j d e _ _ _ _ _ _ _ hl => ?_, Bl.refl _ _, Below.refl _ _, H⟩ <;> (rw [no] at hl; cases hl)
end

inductive AllOkM (P : Program) (ops : Array Oper) (look : Ref → Tmp × FD) (refs : List (List Ref)) (posts : List FD) (als : List Bool) (m μ q : Nat) : Nat → List Oper → Prop where
  | nil {os : List Oper} : AllOkM P ops look refs posts als m μ q m os
  | norm {i : Nat} {o : Oper} {os : List Oper} (hn : decide (i ≠ μ) = true) (h : StepOk P ops o ((refs.getD i []).map look) (posts.getD i (.val VP.top)) (als.getD i false)) (t : AllOkM P ops look refs posts als m μ q (i + 1) os) : AllOkM P ops look refs posts als m μ q i (o :: os)
  | muta {i : Nat} {o : Oper} {os : List Oper} (hn : decide (i = μ) = true) (ha : als.getD i false = false) (h : MutOk P ops o ((refs.getD i []).map look) (posts.getD i (.val VP.top)) q) (t : AllOkM P ops look refs posts als m μ q (i + 1) os) : AllOkM P ops look refs posts als m μ q i (o :: os)
theorem AllOkM.get {look : Ref → Tmp × FD} {refs : List (List Ref)} {posts : List FD} {als : List Bool} {m μ q i : Nat} {os : List Oper} (h : AllOkM P ops look refs posts als m μ q i os) :
    ∀ k, i + k < m → ∃ o, os[k]? = some o ∧ ((i + k ≠ μ ∧ StepOk P ops o ((refs.getD (i + k) []).map look) (posts.getD (i + k) (.val VP.top)) (als.getD (i + k) false)) ∨ (i + k = μ ∧ als.getD (i + k) false = false ∧ MutOk P ops o ((refs.getD (i + k) []).map look) (posts.getD (i + k) (.val VP.top)) q)) := by
  induction h with
  | nil => intro k hk; omega
  | norm hn h t ih =>
    intro k hk
    cases k with
    | zero => exact ⟨_, rfl, .inl ⟨of_decide_eq_true hn, h⟩⟩
    | succ k =>
      rename_i i o os
      have := ih k (by omega)
      rw [show i + 1 + k = i + (k + 1) by omega] at this
      simpa using this
  | muta hn ha h t ih =>
    intro k hk
    cases k with
    | zero => exact ⟨_, rfl, .inr ⟨of_decide_eq_true hn, ha, h⟩⟩
    | succ k =>
      rename_i i o os
      have := ih k (by omega)
      rw [show i + 1 + k = i + (k + 1) by omega] at this
      simpa using this
inductive KeptL (md : Region.Mode) (ops : Array Oper) (cls : List Bool) (μ q : Nat) : Nat → List FD → Prop where
  | nil {i : Nat} : KeptL md ops cls μ q i []
  | keep {i : Nat} {f : FD} {fs : List FD} (h : KeptAny q f) (t : KeptL md ops cls μ q (i + 1) fs) : KeptL md ops cls μ q i (f :: fs)
  | skip {i : Nat} {f : FD} {fs : List FD} (h : (!cls.getD i false || behind md ops μ i || decide (i = μ)) = true) (t : KeptL md ops cls μ q (i + 1) fs) : KeptL md ops cls μ q i (f :: fs)
theorem KeptL.get {cls : List Bool} {μ q i : Nat} {fs : List FD} (h : KeptL md ops cls μ q i fs) : ∀ k, k < fs.length → cls.getD (i + k) false = true → behind md ops μ (i + k) = false → i + k ≠ μ → KeptAny q (fs.getD k (.val VP.top)) := by
  induction h with
  | nil => intro k hk; simp at hk
  | keep h t ih =>
    intro k hk hc hb hne
    cases k with
    | zero => exact h
    | succ k =>
      rename_i i f fs
      rw [show i + (k + 1) = i + 1 + k by omega] at hc hb hne
      have := ih k (by simpa using hk) hc hb hne
      simpa using this
  | skip h t ih =>
    intro k hk hc hb hne
    cases k with
    | zero =>
      simp only [Nat.add_zero] at hc hb hne
      simp only [hc, hb, decide_eq_false hne] at h
      cases h
    | succ k =>
      rename_i i f fs
      rw [show i + (k + 1) = i + 1 + k by omega] at hc hb hne
      have := ih k (by simpa using hk) hc hb hne
      simpa using this
end
end Go.Proofs.YtbcbmkeeoognpaaGreatDoor


/- cruciblelaw02.over: a list's places are written over. -/
namespace Go.Proofs.YtbcbmkeeoognpaaGreatDoor
open Go Go.RowKit

end Go.Proofs.YtbcbmkeeoognpaaGreatDoor

