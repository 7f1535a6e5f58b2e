/- Contracts of functions, and plain facts, part 43. -/
import Derived.Test.YtgnophflogmmaaaPk42
set_option linter.unusedVariables false
set_option linter.unusedSimpArgs false
/- A region that draws, with one operation that makes a row of one's own longer among the others. -/
namespace Go.Proofs.Ytgnophflogmmaaa
open Go Go.RowKit

section
variable {P : Program} {ops : Array Oper} {Q : Exit → Act → World → Prop} {md : Region.Mode}
/-- The fact on operation j: behind operation μ only where it is kept. -/
def curM (posts : List FD) (cls : List Bool) (μ : Nat) (l : Array Bool) (j : Nat) : FD := if l.getD μ false && !cls.getD j false then .val VP.top else posts.getD j (.val VP.top)
def KeptAny (q : Nat) (f : FD) : Prop := ∀ g, Kept g q f
/-- An operation that writes upon one row of one's own from block q on. -/
def MutOk (P : Program) (ops : Array Oper) (o : Oper) (need : List (Tmp × FD)) (post : FD) (q : Nat) : Prop :=
  ∀ (Q : Exit → Act → World → Prop) (K : Act → World → Prop) (i : Nat) (a : Act) (w : World) (B : Bx), ops[i]? = some o → Own1 B w → Fct a w B need →
    (∀ v w' (g : Option Nat), post.p v w' B → w.heap.size ≤ w'.heap.size → (∀ i, i < w.heap.size → g ≠ some i → w'.heap[i]? = w.heap[i]?) → (∀ b, g = some b → q ≤ b ∧ ¬ B b) → w'.os = w.os → w'.tape = w.tape → w'.output = w.output → K (a.put o.dst v) w') →
    wpOp P ops Q i K a w
structure MidM (md : Region.Mode) (ops : Array Oper) (m μ : Nat) (dsts : List (Option Tmp)) (posts : List FD) (cls : List Bool) (als : List Bool) (base : Act) (w0 : World) (B0 : Bx) (l : Array Bool) (a : Act) (w : World) (B : Bx) : Prop where
  size : l.size = ops.size
  late : ∀ j, m ≤ j → j < ops.size → l.getD j true = false
  closed : ∀ j o, ops[j]? = some o → l.getD j false = true → ∀ e ∈ o.after, Region.binds md e = true → l.getD e.on false = true
  defers : a.defers = base.defers
  tsize : a.tmps.size = base.tmps.size
  rest : ∀ s, dsts.contains (some s) = false → a.tmps.getD s undef = base.tmps.getD s undef
  fact : ∀ i d, i < m → dsts.getD i none = some d → l.getD i false = true → (curM posts cls μ l i).p (a.tmps.getD d undef) w B
  fresh : ∀ i d, i < m → als.getD i false = true → dsts.getD i none = some d → l.getD i false = true → ∃ b, a.tmps.getD d undef = .pointer (some ⟨b, 0, none⟩) ∧ w0.heap.size ≤ b ∧ b < w.heap.size
  apart : ∀ i j d e, i < m → j < m → i ≠ j → als.getD i false = true → als.getD j false = true → dsts.getD i none = some d → dsts.getD j none = some e → l.getD i false = true → l.getD j false = true → a.tmps.getD d undef ≠ a.tmps.getD e undef
  bl : Bl w0 B0 w B
  below : Below w0.heap.size w0 w
  own : Own1 B w
/-- j comes behind i at first hand or through others. -/
def behind (md : Region.Mode) (ops : Array Oper) (i j : Nat) : Bool := ((ancs md ops.toList []).getD j 0).testBit i
/-- Beside flowCheck: what is used of a fact that is not kept is used ahead of μ. -/
def mutCheck (md : Region.Mode) (ops : Array Oper) (m μ : Nat) (refs : List (List Ref)) (outs : List Ref) (cls : List Bool) : Bool :=
  decide (μ < m) && ((List.range m).all fun i => (refs.getD i []).all fun r => match r with
    | .res j => cls.getD j false || decide (i = μ) || behind md ops i μ
    | _ => true) && outs.all fun r => match r with
    | .res j => cls.getD j false
    | _ => true
section
variable {tl : Bool} {m μ N q : Nat} {dsts : List (Option Tmp)} {pres bxs : List Tmp} {refs : List (List Ref)} {outs : List Ref} {als cls : List Bool} {posts : List FD} {pre : List (Tmp × FD)} {base : Act} {w0 : World} {B0 : Bx}

theorem MidM.need (C : FlowOk tl md ops m N dsts pres bxs refs outs als) (hpre : pre.map Prod.fst = pres) (hb : Fct base w0 B0 pre) {l : Array Bool} {a : Act} {w : World} {B : Bx} (h : MidM md ops m μ dsts posts cls als base w0 B0 l a w B)
    (r : Ref) (hr : match r with
      | .pre k => match pres[k]? with
        | some s => dsts.contains (some s) = false
        | none => False
      | .res j => j < m ∧ (dsts.getD j none).isSome = true ∧ l.getD j false = true ∧ curM posts cls μ l j = posts.getD j (.val VP.top)) : (lookR dsts posts pre r).2.p (a.tmps.getD (lookR dsts posts pre r).1 undef) w B := by
  cases r with
  | pre k =>
    simp only at hr
    cases hk : pres[k]? with
    | none => rw [hk] at hr; exact hr.elim
    | some s =>
      rw [hk] at hr
      simp only at hr
      rw [← hpre, List.getElem?_map] at hk
      cases hp : pre[k]? with
      | none => rw [hp] at hk; cases hk
      | some x =>
        rw [hp] at hk
        simp at hk
        have e : lookR dsts posts pre (.pre k) = x := by simp [lookR, List.getD_eq_getElem?_getD, hp]
        rw [e]
        have h1 := hb.all x (List.mem_of_getElem? hp)
        have h2 := h.rest x.1 (by rw [hk]; exact hr)
        rw [h2]
        exact x.2.st h.bl h1
  | res j =>
    obtain ⟨h1, h2, h3, h4⟩ := hr
    obtain ⟨d, hd⟩ := Option.isSome_iff_exists.1 h2
    have := h.fact j d h1 hd h3
    rw [h4] at this
    have e : lookR dsts posts pre (.res j) = (d, posts.getD j (.val VP.top)) := by simp only [lookR, hd, Option.getD_some]
    rw [e]
    exact this

theorem MidM.step (C : FlowOk tl md ops m N dsts pres bxs refs outs als) (hpre : pre.map Prod.fst = pres) (hb : Fct base w0 B0 pre) (hN : base.tmps.size = N)
    (hall : ∀ i, i < m → ∃ o, ops[i]? = some o ∧ ((i ≠ μ ∧ StepOk P ops o ((refs.getD i []).map (lookR dsts posts pre)) (posts.getD i (.val VP.top)) (als.getD i false)) ∨ (i = μ ∧ als.getD i false = false ∧ MutOk P ops o ((refs.getD i []).map (lookR dsts posts pre)) (posts.getD i (.val VP.top)) q)))
    (hmut : mutCheck md ops m μ refs outs cls = true) (hclsμ : cls.getD μ false = true) (hq : w0.heap.size ≤ q) (hkept : ∀ j, j < m → cls.getD j false = true → behind md ops μ j = false → j ≠ μ → KeptAny q (posts.getD j (.val VP.top)))
    {l : Array Bool} {a : Act} {w : World} {B : Bx} (h : MidM md ops m μ dsts posts cls als base w0 B0 l a w B) (i : Nat) (hi : i < m) (hun : l.getD i true = false)
    (hdeps : ∀ o, ops[i]? = some o → ∀ e ∈ o.after, Region.binds md e = true → l.getD e.on false = true) :
    wpOp P ops Q i (fun a' w' => ∃ B', MidM md ops m μ dsts posts cls als base w0 B0 (l.setIfInBounds i true) a' w' B') a w := by
  obtain ⟨o, ho, hcase⟩ := hall i hi
  have hod := C.dst i o hi ho
  have hisz : i < ops.size := (Array.getElem?_eq_some_iff.1 ho).1
  have hdeps := hdeps o ho
  have hil : i < l.size := by rw [h.size]; exact hisz
  have hunf : l.getD i false = false := by
    rw [Array.getD_eq_getD_getElem?, Array.getElem?_eq_getElem hil] at hun ⊢
    simpa using hun
  have anc : ∀ j k, behind md ops j k = true → k < ops.size → l.getD k false = true → l.getD j false = true := fun j k hb2 hk hlk => by
    have hok : ops[k]? = some ops[k] := Array.getElem?_eq_getElem hk
    exact anc_listed h.closed hok (h.closed k _ hok hlk) hb2
  have needs : Fct a w B ((refs.getD i []).map (lookR dsts posts pre)) := Fct.of_all fun x hx => by
    obtain ⟨r, hr, rfl⟩ := List.mem_map.1 hx
    have hok := C.ref i r hi hr
    refine h.need C hpre hb r ?_
    cases r with
    | pre k =>
      simp only [refOk] at hok
      cases hs : pres[k]? with
      | none => rw [hs] at hok; cases hok
      | some s => rw [hs] at hok; simp only [hs]; simpa using hok
    | res j =>
      simp only [refOk, Bool.and_eq_true, decide_eq_true_eq] at hok
      refine ⟨hok.1.1, hok.1.2, direct_listed ho hdeps hok.2, ?_⟩
      simp only [mutCheck, Bool.and_eq_true, List.all_eq_true, List.mem_range, decide_eq_true_eq] at hmut
      have h2 := hmut.1.2 i hi _ hr
      simp only [Bool.or_eq_true, decide_eq_true_eq] at h2
      unfold curM
      rcases h2 with (h2 | h2) | h2
      · rw [h2]; simp
      · subst h2; rw [hunf]; simp
      · have : l.getD μ false = false := by
          cases hμ : l.getD μ false with
          | false => rfl
          | true =>
            have hμs : μ < ops.size := by
              rw [Array.getD_eq_getD_getElem?] at hμ
              cases h3 : l[μ]? with
              | none => rw [h3] at hμ; simp at hμ
              | some y => have := (Array.getElem?_eq_some_iff.1 h3).1; rw [h.size] at this; exact this
            have := anc i μ h2 hμs hμ
            rw [hunf] at this; cases this
        rw [this]; simp
  have hds : ∀ d, o.dst = some d → d < a.tmps.size := fun d hd => by
    rw [h.tsize, hN]; exact C.lt i d (by rw [← hod]; exact hd)
  have hput : ∀ v s, (a.put o.dst v).tmps.getD s undef = if o.dst = some s then v else a.tmps.getD s undef := fun v s => put_getD hds
  have hlset : ∀ j b, j < ops.size → (l.setIfInBounds i true).getD j b = if i = j then true else l.getD j b := fun j b hj => by
    rw [Array.getD_eq_getD_getElem?, Array.getD_eq_getD_getElem?, Array.getElem?_setIfInBounds]
    by_cases e : i = j
    · subst e; simp [hil]
    · rw [if_neg e, if_neg e]
  have hmono : ∀ j, l.getD j false = true → (l.setIfInBounds i true).getD j false = true := fun j hj => getD_set_true hj
  have hms : m ≤ ops.size := by
    have := C.core
    unfold coreOk1 at this
    simp only [Bool.and_eq_true, decide_eq_true_eq] at this
    exact this.1
  have hμm : μ < m := by
    simp only [mutCheck, Bool.and_eq_true, decide_eq_true_eq] at hmut
    exact hmut.1.1
  have hlate : ∀ j, m ≤ j → j < ops.size → (l.setIfInBounds i true).getD j true = false := fun j hj1 hj2 => by
    rw [hlset j true hj2, if_neg (by omega)]
    exact h.late j hj1 hj2
  have hclosed : ∀ j o, ops[j]? = some o → (l.setIfInBounds i true).getD j false = true → ∀ e ∈ o.after, Region.binds md e = true → (l.setIfInBounds i true).getD e.on false = true := by
    intro j o2 ho2 hlj e he hb2
    refine hmono _ ?_
    by_cases e1 : i = j
    · subst e1
      rw [ho] at ho2
      injection ho2 with ho2
      subst ho2
      exact hdeps e he hb2
    · have hj2 : j < ops.size := (Array.getElem?_eq_some_iff.1 ho2).1
      rw [hlset j false hj2, if_neg e1] at hlj
      exact h.closed j o2 ho2 hlj e he hb2
  have hrest : ∀ v s, dsts.contains (some s) = false → (a.put o.dst v).tmps.getD s undef = base.tmps.getD s undef := by
    intro v s hs
    rw [hput, if_neg ?_]
    · exact h.rest s hs
    · intro e
      rw [hod] at e
      have : dsts.contains (some s) = true := by
        rw [List.contains_iff_mem]
        rw [List.getD_eq_getElem?_getD] at e
        cases h2 : dsts[i]? with
        | none => rw [h2] at e; cases e
        | some y => rw [h2] at e; simp at e; subst e; exact List.mem_of_getElem? h2
      rw [hs] at this; cases this
  rcases hcase with ⟨hne, hstep⟩ | ⟨hiμ, halμ, hstep⟩
  · refine hstep Q _ i a w B ho h.own needs ?_
    intro v w' B' hp hbl hbel hown hal
    have hcur : ∀ j, curM posts cls μ (l.setIfInBounds i true) j = curM posts cls μ l j := fun j => by
      unfold curM
      rw [hlset μ false (by omega), if_neg hne]
    refine ⟨B', by rw [Array.size_setIfInBounds]; exact h.size, hlate, hclosed, by rw [put_defers]; exact h.defers, by rw [put_size]; exact h.tsize, hrest v, ?_, ?_, ?_, h.bl.trans hbl, below_then h.below h.below.size hbel, hown⟩
    · intro j d hj hd hlj
      rw [hlset j false (by omega)] at hlj
      rw [hput, hcur]
      by_cases e : i = j
      · subst e; rw [if_pos (by rw [hod]; exact hd)]
        unfold curM
        split
        · trivial
        · exact hp
      · rw [if_neg e] at hlj
        rw [if_neg (fun e2 => e (distinct_ne C.dis i j d (by rw [← hod]; exact e2) hd))]
        exact FD.st _ hbl (h.fact j d hj hd hlj)
    · intro j d hj haj hd hlj
      rw [hlset j false (by omega)] at hlj
      rw [hput]
      by_cases e : i = j
      · subst e
        rw [if_pos (by rw [hod]; exact hd)]
        obtain ⟨b, h1, h2, h3⟩ := hal haj
        exact ⟨b, h1, Nat.le_trans h.below.size h2, h3⟩
      · rw [if_neg e] at hlj
        rw [if_neg (fun e2 => e (distinct_ne C.dis i j d (by rw [← hod]; exact e2) hd))]
        obtain ⟨b, h1, h2, h3⟩ := h.fresh j d hj haj hd hlj
        exact ⟨b, h1, h2, Nat.lt_of_lt_of_le h3 hbel.size⟩
    · intro j k d e hj hk hjk aj ak hd he lj lk
      rw [hlset j false (by omega)] at lj
      rw [hlset k false (by omega)] at lk
      rw [hput v, hput v]
      by_cases e1 : i = j
      · subst e1
        rw [if_neg hjk] at lk
        rw [if_pos (by rw [hod]; exact hd), if_neg (fun e2 => hjk (distinct_ne C.dis i k e (by rw [← hod]; exact e2) he))]
        obtain ⟨b, h1, h2, h3⟩ := hal aj
        obtain ⟨c, g1, g2, g3⟩ := h.fresh k e hk ak he lk
        rw [h1, g1]
        intro e3
        injection e3 with e3; injection e3 with e3; injection e3 with e3
        omega
      · rw [if_neg e1] at lj
        rw [if_neg (fun e2 => e1 (distinct_ne C.dis i j d (by rw [← hod]; exact e2) hd))]
        by_cases e2 : i = k
        · subst e2
          rw [if_pos (by rw [hod]; exact he)]
          obtain ⟨b, h1, h2, h3⟩ := hal ak
          obtain ⟨c, g1, g2, g3⟩ := h.fresh j d hj aj hd lj
          rw [h1, g1]
          intro e3
          injection e3 with e3; injection e3 with e3; injection e3 with e3
          omega
        · rw [if_neg e2] at lk
          rw [if_neg (fun e3 => e2 (distinct_ne C.dis i k e (by rw [← hod]; exact e3) he))]
          exact h.apart j k d e hj hk hjk aj ak hd he lj lk
  · subst hiμ
    refine hstep Q _ i a w B ho h.own needs ?_
    intro v w' g hp hs hsame hg hos htp hou
    have hgw : ∀ b, g = some b → w0.heap.size ≤ b := fun b hb2 => Nat.le_trans hq (hg b hb2).1
    refine ⟨B, by rw [Array.size_setIfInBounds]; exact h.size, hlate, hclosed, by rw [put_defers]; exact h.defers, by rw [put_size]; exact h.tsize, hrest v, ?_, ?_, ?_, ?_, ?_, fun k hk => Nat.lt_of_lt_of_le (h.own k hk) hs⟩
    · intro j d hj hd hlj
      rw [hlset j false (by omega)] at hlj
      rw [hput]
      by_cases e : i = j
      · subst e; rw [if_pos (by rw [hod]; exact hd)]
        unfold curM
        rw [hclsμ, Bool.not_true, Bool.and_false]
        exact hp
      · rw [if_neg e] at hlj
        rw [if_neg (fun e2 => e (distinct_ne C.dis i j d (by rw [← hod]; exact e2) hd))]
        have hold := h.fact j d hj hd hlj
        unfold curM at hold ⊢
        rw [hunf, Bool.false_and] at hold
        cases hc : cls.getD j false with
        | false =>
          rw [hlset i false (by omega), if_pos rfl]
          trivial
        | true =>
          rw [Bool.not_true, Bool.and_false]
          refine hkept j hj hc ?_ (fun e2 => e e2.symm) g _ w w' B hs hsame hg hold
          cases hb2 : behind md ops i j with
          | false => rfl
          | true =>
            have := anc i j hb2 (by omega) hlj
            rw [hunf] at this; cases this
    · intro j d hj haj hd hlj
      rw [hlset j false (by omega)] at hlj
      rw [hput]
      by_cases e : i = j
      · subst e; rw [halμ] at haj; cases haj
      · rw [if_neg e] at hlj
        rw [if_neg (fun e2 => e (distinct_ne C.dis i j d (by rw [← hod]; exact e2) hd))]
        obtain ⟨b, h1, h2, h3⟩ := h.fresh j d hj haj hd hlj
        exact ⟨b, h1, h2, Nat.lt_of_lt_of_le h3 hs⟩
    · intro j k d e hj hk hjk aj ak hd he lj lk
      rw [hlset j false (by omega)] at lj
      rw [hlset k false (by omega)] at lk
      rw [hput v, hput v]
      have e1 : ¬ i = j := fun e1 => by subst e1; rw [halμ] at aj; cases aj
      have e2 : ¬ i = k := fun e2 => by subst e2; rw [halμ] at ak; cases ak
      rw [if_neg e1] at lj
      rw [if_neg e2] at lk
      rw [if_neg (fun e2 => e1 (distinct_ne C.dis i j d (by rw [← hod]; exact e2) hd)), if_neg (fun e3 => e2 (distinct_ne C.dis i k e (by rw [← hod]; exact e3) he))]
      exact h.apart j k d e hj hk hjk aj ak hd he lj lk
    · refine ⟨Nat.le_trans h.bl.size hs, fun k hk => ?_, h.bl.box⟩
      rw [hsame k (Nat.lt_of_lt_of_le hk h.bl.size) fun e => by have := hgw k e; omega]
      exact h.bl.same k hk
    · refine ⟨hos.trans h.below.os, htp.trans h.below.tape, hou.trans h.below.output, Nat.le_trans h.below.size hs, fun k hk => ?_⟩
      rw [hsame k (Nat.lt_of_lt_of_le hk h.below.size) fun e => by have := hgw k e; omega]
      exact h.below.block k hk

theorem MidM.done (C : FlowOk tl md ops m N dsts pres bxs refs outs als) (hpre : pre.map Prod.fst = pres) {w00 : World} {B00 : Bx} (H : St N w00 B00 base w0 B0 pre bxs) {out : List (Tmp × FD)} (hout : outs.map (lookR dsts posts pre) = out) {nb : List Tmp} (hnb : newBx dsts als = nb)
    {l : Array Bool} {a : Act} {w : World} {B : Bx} (h : MidM md ops m μ dsts posts cls als base w0 B0 l a w B) (hl : ∀ i, i < m → l.getD i false = true) (hmut : mutCheck md ops m μ refs outs cls = true) : St N w00 B00 a w B out (nb ++ bxs) := by
  subst hout hnb
  have old : ∀ s, s ∈ bxs → a.tmps.getD s undef = base.tmps.getD s undef := fun s hs => h.rest s (C.bx s hs)
  refine ⟨h.defers.trans H.df, h.tsize.trans H.sz, Fct.of_all fun x hx => ?_, fun s hs => ?_, fun s hs t ht hst => ?_, below_then H.bel H.bel.size h.below, h.own, fun k hk => ?_⟩
  · obtain ⟨r, hr, rfl⟩ := List.mem_map.1 hx
    have hok := C.out r hr
    refine h.need C hpre H.fc r ?_
    cases r with
    | pre k =>
      simp only [refOk] at hok
      cases hs : pres[k]? with
      | none => rw [hs] at hok; cases hok
      | some s => rw [hs] at hok; simp only [hs]; simpa using hok

    | res j =>
      simp only [refOk, Bool.and_eq_true, decide_eq_true_eq] at hok
      refine ⟨hok.1.1, hok.1.2, hl j hok.1.1, ?_⟩
      simp only [mutCheck, Bool.and_eq_true, List.all_eq_true] at hmut
      have := hmut.2 _ hr
      simp only at this
      unfold curM; rw [this]; simp
  · rcases List.mem_append.1 hs with hs | hs
    · obtain ⟨i, h1, h2, h3⟩ := mem_newBx hs
      obtain ⟨b, g1, g2, g3⟩ := h.fresh i s (by rw [← C.la]; exact h1) h2 h3 (hl i (by rw [← C.la]; exact h1))
      exact ⟨b, g1, g3, Nat.le_trans H.bel.size g2⟩
    · obtain ⟨b, g1, g2, g3⟩ := H.bx s hs
      exact ⟨b, (old s hs).trans g1, Nat.lt_of_lt_of_le g2 h.below.size, g3⟩
  · have key : ∀ s t, s ∈ newBx dsts als → t ∈ bxs → a.tmps.getD s undef ≠ a.tmps.getD t undef := by
      intro s t hs ht
      obtain ⟨i, h1, h2, h3⟩ := mem_newBx hs
      obtain ⟨b, g1, g2, g3⟩ := h.fresh i s (by rw [← C.la]; exact h1) h2 h3 (hl i (by rw [← C.la]; exact h1))
      obtain ⟨c, k1, k2, k3⟩ := H.bx t ht
      rw [g1, (old t ht).trans k1]
      intro e3
      injection e3 with e3; injection e3 with e3; injection e3 with e3
      omega
    rcases List.mem_append.1 hs with hs | hs <;> rcases List.mem_append.1 ht with ht | ht
    · obtain ⟨i, h1, h2, h3⟩ := mem_newBx hs
      obtain ⟨j, k1, k2, k3⟩ := mem_newBx ht
      rw [C.la] at h1 k1
      refine h.apart i j s t h1 k1 (fun e => hst ?_) h2 k2 h3 k3 (hl i h1) (hl j k1)
      subst e; rw [h3] at k3; injection k3
    · exact key s t hs ht
    · exact (key t s ht hs).symm
    · rw [old s hs, old t ht]; exact H.ap s hs t ht hst
  · have h1 := H.own0 k hk
    have h2 := H.own k h1
    exact (h.bl.box k h2).2 h1

theorem MidM.start (H : Own1 B0 w0) : MidM md ops m μ dsts posts cls als base w0 B0 (Array.replicate ops.size false) base w0 B0 := by
  have no : ∀ i : Nat, (Array.replicate ops.size false).getD i false = false := fun i => by
    rw [Array.getD_eq_getD_getElem?, Array.getElem?_replicate]; split <;> rfl
  refine ⟨by simp, fun j _ hj => by simp [hj], fun j o ho hl => ?_, rfl, rfl, fun _ _ => rfl, fun i d _ _ hl => ?_, fun i d _ _ _ hl => ?_, fun i j d e _ _ _ _ _ _ _ hl => ?_, Bl.refl _ _, Below.refl _ _, H⟩ <;> (rw [no] at hl; cases hl)
end

theorem flow_anyM (m μ q : Nat) (cls : List Bool) {N : Nat} {opl : List Oper} {dsts : List (Option Tmp)} {refs : List (List Ref)} {outs : List Ref} {als : List Bool} {posts : List FD} {pre out : List (Tmp × FD)} {bxs nb : List Tmp} {a : Act} {w w0 : World} {B B0 : Bx} {K : Nat → Array Bool → Prop}
    (H : St N w0 B0 a w B pre bxs)
    (hck : flowCheck true .any opl.toArray m N dsts (pre.map Prod.fst) bxs refs outs als = true) (hout : outs.map (lookR dsts posts pre) = out) (hnb : newBx dsts als = nb)
    (hmut : mutCheck .any opl.toArray m μ refs outs cls = true) (hclsμ : cls.getD μ false = true) (hq : w.heap.size ≤ q) (hkept : ∀ j, j < m → cls.getD j false = true → behind .any opl.toArray μ j = false → j ≠ μ → KeptAny q (posts.getD j (.val VP.top)))
    (hallg : ∀ i, i < m → ∃ o, opl[i]? = some o ∧ ((i ≠ μ ∧ StepOk P opl.toArray o ((refs.getD i []).map (lookR dsts posts pre)) (posts.getD i (.val VP.top)) (als.getD i false)) ∨ (i = μ ∧ als.getD i false = false ∧ MutOk P opl.toArray o ((refs.getD i []).map (lookR dsts posts pre)) (posts.getD i (.val VP.top)) q)))
    (hfull : ∀ a w B, St N w0 B0 a w B out (nb ++ bxs) → wpAny P .any opl.toArray Q (unlisted (coreFull opl.toArray.size m)) (coreFull opl.toArray.size m) a w) :
    wpAny P .any opl.toArray Q opl.toArray.size (Array.replicate opl.toArray.size false) a w := by
  have C := flowCheck_ok hck
  have hc := C.core
  simp only [← List.getElem?_toArray] at hallg
  generalize opl.toArray = ops at *
  unfold coreOk1 at hc
  rw [Bool.and_eq_true, decide_eq_true_eq, List.all_eq_true] at hc
  obtain ⟨hm, hc⟩ := hc
  have key : ∀ l a w B, MidM .any ops m μ dsts posts cls als a w B l a w B → True := fun _ _ _ _ _ => trivial
  have keyf : ∀ l a1 w1 B1, MidM .any ops m μ dsts posts cls als a w B l a1 w1 B1 → (∀ i, i < m → l.getD i false = true) → l = coreFull ops.size m := by
    intro l a1 w1 B1 h hl
    apply Array.ext
    · rw [h.size]; simp [coreFull]
    · intro i h1 h2
      have hi : i < ops.size := by rw [← h.size]; exact h1
      have e : (coreFull ops.size m)[i] = decide (i < m) := by simp [coreFull]
      rw [e]
      by_cases him : i < m
      · have := hl i him
        rw [Array.getD_eq_getD_getElem?, Array.getElem?_eq_getElem h1] at this
        rw [decide_eq_true him]
        simpa using this
      · have := h.late i (by omega) hi
        rw [Array.getD_eq_getD_getElem?, Array.getElem?_eq_getElem h1] at this
        rw [decide_eq_false him]
        simpa using this
  refine wpAny_inv (coreFull ops.size m) (fun l a1 w1 => ∃ B1, MidM .any ops m μ dsts posts cls als a w B l a1 w1 B1) ?_ ?_ ?_ ops.size _ a w ?_ ⟨B, MidM.start H.own⟩
  · rintro l a1 w1 ⟨B1, h⟩ hl
    by_cases hall : ∀ i, i < m → l.getD i false = true
    · exact absurd (keyf l a1 w1 B1 h hall) hl
    · have hex : ∃ i, i < m ∧ l.getD i false ≠ true := by
        simpa [Classical.not_forall] using hall
      obtain ⟨i, ⟨hi, hne⟩, hmin⟩ : ∃ i, (i < m ∧ l.getD i false ≠ true) ∧ ∀ j, j < i → ¬ (j < m ∧ l.getD j false ≠ true) := least_of _ hex
      have hisz : i < ops.size := by omega
      have hoi := hc i (List.mem_range.2 hisz)
      rw [Array.getElem?_eq_getElem hisz] at hoi
      simp only [hi, if_true] at hoi
      have hmem : i ∈ Region.ready .any ops l := mem_ready.2 ⟨by
          have hl2 : i < l.size := by rw [h.size]; exact hisz
          rw [Array.getD_eq_getD_getElem?, Array.getElem?_eq_getElem hl2] at hne ⊢
          simpa using hne, ops[i], Array.getElem?_eq_getElem hisz, fun e he hbi => by
          have h1 := Array.all_eq_true_iff_forall_mem.1 hoi e he
          have h2 : e.on < i := by simpa [hbi] using h1
          have h3 := hmin e.on h2
          by_cases h4 : l.getD e.on false = true
          · exact h4
          · exact absurd ⟨by omega, h4⟩ h3⟩
      intro e
      rw [e] at hmem
      cases hmem
  · rintro l a1 w1 i ⟨B1, h⟩ hl hi
    obtain ⟨hun, o, ho, hdeps⟩ := mem_ready.1 hi
    have hisz : i < ops.size := (Array.getElem?_eq_some_iff.1 ho).1
    by_cases him : i < m
    · exact h.step C rfl H.fc H.sz hallg hmut hclsμ hq hkept i him hun (fun o2 ho2 => by rw [ho] at ho2; injection ho2 with ho2; subst ho2; exact hdeps)
    · exfalso
      have hoi := hc i (List.mem_range.2 hisz)
      rw [ho] at hoi
      simp only [him, if_false] at hoi
      refine hl (keyf l a1 w1 B1 h fun j hj => ?_)
      rw [Bool.not_true, Bool.false_or] at hoi
      have h1 := List.all_eq_true.1 hoi j (List.mem_range.2 hj)
      exact anc_listed h.closed ho hdeps h1
  · rintro a1 w1 ⟨B1, h⟩
    refine hfull a1 w1 B1 (h.done C rfl H hout hnb (fun i hi => ?_) hmut)
    have : i < ops.size := by omega
    simp [coreFull, Array.getD_eq_getD_getElem?, this, hi]
  · unfold unlisted
    simp [List.countP_replicate]

inductive AllOkM (P : Program) (ops : Array Oper) (look : Ref → Tmp × FD) (refs : List (List Ref)) (posts : List FD) (als : List Bool) (m μ q : Nat) : Nat → List Oper → Prop where
  | nil {os : List Oper} : AllOkM P ops look refs posts als m μ q m os
  | norm {i : Nat} {o : Oper} {os : List Oper} (hn : decide (i ≠ μ) = true) (h : StepOk P ops o ((refs.getD i []).map look) (posts.getD i (.val VP.top)) (als.getD i false)) (t : AllOkM P ops look refs posts als m μ q (i + 1) os) : AllOkM P ops look refs posts als m μ q i (o :: os)
  | muta {i : Nat} {o : Oper} {os : List Oper} (hn : decide (i = μ) = true) (ha : als.getD i false = false) (h : MutOk P ops o ((refs.getD i []).map look) (posts.getD i (.val VP.top)) q) (t : AllOkM P ops look refs posts als m μ q (i + 1) os) : AllOkM P ops look refs posts als m μ q i (o :: os)
theorem AllOkM.get {look : Ref → Tmp × FD} {refs : List (List Ref)} {posts : List FD} {als : List Bool} {m μ q i : Nat} {os : List Oper} (h : AllOkM P ops look refs posts als m μ q i os) :
    ∀ k, i + k < m → ∃ o, os[k]? = some o ∧ ((i + k ≠ μ ∧ StepOk P ops o ((refs.getD (i + k) []).map look) (posts.getD (i + k) (.val VP.top)) (als.getD (i + k) false)) ∨ (i + k = μ ∧ als.getD (i + k) false = false ∧ MutOk P ops o ((refs.getD (i + k) []).map look) (posts.getD (i + k) (.val VP.top)) q)) := by
  induction h with
  | nil => intro k hk; omega
  | norm hn h t ih =>
    intro k hk
    cases k with
    | zero => exact ⟨_, rfl, .inl ⟨of_decide_eq_true hn, h⟩⟩
    | succ k =>
      rename_i i o os
      have := ih k (by omega)
      rw [show i + 1 + k = i + (k + 1) by omega] at this
      simpa using this
  | muta hn ha h t ih =>
    intro k hk
    cases k with
    | zero => exact ⟨_, rfl, .inr ⟨of_decide_eq_true hn, ha, h⟩⟩
    | succ k =>
      rename_i i o os
      have := ih k (by omega)
      rw [show i + 1 + k = i + (k + 1) by omega] at this
      simpa using this
inductive KeptL (md : Region.Mode) (ops : Array Oper) (cls : List Bool) (μ q : Nat) : Nat → List FD → Prop where
  | nil {i : Nat} : KeptL md ops cls μ q i []
  | keep {i : Nat} {f : FD} {fs : List FD} (h : KeptAny q f) (t : KeptL md ops cls μ q (i + 1) fs) : KeptL md ops cls μ q i (f :: fs)
  | skip {i : Nat} {f : FD} {fs : List FD} (h : (!cls.getD i false || behind md ops μ i || decide (i = μ)) = true) (t : KeptL md ops cls μ q (i + 1) fs) : KeptL md ops cls μ q i (f :: fs)
theorem KeptL.get {cls : List Bool} {μ q i : Nat} {fs : List FD} (h : KeptL md ops cls μ q i fs) : ∀ k, k < fs.length → cls.getD (i + k) false = true → behind md ops μ (i + k) = false → i + k ≠ μ → KeptAny q (fs.getD k (.val VP.top)) := by
  induction h with
  | nil => intro k hk; simp at hk
  | keep h t ih =>
    intro k hk hc hb hne
    cases k with
    | zero => exact h
    | succ k =>
      rename_i i f fs
      rw [show i + (k + 1) = i + 1 + k by omega] at hc hb hne
      have := ih k (by simpa using hk) hc hb hne
      simpa using this
  | skip h t ih =>
    intro k hk hc hb hne
    cases k with
    | zero =>
      simp only [Nat.add_zero] at hc hb hne
      simp only [hc, hb, decide_eq_false hne] at h
      cases h
    | succ k =>
      rename_i i f fs
      rw [show i + (k + 1) = i + 1 + k by omega] at hc hb hne
      have := ih k (by simpa using hk) hc hb hne
      simpa using this
theorem flow_drawM {id : Nat} {N : Nat} {opl : List Oper} {dsts : List (Option Tmp)} {refs : List (List Ref)} {outs : List Ref} {als : List Bool} {posts : List FD} {pre out : List (Tmp × FD)} {bxs nb : List Tmp} {a : Act} {w w0 : World} {B B0 : Bx} (H : St N w0 B0 a w B pre bxs)
    (hm : P.follows .mixedOrders = true) (m μ q fuel : Nat) (cls : List Bool) (lst : Array Bool) (hq : w.heap.size ≤ q)
    (hck : flowCheck true .any opl.toArray m N dsts (pre.map Prod.fst) bxs refs outs als = true) (hmut : (mutCheck .any opl.toArray m μ refs outs cls && cls.getD μ false && decide (posts.length = m)) = true) (hls : (decide (coreFull opl.toArray.size m = lst) && decide (unlisted lst = fuel)) = true)
    (hout : outs.map (lookR dsts posts pre) = out) (hnb : newBx dsts als = nb)
    (hall : AllOkM P opl.toArray (lookR dsts posts pre) refs posts als m μ q 0 opl) (hkept : KeptL .any opl.toArray cls μ q 0 posts)
    (hfull : ∀ a w B, St N w0 B0 a w B out (nb ++ bxs) → wpAny P .any opl.toArray Q fuel lst a w) : (Code.region id opl.toArray true).wp P Q a w := by
  rw [Bool.and_eq_true, decide_eq_true_eq, decide_eq_true_eq] at hls
  rw [Bool.and_eq_true, Bool.and_eq_true, decide_eq_true_eq] at hmut
  refine wp_region_any hm (flow_anyM (K := fun _ _ => True) m μ q cls H.drew hck hout hnb hmut.1.1 hmut.1.2 hq (fun j hj hc hb hne => ?_) (fun i hi => ?_) fun a w B h => ?_)
  · have := hkept.get j (by rw [hmut.2]; exact hj) (by rw [Nat.zero_add]; exact hc) (by rw [Nat.zero_add]; exact hb) (by rw [Nat.zero_add]; exact hne)
    exact this
  · have := hall.get i (by omega)
    rw [Nat.zero_add] at this
    exact this
  · rw [hls.1, hls.2]
    exact hfull a w B h
theorem keptAny_lit {q : Nat} {u : Value} : KeptAny q (.val (Lit u)) := fun _ => kept_lit
theorem keptAny_box {q n : Nat} {t : TypeId} {D : VP} (h : KeptAny q (.val D)) : KeptAny q (.box t n D) := fun g => kept_box (h g)
theorem keptAny_ptr {q n off : Nat} {t : TypeId} {D : VP} (h : KeptAny q (.val D)) : KeptAny q (.ptr t n D off) := fun g v w w' B hs hb hg ⟨b, cs, h1, h2, h3, h4, h5, h6⟩ =>
  ⟨b, cs, h1, h2, Nat.lt_of_lt_of_le h3 hs, (hb b h3 fun e => (hg b e).2 h2).trans h4, h5, h g _ _ _ _ hs hb hg h6⟩
theorem keptAny_ib {q : Nat} {N : Int} : KeptAny q (.val (IsIb q N)) := fun _ => kept_ib (Nat.le_refl _)
theorem keptAny_argb {q : Nat} {ng : Bool} {n : Nat} {xs : List Int} : KeptAny q (.val (IsArgb q ng n xs)) := fun _ => kept_argb (Nat.le_refl _)
theorem mut_appz {m : Nat} {e t tn : TypeId} {k kq kn : IntKind} {bytes : Nat} {xs : List Int} {j : Int} (n : Nat) {s : Tmp} {x y : Operand} {zs : Tmp} {ty : TypeId} {pos : String} {af : Array Edge} (kz : Nat) {need : List (Tmp × FD)}
    (ht : P.underlying t = some (.slice e)) (htn : P.underlying tn = some (.int kn)) (hinfo : (P.info? e).map (fun i => (i.zero, i.size, i.bytes)) = some (some (.int k 0), 1, bytes)) (hb0 : 0 < bytes) (hx : Opd need x (.val (IsNew m e k xs))) (hy : Opd need y (.val (Lit (.int kq j)))) (hj : j = n) (hlen : (xs.length + n) * bytes ≤ 140737488355328)
    (hz : need[kz]? = some (zs, .val (Sz m))) : MutOk P ops ⟨some s, .call { callee := .builtin .append, args := #[x, y], argTypes := #[t, tn] }, ty, pos, af, none⟩ need (.val (IsNew m e k (xs ++ List.replicate n 0))) m := by
  intro Q K i a w B ho hB0 hF hK
  obtain ⟨i0, hi, hzz⟩ := Option.map_eq_some_iff.1 hinfo
  simp only [Prod.mk.injEq] at hzz
  obtain ⟨hz0, hz1, hz2⟩ := hzz
  subst hj
  have hsz : m ≤ w.heap.size := hF.get kz hz
  obtain ⟨g, hkd, hB, ad, c, e1, ha, hg⟩ := hx a w B hF
  have e2 : a.eval y = .int kq n := hy a w B hF
  obtain ⟨ad1, c1, w1, hrun, hown, hgr, hat⟩ := run_app_zeros_at (P := P) w m t tn ty e i0 k kq kn bytes ht htn hi hz0 hz1 hz2 hb0 ad xs.length c xs ha n (by omega) hlen
  rw [ownBlock_slice, hg] at hgr
  have hmg : ∀ b, g = some b → m ≤ b ∧ ¬ B b := fun b hb => ⟨(ha.lt b (hg.trans hb)).1, hB b hb⟩
  have hnew : PApp (blkOf ad1) m e k (xs ++ List.replicate n 0) (.slice ad1 (xs.length + n) c1) w1 B := by
    refine ⟨hkd, fun b hb h2 => ?_, ad1, c1, by rw [List.length_append, List.length_replicate], by rw [List.length_append, List.length_replicate]; exact hown, rfl⟩
    rcases hat with h1 | h1
    · exact hB b (by rw [← hg, ← h1]; exact hb) h2
    · rw [hb] at h1
      injection h1 with h1
      subst h1
      have := hB0 _ h2
      omega
  unfold wpOp
  simp only [ho]
  rw [if_pos (by simp [Region.wanted])]
  refine .inl ?_
  unfold Oper.wp
  have hr2 : (execOp a.eval ⟨some s, .call { callee := .builtin .append, args := #[x, y], argTypes := #[t, tn] }, ty, pos, af, none⟩).run P w = .ok (.value (.slice ad1 (xs.length + n) c1)) w1 := by
    simp [execOp, e1, e2, resolve, invoke, builtin, Sem.run_bind, hrun]
  rw [hr2]
  exact hK _ _ g ⟨_, hnew⟩ hgr.size (fun i hi hne => hgr.block i hi fun e => hne e.symm) hmg hgr.os hgr.tape hgr.output
end
end Go.Proofs.Ytgnophflogmmaaa
