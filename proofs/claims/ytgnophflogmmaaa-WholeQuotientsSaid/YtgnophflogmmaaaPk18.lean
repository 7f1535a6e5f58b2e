/- Contracts of functions, and plain facts, part 18. -/
import Derived.Orders
import Derived.OrdersHeld
import Derived.Below
set_option linter.unusedVariables false
set_option linter.unusedSimpArgs false
/- A region that draws its order, by an invariant: each operation once, not each order. -/
namespace Go.Proofs.Ytgnophflogmmaaa
open Go Go.RowKit

section
variable {P : Program} {ops : Array Oper} {Q : Exit → Act → World → Prop} {md : Region.Mode}

/-- How many have not come up. -/
def unlisted (l : Array Bool) : Nat := l.toList.countP (fun b => !b)

theorem unlisted_set (l : Array Bool) (i : Nat) (h : l.getD i true = false) : unlisted l = unlisted (l.setIfInBounds i true) + 1 := by
  have hi : i < l.size := by
    rcases Nat.lt_or_ge i l.size with h1 | h1
    · exact h1
    · rw [Array.getD_eq_getD_getElem?, Array.getElem?_eq_none h1] at h; cases h
  have hv : l.toList[i]'(by simpa using hi) = false := by
    rw [Array.getD_eq_getD_getElem?, Array.getElem?_eq_getElem hi] at h
    simpa using h
  have hpos : 0 < l.toList.countP (fun b => !b) := by
    rw [List.countP_pos_iff]
    exact ⟨_, List.getElem_mem (by simpa using hi), by rw [hv]; rfl⟩
  unfold unlisted
  rw [Array.toList_setIfInBounds, List.countP_set (by simpa using hi), hv]
  simp only [Bool.not_false, Bool.not_true, if_true, Bool.false_eq_true, if_false, Nat.add_zero]
  omega

/-- A LAW OF ALL ORDERS BY AN INVARIANT: I says what holds when just the operations in l have come up; it is shown once for each operation, not once for each order. It leads to the state `full`. -/
theorem wpAny_inv (full : Array Bool) (I : Array Bool → Act → World → Prop)
    (hne : ∀ l a w, I l a w → l ≠ full → Region.ready md ops l ≠ [])
    (hstep : ∀ l a w i, I l a w → l ≠ full → i ∈ Region.ready md ops l → wpOp P ops Q i (I (l.setIfInBounds i true)) a w)
    (hfull : ∀ a w, I full a w → wpAny P md ops Q (unlisted full) full a w) :
    ∀ (fuel : Nat) (l : Array Bool) (a : Act) (w : World), unlisted l = fuel → I l a w → wpAny P md ops Q fuel l a w := by
  intro fuel
  induction fuel with
  | zero =>
    intro l a w hf hI
    by_cases h : l = full
    · subst h; rw [← hf]; exact hfull a w hI
    · exfalso
      obtain ⟨i, hi⟩ := List.exists_mem_of_ne_nil _ (hne l a w hI h)
      have := unlisted_set l i (mem_ready.1 hi).1
      omega
  | succ fuel ih =>
    intro l a w hf hI
    by_cases h : l = full
    · subst h; rw [← hf]; exact hfull a w hI
    · refine ⟨fun e => absurd e (hne l a w hI h), fun i hi => ?_⟩
      have hu := unlisted_set l i (mem_ready.1 hi).1
      exact wpOp_mono (fun a' w' h' => ih _ a' w' (by omega) h') (hstep l a w i hI h hi)

theorem least_of (p : Nat → Prop) (h : ∃ i, p i) : ∃ i, p i ∧ ∀ j, j < i → ¬ p j := by
  obtain ⟨i, hi⟩ := h
  induction i using Nat.strongRecOn with
  | ind i ih =>
    by_cases h : ∃ j, j < i ∧ p j
    · obtain ⟨j, h1, h2⟩ := h
      exact ih j h1 h2
    · exact ⟨i, hi, fun j hj hp => h ⟨j, hj, hp⟩⟩

/-- The first m operations look back alone; each later one waits for all of them. -/
def reach (md : Region.Mode) (ops : Array Oper) : Nat → Nat → Nat → Bool
  | 0, _, _ => false
  | f + 1, i, j => match ops[i]? with
    | none => false
    | some o => o.after.any fun e => Region.binds md e && (e.on == j || reach md ops f e.on j)
def coreOk (md : Region.Mode) (ops : Array Oper) (m : Nat) : Bool :=
  decide (m ≤ ops.size) && (List.range ops.size).all fun i => match ops[i]? with
    | none => false
    | some o => if i < m then o.after.all (fun e => decide (e.on < i)) else (List.range m).all fun j => reach md ops (m + 1) i j
def coreFull (n m : Nat) : Array Bool := ((List.range n).map fun i => decide (i < m)).toArray

/-- What holds in the middle of the first m operations. -/
structure Mid (md : Region.Mode) (ops : Array Oper) (m n : Nat) (dst : Nat → Tmp) (al : Nat → Bool) (p : Nat → Value → World → Prop) (base : Act) (w0 : World) (l : Array Bool) (a : Act) (w : World) : Prop where
  size : l.size = n
  late : ∀ j, m ≤ j → j < n → l.getD j true = false
  closed : ∀ j o, ops[j]? = some o → l.getD j false = true → ∀ e ∈ o.after, Region.binds md e = true → l.getD e.on false = true
  defers : a.defers = base.defers
  tsize : a.tmps.size = base.tmps.size
  rest : ∀ s, (∀ i, i < m → dst i ≠ s) → a.tmps.getD s undef = base.tmps.getD s undef
  fact : ∀ i, i < m → l.getD i false = true → p i (a.tmps.getD (dst i) undef) w
  apart : ∀ i j, i < m → j < m → i ≠ j → al i = true → al j = true → l.getD i false = true → l.getD j false = true → a.tmps.getD (dst i) undef ≠ a.tmps.getD (dst j) undef
  below : Below w0.heap.size w0 w

theorem getD_put {t : Array Value} {d s : Nat} {v : Value} (hd : d < t.size) : (t.setIfInBounds d v).getD s undef = if d = s then v else t.getD s undef := by
  rw [Array.getD_eq_getD_getElem?, Array.getD_eq_getD_getElem?, Array.getElem?_setIfInBounds]
  by_cases h : d = s
  · subst h; simp [hd]
  · rw [if_neg h, if_neg h]

theorem reach_listed {l : Array Bool} (hc : ∀ j o, ops[j]? = some o → l.getD j false = true → ∀ e ∈ o.after, Region.binds md e = true → l.getD e.on false = true) :
    ∀ (f i j : Nat) (o : Oper), ops[i]? = some o → (∀ e ∈ o.after, Region.binds md e = true → l.getD e.on false = true) → reach md ops f i j = true → l.getD j false = true := by
  intro f
  induction f with
  | zero => intro i j o _ _ h; cases h
  | succ f ih =>
    intro i j o ho hd h
    unfold reach at h
    rw [ho] at h
    obtain ⟨e, he, hb⟩ := Array.any_eq_true'.1 h
    simp only [Bool.and_eq_true, Bool.or_eq_true, beq_iff_eq] at hb
    have hl := hd e he hb.1
    rcases hb.2 with h2 | h2
    · rw [← h2]; exact hl
    · cases ho2 : ops[e.on]? with
      | none => cases f <;> simp [reach, ho2] at h2
      | some o2 => exact ih e.on j o2 ho2 (fun e2 he2 hb2 => hc e.on o2 ho2 hl e2 he2 hb2) h2

theorem wpAny_core (m : Nat) (hc : coreOk md ops m = true) (dst : Nat → Tmp) (al : Nat → Bool) (p : Nat → Value → World → Prop) (base : Act) (w0 : World)
    (hst : ∀ i v w w', p i v w → Below w.heap.size w w' → p i v w')
    (hdst : ∀ i j, i < m → j < m → dst i = dst j → i = j) (hdb : ∀ i, i < m → dst i < base.tmps.size)
    (hop : ∀ i o, i < m → ops[i]? = some o → ∀ a w, a.defers = base.defers → a.tmps.size = base.tmps.size → (∀ s, (∀ j, j < m → dst j ≠ s) → a.tmps.getD s undef = base.tmps.getD s undef) → Below w0.heap.size w0 w →
      (∀ e ∈ o.after, Region.binds md e = true → p e.on (a.tmps.getD (dst e.on) undef) w) →
      wpOp P ops Q i (fun a' w' => ∃ v, a' = a.put (some (dst i)) v ∧ p i v w' ∧ Below w.heap.size w w' ∧ (al i = true → ∀ j, j < m → al j = true → ∀ u, p j u w → v ≠ u)) a w)
    (hfull : ∀ a w, Mid md ops m ops.size dst al p base w0 (coreFull ops.size m) a w → wpAny P md ops Q (unlisted (coreFull ops.size m)) (coreFull ops.size m) a w)
    (hB : Below w0.heap.size w0 w0) (w : World) (hw : Below w0.heap.size w0 w) :
    wpAny P md ops Q ops.size (Array.replicate ops.size false) base w := by
  unfold coreOk at hc
  rw [Bool.and_eq_true, decide_eq_true_eq, List.all_eq_true] at hc
  obtain ⟨hm, hc⟩ := hc
  have key : ∀ l a w, Mid md ops m ops.size dst al p base w0 l a w → (∀ i, i < m → l.getD i false = true) → l = coreFull ops.size m := by
    intro l a w h hall
    apply Array.ext
    · rw [h.size]; simp [coreFull]
    · intro i h1 h2
      have hi : i < ops.size := by rw [← h.size]; exact h1
      have e : (coreFull ops.size m)[i] = decide (i < m) := by simp [coreFull]
      rw [e]
      by_cases him : i < m
      · have := hall i him
        rw [Array.getD_eq_getD_getElem?, Array.getElem?_eq_getElem h1] at this
        rw [decide_eq_true him]
        simpa using this
      · have := h.late i (by omega) hi
        rw [Array.getD_eq_getD_getElem?, Array.getElem?_eq_getElem h1] at this
        rw [decide_eq_false him]
        simpa using this
  refine wpAny_inv (coreFull ops.size m) (Mid md ops m ops.size dst al p base w0) ?_ ?_ hfull ops.size _ base w ?_ ?_
  · intro l a w h hl
    by_cases hall : ∀ i, i < m → l.getD i false = true
    · exact absurd (key l a w h hall) hl
    · have hex : ∃ i, i < m ∧ l.getD i false ≠ true := by
        simpa [Classical.not_forall] using hall
      obtain ⟨i, ⟨hi, hne⟩, hmin⟩ : ∃ i, (i < m ∧ l.getD i false ≠ true) ∧ ∀ j, j < i → ¬ (j < m ∧ l.getD j false ≠ true) := by
        exact least_of _ hex
      have hisz : i < ops.size := by omega
      have hoi := hc i (List.mem_range.2 hisz)
      rw [Array.getElem?_eq_getElem hisz] at hoi
      simp only [hi, if_true] at hoi
      have hmem : i ∈ Region.ready md ops l := mem_ready.2 ⟨by
          have hl2 : i < l.size := by rw [h.size]; exact hisz
          rw [Array.getD_eq_getD_getElem?, Array.getElem?_eq_getElem hl2] at hne ⊢
          simpa using hne, ops[i], Array.getElem?_eq_getElem hisz, fun e he _ => by
          have h1 := Array.all_eq_true_iff_forall_mem.1 hoi e he
          have h2 : e.on < i := by simpa using h1
          have h3 := hmin e.on h2
          by_cases h4 : l.getD e.on false = true
          · exact h4
          · exact absurd ⟨by omega, h4⟩ h3⟩
      intro e
      rw [e] at hmem
      cases hmem
  · intro l a w i h hl hi
    obtain ⟨hun, o, ho, hdeps⟩ := mem_ready.1 hi
    have hisz : i < ops.size := by
      rcases Nat.lt_or_ge i ops.size with h1 | h1
      · exact h1
      · rw [Array.getElem?_eq_none h1] at ho; cases ho
    have hoi := hc i (List.mem_range.2 hisz)
    rw [ho] at hoi
    by_cases him : i < m
    · simp only [him, if_true] at hoi
      have hback : ∀ e ∈ o.after, e.on < i := fun e he => by simpa using Array.all_eq_true_iff_forall_mem.1 hoi e he
      refine wpOp_mono ?_ (hop i o him ho a w h.defers h.tsize h.rest h.below fun e he hb => h.fact e.on (by have := hback e he; omega) (hdeps e he hb))
      rintro a' w' ⟨v, rfl, hp, hbel, hap⟩
      have hds : dst i < a.tmps.size := by rw [h.tsize]; exact hdb i him
      have hput : ∀ s, (a.put (some (dst i)) v).tmps.getD s undef = if dst i = s then v else a.tmps.getD s undef := fun s => getD_put hds
      have hlset : ∀ j b, j < ops.size → (l.setIfInBounds i true).getD j b = if i = j then true else l.getD j b := fun j b hj => by
        have hil : i < l.size := by rw [h.size]; exact hisz
        rw [Array.getD_eq_getD_getElem?, Array.getD_eq_getD_getElem?, Array.getElem?_setIfInBounds]
        by_cases e : i = j
        · subst e; simp [hil]
        · rw [if_neg e, if_neg e]
      have hbw : Below w0.heap.size w0 w' := ⟨hbel.os.trans h.below.os, hbel.tape.trans h.below.tape, hbel.output.trans h.below.output, Nat.le_trans h.below.size hbel.size, fun k hk => (hbel.block k (Nat.lt_of_lt_of_le hk h.below.size)).trans (h.below.block k hk)⟩
      have hmono : ∀ j, l.getD j false = true → (l.setIfInBounds i true).getD j false = true := fun j hj => by
        have hil : i < l.size := by rw [h.size]; exact hisz
        rw [Array.getD_eq_getD_getElem?] at hj ⊢
        rw [Array.getElem?_setIfInBounds]
        by_cases e : i = j
        · subst e; simp [hil]
        · rw [if_neg e]; exact hj
      refine ⟨by rw [Array.size_setIfInBounds]; exact h.size, ?_, ?_, h.defers, ?_, ?_, ?_, ?_, hbw⟩
      · intro j hj1 hj2
        rw [hlset j true hj2, if_neg (by omega)]
        exact h.late j hj1 hj2
      · intro j o2 ho2 hlj e he hb
        refine hmono _ ?_
        by_cases e1 : i = j
        · subst e1
          rw [ho] at ho2
          injection ho2 with ho2
          subst ho2
          exact hdeps e he hb
        · have hj2 : j < ops.size := by
            rcases Nat.lt_or_ge j ops.size with h1 | h1
            · exact h1
            · rw [Array.getElem?_eq_none h1] at ho2; cases ho2
          rw [hlset j false hj2, if_neg e1] at hlj
          exact h.closed j o2 ho2 hlj e he hb
      · show (a.tmps.setIfInBounds (dst i) v).size = _
        rw [Array.size_setIfInBounds]
        exact h.tsize
      · intro s hs
        rw [hput, if_neg (hs i him)]
        exact h.rest s hs
      · intro j hj hlj
        rw [hlset j false (by omega)] at hlj
        rw [hput]
        by_cases e : i = j
        · subst e; rw [if_pos rfl]; exact hp
        · rw [if_neg e] at hlj
          rw [if_neg (fun e2 => e (hdst i j him hj e2))]
          exact hst j _ _ _ (h.fact j hj hlj) hbel
      · intro j k hj hk hjk aj ak lj lk
        rw [hlset j false (by omega)] at lj
        rw [hlset k false (by omega)] at lk
        rw [hput, hput]
        by_cases e1 : i = j
        · subst e1
          rw [if_pos rfl, if_neg (fun e2 => hjk (hdst i k him hk e2))]
          rw [if_neg hjk] at lk
          exact hap aj k hk ak _ (h.fact k hk lk)
        · rw [if_neg (fun e2 => e1 (hdst i j him hj e2))]
          rw [if_neg e1] at lj
          by_cases e2 : i = k
          · subst e2
            rw [if_pos rfl]
            exact fun e3 => hap ak j hj aj _ (h.fact j hj lj) e3.symm
          · rw [if_neg (fun e3 => e2 (hdst i k him hk e3))]
            rw [if_neg e2] at lk
            exact h.apart j k hj hk hjk aj ak lj lk
    · exfalso
      simp only [him, if_false] at hoi
      refine hl (key l a w h fun j hj => ?_)
      have h1 := List.all_eq_true.1 hoi j (List.mem_range.2 hj)
      exact reach_listed h.closed (m + 1) i j o ho hdeps h1
  · unfold unlisted
    simp [List.countP_replicate]
  · exact ⟨by simp, fun j _ hj => by simp [hj], (fun j o ho hl => by
      rcases Nat.lt_or_ge j ops.size with h1 | h1
      · simp [Array.getD_eq_getD_getElem?, h1] at hl
      · rw [Array.getElem?_eq_none h1] at ho
        cases ho), rfl, rfl, fun _ _ => rfl, fun i hi hl => by
      have : i < ops.size := by omega
      simp [Array.getD_eq_getD_getElem?, this] at hl, fun i j hi hj _ _ _ hl => by
      have : i < ops.size := by omega
      simp [Array.getD_eq_getD_getElem?, this] at hl, hw⟩

theorem fold_put (base : Array Value) (dst : Nat → Tmp) (v : Nat → Value) (m : Nat) :
    ((List.range m).foldl (fun t i => t.setIfInBounds (dst i) (v i)) base).size = base.size := by
  induction m with
  | zero => rfl
  | succ m ih => rw [List.range_succ, List.foldl_append, List.foldl_cons, List.foldl_nil, Array.size_setIfInBounds, ih]
theorem fold_rest (base : Array Value) (dst : Nat → Tmp) (v : Nat → Value) (m s : Nat) (h : ∀ i, i < m → dst i ≠ s) :
    ((List.range m).foldl (fun t i => t.setIfInBounds (dst i) (v i)) base).getD s undef = base.getD s undef := by
  induction m with
  | zero => rfl
  | succ m ih =>
    rw [List.range_succ, List.foldl_append, List.foldl_cons, List.foldl_nil, Array.getD_eq_getD_getElem?, Array.getElem?_setIfInBounds, if_neg (h m (by omega)), ← Array.getD_eq_getD_getElem?, ih fun i hi => h i (by omega)]
theorem fold_at (base : Array Value) (dst : Nat → Tmp) (v : Nat → Value) (m i : Nat) (hi : i < m) (hdst : ∀ i j, i < m → j < m → dst i = dst j → i = j) (hb : dst i < base.size) :
    ((List.range m).foldl (fun t i => t.setIfInBounds (dst i) (v i)) base).getD (dst i) undef = v i := by
  induction m with
  | zero => omega
  | succ m ih =>
    rw [List.range_succ, List.foldl_append, List.foldl_cons, List.foldl_nil, Array.getD_eq_getD_getElem?, Array.getElem?_setIfInBounds]
    by_cases e : m = i
    · subst e
      rw [if_pos rfl, if_pos (by rw [fold_put]; exact hb)]
      rfl
    · rw [if_neg (fun e2 => e (hdst m i (by omega) hi e2)), ← Array.getD_eq_getD_getElem?, ih (by omega) fun i j h1 h2 => hdst i j (by omega) (by omega)]
/-- The state at the end of the first m operations, written out. -/
theorem Mid.act {m n : Nat} {dst : Nat → Tmp} {al : Nat → Bool} {p : Nat → Value → World → Prop} {base : Act} {w0 : World} {l : Array Bool} {a : Act} {w : World} (h : Mid md ops m n dst al p base w0 l a w)
    (hdst : ∀ i j, i < m → j < m → dst i = dst j → i = j) (hdb : ∀ i, i < m → dst i < base.tmps.size) :
    a = ⟨(List.range m).foldl (fun t i => t.setIfInBounds (dst i) (a.tmps.getD (dst i) undef)) base.tmps, base.defers⟩ := by
  have ht : a.tmps = (List.range m).foldl (fun t i => t.setIfInBounds (dst i) (a.tmps.getD (dst i) undef)) base.tmps := by
    apply Array.ext
    · rw [fold_put, h.tsize]
    · intro s h1 h2
      have e1 : a.tmps[s] = a.tmps.getD s undef := by rw [Array.getD_eq_getD_getElem?, Array.getElem?_eq_getElem h1]; rfl
      have e2 : ∀ t : Array Value, ∀ hs : s < t.size, t[s] = t.getD s undef := fun t hs => by rw [Array.getD_eq_getD_getElem?, Array.getElem?_eq_getElem hs]; rfl
      rw [e1, e2]
      by_cases hs : ∃ i, i < m ∧ dst i = s
      · obtain ⟨i, hi, rfl⟩ := hs
        rw [fold_at base.tmps dst (fun i => a.tmps.getD (dst i) undef) m i hi hdst (hdb i hi)]
      · rw [h.rest s fun i hi e => hs ⟨i, hi, e⟩, fold_rest _ _ _ _ _ fun i hi e => hs ⟨i, hi, e⟩]
  cases a with
  | mk t d =>
    have hd := h.defers
    simp only at ht hd
    rw [hd]
    congr 1

section
variable {K : Act → World → Prop} {i : Nat} {o : Oper} {a : Act} {w : World}
theorem op_run {v : Value} {w' : World} (ho : ops[i]? = some o) (hg : o.guard = none) (hr : (execOp a.eval o).run P w = .ok (.value v) w') (h : K (a.put o.dst v) w') : wpOp P ops Q i K a w := by
  unfold wpOp
  simp only [ho]
  rw [if_pos (by simp [Region.wanted, hg])]
  refine .inl ?_
  unfold Oper.wp
  rw [hr]
  exact h
theorem op_skip {w' : World} (ho : ops[i]? = some o) (hg : o.guard = none) (hr : (execOp a.eval o).run P w = .ok .skip w') (h : K (a.put o.dst undef) w') : wpOp P ops Q i K a w := by
  unfold wpOp
  simp only [ho]
  rw [if_pos (by simp [Region.wanted, hg])]
  refine .inl ?_
  unfold Oper.wp
  rw [hr]
  exact h
theorem op_call (F : FuncId) (args : Array Value) (ho : ops[i]? = some o) (hg : o.guard = none) (hr : (execOp a.eval o).run P w = .ok (.enter F args) w)
    (hC : Calls P F args w (fun e w' => ∃ v, e = .returned v ∧ K (a.put o.dst v) w')) : wpOp P ops Q i K a w := by
  unfold wpOp
  simp only [ho]
  rw [if_pos (by simp [Region.wanted, hg])]
  refine .inl ?_
  unfold Oper.wp
  rw [hr]
  refine Calls.mono hC ?_
  rintro e w' ⟨v, rfl, h⟩
  exact h
end
end
end Go.Proofs.Ytgnophflogmmaaa
