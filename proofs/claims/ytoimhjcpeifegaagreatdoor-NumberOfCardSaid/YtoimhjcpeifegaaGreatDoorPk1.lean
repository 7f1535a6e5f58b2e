/- Contracts of functions, and plain facts, part 1. -/
import Derived.Orders
import Derived.OrdersHeld
import Derived.Below
set_option linter.unusedVariables false
set_option linter.unusedSimpArgs false
/- Numbers as lists of digits in a base, the lowest first: plain facts on lists, no program. -/
namespace Go.Proofs.YtoimhjcpeifegaaGreatDoor

/-- All members are digits of base b. -/
def Dig (b : Int) (xs : List Int) : Prop := ∀ x ∈ xs, 0 ≤ x ∧ x < b

def val (b : Int) : List Int → Int
  | [] => 0
  | x :: xs => x + b * val b xs

def norm : List Int → List Int
  | [] => []
  | x :: xs => if norm xs = [] ∧ x = 0 then [] else x :: norm xs

def digs (b n : Nat) : List Int :=
  if h : 2 ≤ b ∧ 0 < n then (((n % b : Nat) : Int)) :: digs b (n / b) else []
termination_by n
decreasing_by exact Nat.div_lt_self h.2 h.1

/-- The digits of a number, none 0 at the end. -/
def dg (b : Nat) (V : Int) : List Int := digs b V.toNat

theorem pow_pos' {b : Int} (hb : 0 < b) (n : Nat) : 0 < b ^ n := Int.pow_pos hb
theorem pow_le {b : Int} (hb : 1 ≤ b) {m n : Nat} (h : m ≤ n) : b ^ m ≤ b ^ n := by
  obtain ⟨d, rfl⟩ : ∃ d, n = m + d := ⟨n - m, by omega⟩
  rw [Int.pow_add]
  have h1 : 1 ≤ b ^ d := by
    have := pow_pos' (show 0 < b by omega) d
    omega
  have h2 : 0 ≤ b ^ m := Int.le_of_lt (Int.pow_pos (by omega))
  have := Int.mul_le_mul_of_nonneg_left h1 h2
  omega

theorem Dig.nil (b : Int) : Dig b [] := fun x h => by cases h
theorem Dig.head {b x : Int} {xs : List Int} (h : Dig b (x :: xs)) : 0 ≤ x ∧ x < b := h x (by simp)
theorem Dig.tail {b x : Int} {xs : List Int} (h : Dig b (x :: xs)) : Dig b xs := fun y hy => h y (by simp [hy])
theorem Dig.cons {b x : Int} {xs : List Int} (h0 : 0 ≤ x) (h1 : x < b) (h : Dig b xs) : Dig b (x :: xs) := fun y hy => by
  rcases List.mem_cons.1 hy with rfl | hy
  · exact ⟨h0, h1⟩
  · exact h y hy
theorem Dig.take {b : Int} {xs : List Int} (h : Dig b xs) (k : Nat) : Dig b (xs.take k) := fun y hy => h y (List.mem_of_mem_take hy)
theorem Dig.drop {b : Int} {xs : List Int} (h : Dig b xs) (k : Nat) : Dig b (xs.drop k) := fun y hy => h y (List.mem_of_mem_drop hy)
theorem Dig.append {b : Int} {xs ys : List Int} (h : Dig b xs) (k : Dig b ys) : Dig b (xs ++ ys) := fun y hy => by
  rcases List.mem_append.1 hy with hy | hy
  · exact h y hy
  · exact k y hy
theorem Dig.get {b : Int} {xs : List Int} (h : Dig b xs) (hb : 0 < b) (j : Nat) : 0 ≤ xs[j]?.getD 0 ∧ xs[j]?.getD 0 < b := by
  rcases Nat.lt_or_ge j xs.length with hj | hj
  · rw [List.getElem?_eq_getElem hj]
    exact h _ (List.getElem_mem hj)
  · rw [List.getElem?_eq_none hj]
    exact ⟨Int.le_refl _, hb⟩
theorem Dig.replicate (b : Int) (hb : 0 < b) (n : Nat) : Dig b (List.replicate n 0) := fun y hy => by
  rw [List.mem_replicate] at hy
  omega
theorem Dig.set {b : Int} {xs : List Int} (h : Dig b xs) {x : Int} (h0 : 0 ≤ x) (h1 : x < b) (j : Nat) : Dig b (xs.set j x) := fun y hy => by
  rcases List.mem_or_eq_of_mem_set hy with hy | rfl
  · exact h y hy
  · exact ⟨h0, h1⟩

theorem val_nonneg {b : Int} (hb : 0 < b) : ∀ {xs : List Int}, Dig b xs → 0 ≤ val b xs
  | [], _ => Int.le_refl _
  | x :: xs, h => by
    have h0 := h.head
    have := Int.mul_nonneg (Int.le_of_lt hb) (val_nonneg hb h.tail)
    simp only [val]
    omega

theorem val_append (b : Int) (xs ys : List Int) : val b (xs ++ ys) = val b xs + b ^ xs.length * val b ys := by
  induction xs with
  | nil => simp [val]
  | cons x xs ih =>
    simp only [List.cons_append, val, ih, List.length_cons, Int.pow_succ]
    grind

theorem val_lt {b : Int} (hb : 0 < b) : ∀ {xs : List Int}, Dig b xs → val b xs < b ^ xs.length
  | [], _ => by simp [val]
  | x :: xs, h => by
    have h0 := h.head
    have ih := val_lt hb h.tail
    simp only [val, List.length_cons, Int.pow_succ]
    have : b * (val b xs + 1) ≤ b * b ^ xs.length := Int.mul_le_mul_of_nonneg_left (by omega) (Int.le_of_lt hb)
    have e : b ^ xs.length * b = b * b ^ xs.length := Int.mul_comm _ _
    rw [Int.mul_add] at this
    omega

theorem val_replicate (b : Int) (n : Nat) : val b (List.replicate n 0) = 0 := by
  induction n with
  | zero => rfl
  | succ n ih => simp [List.replicate_succ, val, ih]

theorem val_set (b : Int) : ∀ (xs : List Int) (j : Nat) (x : Int), j < xs.length → val b (xs.set j x) = val b xs + b ^ j * (x - xs[j]?.getD 0)
  | [], j, x, h => by simp at h
  | y :: ys, 0, x, h => by simp [val]; omega
  | y :: ys, j + 1, x, h => by
    have ih := val_set b ys j x (by simpa using h)
    simp only [List.set_cons_succ, val, ih, List.getElem?_cons_succ, Int.pow_succ]
    grind

theorem val_take_succ (b : Int) (xs : List Int) (j : Nat) (h : j < xs.length) : val b (xs.take (j + 1)) = val b (xs.take j) + b ^ j * xs[j]?.getD 0 := by
  rw [List.take_add_one, val_append, List.getElem?_eq_getElem h]
  simp [val, List.length_take, Nat.min_eq_left (Nat.le_of_lt h)]

theorem val_take_succ' (b : Int) (xs : List Int) (j : Nat) : val b (xs.take (j + 1)) = val b (xs.take j) + b ^ j * xs[j]?.getD 0 := by
  rcases Nat.lt_or_ge j xs.length with h | h
  · exact val_take_succ b xs j h
  · rw [List.take_of_length_le h, List.take_of_length_le (by omega), List.getElem?_eq_none h]
    simp

theorem take_set_succ (xs : List Int) (j : Nat) (v : Int) (h : j < xs.length) : (xs.set j v).take (j + 1) = xs.take j ++ [v] := by
  rw [List.take_add_one, List.getElem?_set_self h, List.take_set_of_le (Nat.le_refl j)]
  rfl

/-- A list by its first places and the others. -/
theorem val_split (b : Int) (xs : List Int) (j : Nat) (h : j ≤ xs.length) : val b xs = val b (xs.take j) + b ^ j * val b (xs.drop j) := by
  have e := val_append b (xs.take j) (xs.drop j)
  rw [List.take_append_drop, List.length_take, Nat.min_eq_left h] at e
  exact e

theorem val_drop (b : Int) (xs : List Int) (j : Nat) (h : j < xs.length) : val b (xs.drop j) = xs[j]?.getD 0 + b * val b (xs.drop (j + 1)) := by
  rw [List.drop_eq_getElem_cons h]
  simp [val, List.getElem?_eq_getElem h]

/-! norm -/
theorem norm_stop : ∀ (xs : List Int) (k : Nat), k ≤ xs.length → (∀ j, k ≤ j → xs[j]?.getD 0 = 0) → (k = 0 ∨ xs[k - 1]?.getD 0 ≠ 0) → norm xs = xs.take k
  | [], k, h, _, _ => by simp [norm]
  | x :: xs, 0, _, hz, _ => by
    have ih := norm_stop xs 0 (Nat.zero_le _) (fun j _ => by simpa using hz (j + 1) (by omega)) (.inl rfl)
    have hx : x = 0 := by simpa using hz 0 (by omega)
    simp [norm, ih, hx]
  | x :: xs, 1, _, hz, hs => by
    have ih := norm_stop xs 0 (Nat.zero_le _) (fun j _ => by simpa using hz (j + 1) (by omega)) (.inl rfl)
    have hx : x ≠ 0 := by simpa using hs
    simp [norm, ih, hx]
  | x :: xs, k + 2, h, hz, hs => by
    have ih := norm_stop xs (k + 1) (by simpa using h) (fun j hj => by simpa using hz (j + 1) (by omega)) (.inr (by simpa using hs))
    have hne : norm xs ≠ [] := by
      rw [ih]
      intro e
      have := congrArg List.length e
      rw [List.length_take] at this
      simp only [List.length_cons, List.length_nil] at this h
      omega
    rw [norm, if_neg (fun e : norm xs = [] ∧ x = 0 => hne e.1), ih, List.take_succ_cons]

theorem norm_length_le : ∀ (xs : List Int), (norm xs).length ≤ xs.length
  | [] => by simp [norm]
  | x :: xs => by
    have := norm_length_le xs
    simp only [norm]
    split <;> simp <;> omega

theorem norm_take : ∀ (xs : List Int), norm xs = xs.take (norm xs).length
  | [] => by simp [norm]
  | x :: xs => by
    have := norm_take xs
    simp only [norm]
    split
    · simp
    · simp only [List.length_cons, List.take_succ_cons]
      rw [← this]

theorem norm_norm : ∀ (xs : List Int), norm (norm xs) = norm xs
  | [] => by simp [norm]
  | x :: xs => by
    have := norm_norm xs
    by_cases h : norm xs = [] ∧ x = 0
    · simp [norm, h]
    · simp only [norm, if_neg h, this]

theorem norm_dig {b : Int} {xs : List Int} (h : Dig b xs) : Dig b (norm xs) := by
  rw [norm_take]
  exact h.take _

theorem val_norm (b : Int) : ∀ (xs : List Int), val b (norm xs) = val b xs
  | [] => by simp [norm]
  | x :: xs => by
    have ih := val_norm b xs
    by_cases h : norm xs = [] ∧ x = 0
    · simp only [norm, if_pos h, val]
      rw [← ih, h.1, h.2]
      simp [val]
    · simp only [norm, if_neg h, val, ih]

theorem digs_zero (b : Nat) : digs b 0 = [] := by unfold digs; simp
theorem digs_pos (b n : Nat) (hb : 2 ≤ b) (hn : 0 < n) : digs b n = (((n % b : Nat) : Int)) :: digs b (n / b) := by
  rw [digs, dif_pos ⟨hb, hn⟩]
theorem digs_nil (b n : Nat) (hb : 2 ≤ b) : digs b n = [] ↔ n = 0 := by
  constructor
  · intro h
    rcases Nat.eq_zero_or_pos n with h0 | h0
    · exact h0
    · rw [digs_pos b n hb h0] at h
      cases h
  · rintro rfl
    exact digs_zero b

theorem dg_zero (b : Nat) : dg b 0 = [] := digs_zero b
theorem dg_nil (b : Nat) (V : Int) (hb : 2 ≤ b) (hV : 0 ≤ V) : dg b V = [] ↔ V = 0 := by
  unfold dg
  rw [digs_nil b _ hb]
  omega
theorem dg_pos (b : Nat) (V : Int) (hb : 2 ≤ b) (hV : 0 < V) : dg b V = (V % (b : Int)) :: dg b (V / (b : Int)) := by
  obtain ⟨n, rfl⟩ := Int.eq_ofNat_of_zero_le (Int.le_of_lt hV)
  unfold dg
  rw [Int.toNat_natCast, digs_pos b n hb (by omega)]
  rfl

theorem dg_dig (b : Nat) (hb : 2 ≤ b) : ∀ (n : Nat), Dig b (digs b n) := by
  intro n
  induction n using Nat.strongRecOn with
  | ind n ih =>
    rcases Nat.eq_zero_or_pos n with h0 | h0
    · subst h0
      rw [digs_zero]
      exact Dig.nil _
    · rw [digs_pos b n hb h0]
      refine Dig.cons (by omega) ?_ (ih _ (Nat.div_lt_self h0 hb))
      have := Nat.mod_lt n (show 0 < b by omega)
      omega

theorem val_digs (b : Nat) (hb : 2 ≤ b) : ∀ (n : Nat), val b (digs b n) = n := by
  intro n
  induction n using Nat.strongRecOn with
  | ind n ih =>
    rcases Nat.eq_zero_or_pos n with h0 | h0
    · subst h0
      rw [digs_zero]
      rfl
    · rw [digs_pos b n hb h0, val, ih _ (Nat.div_lt_self h0 hb)]
      have := Nat.mod_add_div n b
      rw [← Int.natCast_mul, ← Int.natCast_add, this]

theorem val_dg (b : Nat) (hb : 2 ≤ b) (V : Int) (hV : 0 ≤ V) : val b (dg b V) = V := by
  unfold dg
  rw [val_digs b hb]
  omega

/-- What is told of a list without noughts at its end is told by its number. -/
theorem norm_eq (b : Nat) (hb : 2 ≤ b) : ∀ {xs : List Int}, Dig b xs → norm xs = dg b (val b xs)
  | [], _ => by simp [norm, val, dg_zero]
  | x :: xs, h => by
    have ih := norm_eq b hb h.tail
    have hv := val_nonneg (b := b) (by omega) h.tail
    have h0 := h.head
    simp only [norm, val]
    by_cases hz : norm xs = [] ∧ x = 0
    · rw [if_pos hz]
      rw [ih, dg_nil b _ hb hv] at hz
      rw [hz.1, hz.2, Int.mul_zero]
      exact (dg_zero b).symm
    · rw [if_neg hz]
      rw [ih, dg_nil b _ hb hv] at hz
      have hbv := Int.mul_nonneg (show (0 : Int) ≤ b by omega) hv
      have hpos : 0 < x + b * val b xs := by
        rcases Int.lt_or_eq_of_le hv with h1 | h1
        · have := Int.mul_pos (show (0 : Int) < b by omega) h1
          omega
        · rw [← h1] at hz ⊢
          simp at hz
          omega
      rw [dg_pos b _ hb hpos]
      congr 1
      · rw [Int.add_mul_emod_self_left, Int.emod_eq_of_lt h0.1 h0.2]
      · rw [ih, Int.add_mul_ediv_left _ _ (show (b : Int) ≠ 0 by omega), Int.ediv_eq_zero_of_lt h0.1 h0.2, Int.zero_add]

theorem norm_dg (b : Nat) (hb : 2 ≤ b) (V : Int) : norm (dg b V) = dg b V := by
  have h := norm_eq b hb (dg_dig b hb V.toNat)
  rw [val_digs b hb] at h
  unfold dg
  rw [h]
  unfold dg
  rw [Int.toNat_natCast]

theorem norm_append_zeros (xs : List Int) (n : Nat) : norm (xs ++ List.replicate n 0) = norm xs := by
  induction xs with
  | nil =>
    induction n with
    | zero => rfl
    | succ n ih => simpa [List.replicate_succ, norm] using ih
  | cons x xs ih => simp only [List.cons_append, norm, ih]

theorem dg_length_le (b : Nat) (hb : 2 ≤ b) (n : Nat) (V : Int) (h : V < (b : Int) ^ n) : (dg b V).length ≤ n := by
  induction n generalizing V with
  | zero =>
    have : dg b V = [] := by
      unfold dg
      rw [digs_nil b _ hb]
      simp at h
      omega
    simp [this]
  | succ n ih =>
    by_cases hV : 0 < V
    · rw [dg_pos b V hb hV]
      have : V / (b : Int) < (b : Int) ^ n := by
        rw [Int.pow_succ] at h
        exact Int.ediv_lt_of_lt_mul (by omega) h
      have := ih _ this
      simp
      omega
    · have : dg b V = [] := by
        unfold dg
        rw [digs_nil b _ hb]
        omega
      simp [this]

/-- Two lists of one length with one number are one. -/
theorem val_inj {b : Int} (hb : 0 < b) : ∀ {xs ys : List Int}, Dig b xs → Dig b ys → xs.length = ys.length → val b xs = val b ys → xs = ys
  | [], [], _, _, _, _ => rfl
  | [], _ :: _, _, _, h, _ => by simp at h
  | _ :: _, [], _, _, h, _ => by simp at h
  | x :: xs, y :: ys, hx, hy, hl, hv => by
    simp only [val] at hv
    have h1 := hx.head
    have h2 := hy.head
    have e : x = y := by
      have := congrArg (· % b) hv
      simp only [Int.add_mul_emod_self_left, Int.emod_eq_of_lt h1.1 h1.2, Int.emod_eq_of_lt h2.1 h2.2] at this
      exact this
    subst e
    have e2 : val b xs = val b ys := by
      have : b * val b xs = b * val b ys := by omega
      exact Int.eq_of_mul_eq_mul_left (by omega) this
    rw [val_inj hb hx.tail hy.tail (by simpa using hl) e2]

end Go.Proofs.YtoimhjcpeifegaaGreatDoor

/- A region that draws its order, by an invariant: each operation once, not each order. -/
namespace Go.Proofs.YtoimhjcpeifegaaGreatDoor
open Go Go.RowKit

section
variable {P : Program} {ops : Array Oper} {Q : Exit → Act → World → Prop} {md : Region.Mode}

/-- How many have not come up. -/
def unlisted (l : Array Bool) : Nat := l.toList.countP (fun b => !b)

theorem unlisted_set (l : Array Bool) (i : Nat) (h : l.getD i true = false) : unlisted l = unlisted (l.setIfInBounds i true) + 1 := by
  have hi : i < l.size := by
    rcases Nat.lt_or_ge i l.size with h1 | h1
    · exact h1
    · rw [Array.getD_eq_getD_getElem?, Array.getElem?_eq_none h1] at h; cases h
  have hv : l.toList[i]'(by simpa using hi) = false := by
    rw [Array.getD_eq_getD_getElem?, Array.getElem?_eq_getElem hi] at h
    simpa using h
  have hpos : 0 < l.toList.countP (fun b => !b) := by
    rw [List.countP_pos_iff]
    exact ⟨_, List.getElem_mem (by simpa using hi), by rw [hv]; rfl⟩
  unfold unlisted
  rw [Array.toList_setIfInBounds, List.countP_set (by simpa using hi), hv]
  simp only [Bool.not_false, Bool.not_true, if_true, Bool.false_eq_true, if_false, Nat.add_zero]
  omega

/-- A LAW OF ALL ORDERS BY AN INVARIANT: I says what holds when just the operations in l have come up; it is shown once for each operation, not once for each order. It leads to the state `full`. -/
theorem wpAny_inv (full : Array Bool) (I : Array Bool → Act → World → Prop)
    (hne : ∀ l a w, I l a w → l ≠ full → Region.ready md ops l ≠ [])
    (hstep : ∀ l a w i, I l a w → l ≠ full → i ∈ Region.ready md ops l → wpOp P ops Q i (I (l.setIfInBounds i true)) a w)
    (hfull : ∀ a w, I full a w → wpAny P md ops Q (unlisted full) full a w) :
    ∀ (fuel : Nat) (l : Array Bool) (a : Act) (w : World), unlisted l = fuel → I l a w → wpAny P md ops Q fuel l a w := by
  intro fuel
  induction fuel with
  | zero =>
    intro l a w hf hI
    by_cases h : l = full
    · subst h; rw [← hf]; exact hfull a w hI
    · exfalso
      obtain ⟨i, hi⟩ := List.exists_mem_of_ne_nil _ (hne l a w hI h)
      have := unlisted_set l i (mem_ready.1 hi).1
      omega
  | succ fuel ih =>
    intro l a w hf hI
    by_cases h : l = full
    · subst h; rw [← hf]; exact hfull a w hI
    · refine ⟨fun e => absurd e (hne l a w hI h), fun i hi => ?_⟩
      have hu := unlisted_set l i (mem_ready.1 hi).1
      exact wpOp_mono (fun a' w' h' => ih _ a' w' (by omega) h') (hstep l a w i hI h hi)

theorem least_of (p : Nat → Prop) (h : ∃ i, p i) : ∃ i, p i ∧ ∀ j, j < i → ¬ p j := by
  obtain ⟨i, hi⟩ := h
  induction i using Nat.strongRecOn with
  | ind i ih =>
    by_cases h : ∃ j, j < i ∧ p j
    · obtain ⟨j, h1, h2⟩ := h
      exact ih j h1 h2
    · exact ⟨i, hi, fun j hj hp => h ⟨j, hj, hp⟩⟩

/-- The first m operations look back alone; each later one waits for all of them. -/
def reach (md : Region.Mode) (ops : Array Oper) : Nat → Nat → Nat → Bool
  | 0, _, _ => false
  | f + 1, i, j => match ops[i]? with
    | none => false
    | some o => o.after.any fun e => Region.binds md e && (e.on == j || reach md ops f e.on j)
def coreOk (md : Region.Mode) (ops : Array Oper) (m : Nat) : Bool :=
  decide (m ≤ ops.size) && (List.range ops.size).all fun i => match ops[i]? with
    | none => false
    | some o => if i < m then o.after.all (fun e => decide (e.on < i)) else (List.range m).all fun j => reach md ops (m + 1) i j
def coreFull (n m : Nat) : Array Bool := ((List.range n).map fun i => decide (i < m)).toArray

/-- What holds in the middle of the first m operations. -/
structure Mid (md : Region.Mode) (ops : Array Oper) (m n : Nat) (dst : Nat → Tmp) (al : Nat → Bool) (p : Nat → Value → World → Prop) (base : Act) (w0 : World) (l : Array Bool) (a : Act) (w : World) : Prop where
  size : l.size = n
  late : ∀ j, m ≤ j → j < n → l.getD j true = false
  closed : ∀ j o, ops[j]? = some o → l.getD j false = true → ∀ e ∈ o.after, Region.binds md e = true → l.getD e.on false = true
  defers : a.defers = base.defers
  tsize : a.tmps.size = base.tmps.size
  rest : ∀ s, (∀ i, i < m → dst i ≠ s) → a.tmps.getD s undef = base.tmps.getD s undef
  fact : ∀ i, i < m → l.getD i false = true → p i (a.tmps.getD (dst i) undef) w
  apart : ∀ i j, i < m → j < m → i ≠ j → al i = true → al j = true → l.getD i false = true → l.getD j false = true → a.tmps.getD (dst i) undef ≠ a.tmps.getD (dst j) undef
  below : Below w0.heap.size w0 w

theorem getD_put {t : Array Value} {d s : Nat} {v : Value} (hd : d < t.size) : (t.setIfInBounds d v).getD s undef = if d = s then v else t.getD s undef := by
  rw [Array.getD_eq_getD_getElem?, Array.getD_eq_getD_getElem?, Array.getElem?_setIfInBounds]
  by_cases h : d = s
  · subst h; simp [hd]
  · rw [if_neg h, if_neg h]

theorem reach_listed {l : Array Bool} (hc : ∀ j o, ops[j]? = some o → l.getD j false = true → ∀ e ∈ o.after, Region.binds md e = true → l.getD e.on false = true) :
    ∀ (f i j : Nat) (o : Oper), ops[i]? = some o → (∀ e ∈ o.after, Region.binds md e = true → l.getD e.on false = true) → reach md ops f i j = true → l.getD j false = true := by
  intro f
  induction f with
  | zero => intro i j o _ _ h; cases h
  | succ f ih =>
    intro i j o ho hd h
    unfold reach at h
    rw [ho] at h
    obtain ⟨e, he, hb⟩ := Array.any_eq_true'.1 h
    simp only [Bool.and_eq_true, Bool.or_eq_true, beq_iff_eq] at hb
    have hl := hd e he hb.1
    rcases hb.2 with h2 | h2
    · rw [← h2]; exact hl
    · cases ho2 : ops[e.on]? with
      | none => cases f <;> simp [reach, ho2] at h2
      | some o2 => exact ih e.on j o2 ho2 (fun e2 he2 hb2 => hc e.on o2 ho2 hl e2 he2 hb2) h2

theorem wpAny_core (m : Nat) (hc : coreOk md ops m = true) (dst : Nat → Tmp) (al : Nat → Bool) (p : Nat → Value → World → Prop) (base : Act) (w0 : World)
    (hst : ∀ i v w w', p i v w → Below w.heap.size w w' → p i v w')
    (hdst : ∀ i j, i < m → j < m → dst i = dst j → i = j) (hdb : ∀ i, i < m → dst i < base.tmps.size)
    (hop : ∀ i o, i < m → ops[i]? = some o → ∀ a w, a.defers = base.defers → a.tmps.size = base.tmps.size → (∀ s, (∀ j, j < m → dst j ≠ s) → a.tmps.getD s undef = base.tmps.getD s undef) → Below w0.heap.size w0 w →
      (∀ e ∈ o.after, Region.binds md e = true → p e.on (a.tmps.getD (dst e.on) undef) w) →
      wpOp P ops Q i (fun a' w' => ∃ v, a' = a.put (some (dst i)) v ∧ p i v w' ∧ Below w.heap.size w w' ∧ (al i = true → ∀ j, j < m → al j = true → ∀ u, p j u w → v ≠ u)) a w)
    (hfull : ∀ a w, Mid md ops m ops.size dst al p base w0 (coreFull ops.size m) a w → wpAny P md ops Q (unlisted (coreFull ops.size m)) (coreFull ops.size m) a w)
    (hB : Below w0.heap.size w0 w0) (w : World) (hw : Below w0.heap.size w0 w) :
    wpAny P md ops Q ops.size (Array.replicate ops.size false) base w := by
  unfold coreOk at hc
  rw [Bool.and_eq_true, decide_eq_true_eq, List.all_eq_true] at hc
  obtain ⟨hm, hc⟩ := hc
  have key : ∀ l a w, Mid md ops m ops.size dst al p base w0 l a w → (∀ i, i < m → l.getD i false = true) → l = coreFull ops.size m := by
    intro l a w h hall
    apply Array.ext
    · rw [h.size]; simp [coreFull]
    · intro i h1 h2
      have hi : i < ops.size := by rw [← h.size]; exact h1
      have e : (coreFull ops.size m)[i] = decide (i < m) := by simp [coreFull]
      rw [e]
      by_cases him : i < m
      · have := hall i him
        rw [Array.getD_eq_getD_getElem?, Array.getElem?_eq_getElem h1] at this
        rw [decide_eq_true him]
        simpa using this
      · have := h.late i (by omega) hi
        rw [Array.getD_eq_getD_getElem?, Array.getElem?_eq_getElem h1] at this
        rw [decide_eq_false him]
        simpa using this
  refine wpAny_inv (coreFull ops.size m) (Mid md ops m ops.size dst al p base w0) ?_ ?_ hfull ops.size _ base w ?_ ?_
  · intro l a w h hl
    by_cases hall : ∀ i, i < m → l.getD i false = true
    · exact absurd (key l a w h hall) hl
    · have hex : ∃ i, i < m ∧ l.getD i false ≠ true := by
        simpa [Classical.not_forall] using hall
      obtain ⟨i, ⟨hi, hne⟩, hmin⟩ : ∃ i, (i < m ∧ l.getD i false ≠ true) ∧ ∀ j, j < i → ¬ (j < m ∧ l.getD j false ≠ true) := by
        exact least_of _ hex
      have hisz : i < ops.size := by omega
      have hoi := hc i (List.mem_range.2 hisz)
      rw [Array.getElem?_eq_getElem hisz] at hoi
      simp only [hi, if_true] at hoi
      have hmem : i ∈ Region.ready md ops l := mem_ready.2 ⟨by
          have hl2 : i < l.size := by rw [h.size]; exact hisz
          rw [Array.getD_eq_getD_getElem?, Array.getElem?_eq_getElem hl2] at hne ⊢
          simpa using hne, ops[i], Array.getElem?_eq_getElem hisz, fun e he _ => by
          have h1 := Array.all_eq_true_iff_forall_mem.1 hoi e he
          have h2 : e.on < i := by simpa using h1
          have h3 := hmin e.on h2
          by_cases h4 : l.getD e.on false = true
          · exact h4
          · exact absurd ⟨by omega, h4⟩ h3⟩
      intro e
      rw [e] at hmem
      cases hmem
  · intro l a w i h hl hi
    obtain ⟨hun, o, ho, hdeps⟩ := mem_ready.1 hi
    have hisz : i < ops.size := by
      rcases Nat.lt_or_ge i ops.size with h1 | h1
      · exact h1
      · rw [Array.getElem?_eq_none h1] at ho; cases ho
    have hoi := hc i (List.mem_range.2 hisz)
    rw [ho] at hoi
    by_cases him : i < m
    · simp only [him, if_true] at hoi
      have hback : ∀ e ∈ o.after, e.on < i := fun e he => by simpa using Array.all_eq_true_iff_forall_mem.1 hoi e he
      refine wpOp_mono ?_ (hop i o him ho a w h.defers h.tsize h.rest h.below fun e he hb => h.fact e.on (by have := hback e he; omega) (hdeps e he hb))
      rintro a' w' ⟨v, rfl, hp, hbel, hap⟩
      have hds : dst i < a.tmps.size := by rw [h.tsize]; exact hdb i him
      have hput : ∀ s, (a.put (some (dst i)) v).tmps.getD s undef = if dst i = s then v else a.tmps.getD s undef := fun s => getD_put hds
      have hlset : ∀ j b, j < ops.size → (l.setIfInBounds i true).getD j b = if i = j then true else l.getD j b := fun j b hj => by
        have hil : i < l.size := by rw [h.size]; exact hisz
        rw [Array.getD_eq_getD_getElem?, Array.getD_eq_getD_getElem?, Array.getElem?_setIfInBounds]
        by_cases e : i = j
        · subst e; simp [hil]
        · rw [if_neg e, if_neg e]
      have hbw : Below w0.heap.size w0 w' := ⟨hbel.os.trans h.below.os, hbel.tape.trans h.below.tape, hbel.output.trans h.below.output, Nat.le_trans h.below.size hbel.size, fun k hk => (hbel.block k (Nat.lt_of_lt_of_le hk h.below.size)).trans (h.below.block k hk)⟩
      have hmono : ∀ j, l.getD j false = true → (l.setIfInBounds i true).getD j false = true := fun j hj => by
        have hil : i < l.size := by rw [h.size]; exact hisz
        rw [Array.getD_eq_getD_getElem?] at hj ⊢
        rw [Array.getElem?_setIfInBounds]
        by_cases e : i = j
        · subst e; simp [hil]
        · rw [if_neg e]; exact hj
      refine ⟨by rw [Array.size_setIfInBounds]; exact h.size, ?_, ?_, h.defers, ?_, ?_, ?_, ?_, hbw⟩
      · intro j hj1 hj2
        rw [hlset j true hj2, if_neg (by omega)]
        exact h.late j hj1 hj2
      · intro j o2 ho2 hlj e he hb
        refine hmono _ ?_
        by_cases e1 : i = j
        · subst e1
          rw [ho] at ho2
          injection ho2 with ho2
          subst ho2
          exact hdeps e he hb
        · have hj2 : j < ops.size := by
            rcases Nat.lt_or_ge j ops.size with h1 | h1
            · exact h1
            · rw [Array.getElem?_eq_none h1] at ho2; cases ho2
          rw [hlset j false hj2, if_neg e1] at hlj
          exact h.closed j o2 ho2 hlj e he hb
      · show (a.tmps.setIfInBounds (dst i) v).size = _
        rw [Array.size_setIfInBounds]
        exact h.tsize
      · intro s hs
        rw [hput, if_neg (hs i him)]
        exact h.rest s hs
      · intro j hj hlj
        rw [hlset j false (by omega)] at hlj
        rw [hput]
        by_cases e : i = j
        · subst e; rw [if_pos rfl]; exact hp
        · rw [if_neg e] at hlj
          rw [if_neg (fun e2 => e (hdst i j him hj e2))]
          exact hst j _ _ _ (h.fact j hj hlj) hbel
      · intro j k hj hk hjk aj ak lj lk
        rw [hlset j false (by omega)] at lj
        rw [hlset k false (by omega)] at lk
        rw [hput, hput]
        by_cases e1 : i = j
        · subst e1
          rw [if_pos rfl, if_neg (fun e2 => hjk (hdst i k him hk e2))]
          rw [if_neg hjk] at lk
          exact hap aj k hk ak _ (h.fact k hk lk)
        · rw [if_neg (fun e2 => e1 (hdst i j him hj e2))]
          rw [if_neg e1] at lj
          by_cases e2 : i = k
          · subst e2
            rw [if_pos rfl]
            exact fun e3 => hap ak j hj aj _ (h.fact j hj lj) e3.symm
          · rw [if_neg (fun e3 => e2 (hdst i k him hk e3))]
            rw [if_neg e2] at lk
            exact h.apart j k hj hk hjk aj ak lj lk
    · exfalso
      simp only [him, if_false] at hoi
      refine hl (key l a w h fun j hj => ?_)
      have h1 := List.all_eq_true.1 hoi j (List.mem_range.2 hj)
      exact reach_listed h.closed (m + 1) i j o ho hdeps h1
  · unfold unlisted
    simp [List.countP_replicate]
  · exact ⟨by simp, fun j _ hj => by simp [hj], (fun j o ho hl => by
      rcases Nat.lt_or_ge j ops.size with h1 | h1
      · simp [Array.getD_eq_getD_getElem?, h1] at hl
      · rw [Array.getElem?_eq_none h1] at ho
        cases ho), rfl, rfl, fun _ _ => rfl, fun i hi hl => by
      have : i < ops.size := by omega
      simp [Array.getD_eq_getD_getElem?, this] at hl, fun i j hi hj _ _ _ hl => by
      have : i < ops.size := by omega
      simp [Array.getD_eq_getD_getElem?, this] at hl, hw⟩

theorem fold_put (base : Array Value) (dst : Nat → Tmp) (v : Nat → Value) (m : Nat) :
    ((List.range m).foldl (fun t i => t.setIfInBounds (dst i) (v i)) base).size = base.size := by
  induction m with
  | zero => rfl
  | succ m ih => rw [List.range_succ, List.foldl_append, List.foldl_cons, List.foldl_nil, Array.size_setIfInBounds, ih]
theorem fold_rest (base : Array Value) (dst : Nat → Tmp) (v : Nat → Value) (m s : Nat) (h : ∀ i, i < m → dst i ≠ s) :
    ((List.range m).foldl (fun t i => t.setIfInBounds (dst i) (v i)) base).getD s undef = base.getD s undef := by
  induction m with
  | zero => rfl
  | succ m ih =>
    rw [List.range_succ, List.foldl_append, List.foldl_cons, List.foldl_nil, Array.getD_eq_getD_getElem?, Array.getElem?_setIfInBounds, if_neg (h m (by omega)), ← Array.getD_eq_getD_getElem?, ih fun i hi => h i (by omega)]
theorem fold_at (base : Array Value) (dst : Nat → Tmp) (v : Nat → Value) (m i : Nat) (hi : i < m) (hdst : ∀ i j, i < m → j < m → dst i = dst j → i = j) (hb : dst i < base.size) :
    ((List.range m).foldl (fun t i => t.setIfInBounds (dst i) (v i)) base).getD (dst i) undef = v i := by
  induction m with
  | zero => omega
  | succ m ih =>
    rw [List.range_succ, List.foldl_append, List.foldl_cons, List.foldl_nil, Array.getD_eq_getD_getElem?, Array.getElem?_setIfInBounds]
    by_cases e : m = i
    · subst e
      rw [if_pos rfl, if_pos (by rw [fold_put]; exact hb)]
      rfl
    · rw [if_neg (fun e2 => e (hdst m i (by omega) hi e2)), ← Array.getD_eq_getD_getElem?, ih (by omega) fun i j h1 h2 => hdst i j (by omega) (by omega)]
/-- The state at the end of the first m operations, written out. -/
theorem Mid.act {m n : Nat} {dst : Nat → Tmp} {al : Nat → Bool} {p : Nat → Value → World → Prop} {base : Act} {w0 : World} {l : Array Bool} {a : Act} {w : World} (h : Mid md ops m n dst al p base w0 l a w)
    (hdst : ∀ i j, i < m → j < m → dst i = dst j → i = j) (hdb : ∀ i, i < m → dst i < base.tmps.size) :
    a = ⟨(List.range m).foldl (fun t i => t.setIfInBounds (dst i) (a.tmps.getD (dst i) undef)) base.tmps, base.defers⟩ := by
  have ht : a.tmps = (List.range m).foldl (fun t i => t.setIfInBounds (dst i) (a.tmps.getD (dst i) undef)) base.tmps := by
    apply Array.ext
    · rw [fold_put, h.tsize]
    · intro s h1 h2
      have e1 : a.tmps[s] = a.tmps.getD s undef := by rw [Array.getD_eq_getD_getElem?, Array.getElem?_eq_getElem h1]; rfl
      have e2 : ∀ t : Array Value, ∀ hs : s < t.size, t[s] = t.getD s undef := fun t hs => by rw [Array.getD_eq_getD_getElem?, Array.getElem?_eq_getElem hs]; rfl
      rw [e1, e2]
      by_cases hs : ∃ i, i < m ∧ dst i = s
      · obtain ⟨i, hi, rfl⟩ := hs
        rw [fold_at base.tmps dst (fun i => a.tmps.getD (dst i) undef) m i hi hdst (hdb i hi)]
      · rw [h.rest s fun i hi e => hs ⟨i, hi, e⟩, fold_rest _ _ _ _ _ fun i hi e => hs ⟨i, hi, e⟩]
  cases a with
  | mk t d =>
    have hd := h.defers
    simp only at ht hd
    rw [hd]
    congr 1

section
variable {K : Act → World → Prop} {i : Nat} {o : Oper} {a : Act} {w : World}
theorem op_run {v : Value} {w' : World} (ho : ops[i]? = some o) (hg : o.guard = none) (hr : (execOp a.eval o).run P w = .ok (.value v) w') (h : K (a.put o.dst v) w') : wpOp P ops Q i K a w := by
  unfold wpOp
  simp only [ho]
  rw [if_pos (by simp [Region.wanted, hg])]
  refine .inl ?_
  unfold Oper.wp
  rw [hr]
  exact h
theorem op_skip {w' : World} (ho : ops[i]? = some o) (hg : o.guard = none) (hr : (execOp a.eval o).run P w = .ok .skip w') (h : K (a.put o.dst undef) w') : wpOp P ops Q i K a w := by
  unfold wpOp
  simp only [ho]
  rw [if_pos (by simp [Region.wanted, hg])]
  refine .inl ?_
  unfold Oper.wp
  rw [hr]
  exact h
theorem op_call (F : FuncId) (args : Array Value) (ho : ops[i]? = some o) (hg : o.guard = none) (hr : (execOp a.eval o).run P w = .ok (.enter F args) w)
    (hC : Calls P F args w (fun e w' => ∃ v, e = .returned v ∧ K (a.put o.dst v) w')) : wpOp P ops Q i K a w := by
  unfold wpOp
  simp only [ho]
  rw [if_pos (by simp [Region.wanted, hg])]
  refine .inl ?_
  unfold Oper.wp
  rw [hr]
  refine Calls.mono hC ?_
  rintro e w' ⟨v, rfl, h⟩
  exact h
end
end
end Go.Proofs.YtoimhjcpeifegaaGreatDoor

/- Which of two numbers is the greater one, as an int. -/
namespace Go.Proofs.YtoimhjcpeifegaaGreatDoor
/-- -1, 0 or 1. -/
def cmpI (x y : Int) : Int := if x < y then -1 else if y < x then 1 else 0
theorem cmpI_lt {x y : Int} (h : x < y) : cmpI x y = -1 := by unfold cmpI; rw [if_pos h]
theorem cmpI_gt {x y : Int} (h : y < x) : cmpI x y = 1 := by unfold cmpI; rw [if_neg (by omega), if_pos h]
theorem cmpI_eq {x y : Int} (h : x = y) : cmpI x y = 0 := by unfold cmpI; rw [if_neg (by omega), if_neg (by omega)]
theorem cmpI_le {x y : Int} (h : x ≤ y) : cmpI x y ≤ 0 := by unfold cmpI; rw [if_neg (show ¬ y < x by omega)]; split <;> omega
theorem cmpI_ge {x y : Int} (h : y ≤ x) : 0 ≤ cmpI x y := by unfold cmpI; rw [if_neg (show ¬ x < y by omega)]; split <;> omega

end Go.Proofs.YtoimhjcpeifegaaGreatDoor
