/- Contracts of functions, and plain facts, part 1. -/
import Derived.Orders
import Derived.OrdersHeld
import Derived.Below
set_option linter.unusedVariables false
set_option linter.unusedSimpArgs false
/- Numbers as lists of digits in a base, the lowest first: plain facts on lists, no program. -/
namespace Go.Proofs.YtoimhjcpeifegaaGreatDoor

/-- All members are digits of base b. -/
def Dig (b : Int) (xs : List Int) : Prop := ∀ x ∈ xs, 0 ≤ x ∧ x < b

def val (b : Int) : List Int → Int
  | [] => 0
  | x :: xs => x + b * val b xs

def norm : List Int → List Int
  | [] => []
  | x :: xs => if norm xs = [] ∧ x = 0 then [] else x :: norm xs

def digs (b n : Nat) : List Int :=
  if h : 2 ≤ b ∧ 0 < n then (((n % b : Nat) : Int)) :: digs b (n / b) else []
termination_by n
decreasing_by exact Nat.div_lt_self h.2 h.1

/-- The digits of a number, none 0 at the end. -/
def dg (b : Nat) (V : Int) : List Int := digs b V.toNat

theorem pow_pos' {b : Int} (hb : 0 < b) (n : Nat) : 0 < b ^ n := Int.pow_pos hb
theorem pow_le {b : Int} (hb : 1 ≤ b) {m n : Nat} (h : m ≤ n) : b ^ m ≤ b ^ n := by
  obtain ⟨d, rfl⟩ : ∃ d, n = m + d := ⟨n - m, by omega⟩
  rw [Int.pow_add]
  have h1 : 1 ≤ b ^ d := by
    have := pow_pos' (show 0 < b by omega) d
    omega
  have h2 : 0 ≤ b ^ m := Int.le_of_lt (Int.pow_pos (by omega))
  have := Int.mul_le_mul_of_nonneg_left h1 h2
  omega

theorem Dig.nil (b : Int) : Dig b [] := fun x h => by cases h
theorem Dig.head {b x : Int} {xs : List Int} (h : Dig b (x :: xs)) : 0 ≤ x ∧ x < b := h x (by simp)
theorem Dig.tail {b x : Int} {xs : List Int} (h : Dig b (x :: xs)) : Dig b xs := fun y hy => h y (by simp [hy])
theorem Dig.cons {b x : Int} {xs : List Int} (h0 : 0 ≤ x) (h1 : x < b) (h : Dig b xs) : Dig b (x :: xs) := fun y hy => by
  rcases List.mem_cons.1 hy with rfl | hy
  · exact ⟨h0, h1⟩
  · exact h y hy
theorem Dig.take {b : Int} {xs : List Int} (h : Dig b xs) (k : Nat) : Dig b (xs.take k) := fun y hy => h y (List.mem_of_mem_take hy)
theorem Dig.drop {b : Int} {xs : List Int} (h : Dig b xs) (k : Nat) : Dig b (xs.drop k) := fun y hy => h y (List.mem_of_mem_drop hy)
theorem Dig.append {b : Int} {xs ys : List Int} (h : Dig b xs) (k : Dig b ys) : Dig b (xs ++ ys) := fun y hy => by
  rcases List.mem_append.1 hy with hy | hy
  · exact h y hy
  · exact k y hy
theorem Dig.get {b : Int} {xs : List Int} (h : Dig b xs) (hb : 0 < b) (j : Nat) : 0 ≤ xs[j]?.getD 0 ∧ xs[j]?.getD 0 < b := by
  rcases Nat.lt_or_ge j xs.length with hj | hj
  · rw [List.getElem?_eq_getElem hj]
    exact h _ (List.getElem_mem hj)
  · rw [List.getElem?_eq_none hj]
    exact ⟨Int.le_refl _, hb⟩
theorem Dig.replicate (b : Int) (hb : 0 < b) (n : Nat) : Dig b (List.replicate n 0) := fun y hy => by
  rw [List.mem_replicate] at hy
  omega
theorem Dig.set {b : Int} {xs : List Int} (h : Dig b xs) {x : Int} (h0 : 0 ≤ x) (h1 : x < b) (j : Nat) : Dig b (xs.set j x) := fun y hy => by
  rcases List.mem_or_eq_of_mem_set hy with hy | rfl
  · exact h y hy
  · exact ⟨h0, h1⟩

theorem val_nonneg {b : Int} (hb : 0 < b) : ∀ {xs : List Int}, Dig b xs → 0 ≤ val b xs
  | [], _ => Int.le_refl _
  | x :: xs, h => by
    have h0 := h.head
    have := Int.mul_nonneg (Int.le_of_lt hb) (val_nonneg hb h.tail)
    simp only [val]
    omega

theorem val_append (b : Int) (xs ys : List Int) : val b (xs ++ ys) = val b xs + b ^ xs.length * val b ys := by
  induction xs with
  | nil => simp [val]
  | cons x xs ih =>
    simp only [List.cons_append, val, ih, List.length_cons, Int.pow_succ]
    grind

theorem val_lt {b : Int} (hb : 0 < b) : ∀ {xs : List Int}, Dig b xs → val b xs < b ^ xs.length
  | [], _ => by simp [val]
  | x :: xs, h => by
    have h0 := h.head
    have ih := val_lt hb h.tail
    simp only [val, List.length_cons, Int.pow_succ]
    have : b * (val b xs + 1) ≤ b * b ^ xs.length := Int.mul_le_mul_of_nonneg_left (by omega) (Int.le_of_lt hb)
    have e : b ^ xs.length * b = b * b ^ xs.length := Int.mul_comm _ _
    rw [Int.mul_add] at this
    omega

theorem val_replicate (b : Int) (n : Nat) : val b (List.replicate n 0) = 0 := by
  induction n with
  | zero => rfl
  | succ n ih => simp [List.replicate_succ, val, ih]

theorem val_take_succ (b : Int) (xs : List Int) (j : Nat) (h : j < xs.length) : val b (xs.take (j + 1)) = val b (xs.take j) + b ^ j * xs[j]?.getD 0 := by
  rw [List.take_add_one, val_append, List.getElem?_eq_getElem h]
  simp [val, List.length_take, Nat.min_eq_left (Nat.le_of_lt h)]

theorem val_take_succ' (b : Int) (xs : List Int) (j : Nat) : val b (xs.take (j + 1)) = val b (xs.take j) + b ^ j * xs[j]?.getD 0 := by
  rcases Nat.lt_or_ge j xs.length with h | h
  · exact val_take_succ b xs j h
  · rw [List.take_of_length_le h, List.take_of_length_le (by omega), List.getElem?_eq_none h]
    simp

theorem take_set_succ (xs : List Int) (j : Nat) (v : Int) (h : j < xs.length) : (xs.set j v).take (j + 1) = xs.take j ++ [v] := by
  rw [List.take_add_one, List.getElem?_set_self h, List.take_set_of_le (Nat.le_refl j)]
  rfl

/-- A list by its first places and the others. -/
theorem val_split (b : Int) (xs : List Int) (j : Nat) (h : j ≤ xs.length) : val b xs = val b (xs.take j) + b ^ j * val b (xs.drop j) := by
  have e := val_append b (xs.take j) (xs.drop j)
  rw [List.take_append_drop, List.length_take, Nat.min_eq_left h] at e
  exact e

theorem val_drop (b : Int) (xs : List Int) (j : Nat) (h : j < xs.length) : val b (xs.drop j) = xs[j]?.getD 0 + b * val b (xs.drop (j + 1)) := by
  rw [List.drop_eq_getElem_cons h]
  simp [val, List.getElem?_eq_getElem h]

theorem norm_stop : ∀ (xs : List Int) (k : Nat), k ≤ xs.length → (∀ j, k ≤ j → xs[j]?.getD 0 = 0) → (k = 0 ∨ xs[k - 1]?.getD 0 ≠ 0) → norm xs = xs.take k
  | [], k, h, _, _ => by simp [norm]
  | x :: xs, 0, _, hz, _ => by
    have ih := norm_stop xs 0 (Nat.zero_le _) (fun j _ => by simpa using hz (j + 1) (by omega)) (.inl rfl)
    have hx : x = 0 := by simpa using hz 0 (by omega)
    simp [norm, ih, hx]
  | x :: xs, 1, _, hz, hs => by
    have ih := norm_stop xs 0 (Nat.zero_le _) (fun j _ => by simpa using hz (j + 1) (by omega)) (.inl rfl)
    have hx : x ≠ 0 := by simpa using hs
    simp [norm, ih, hx]
  | x :: xs, k + 2, h, hz, hs => by
    have ih := norm_stop xs (k + 1) (by simpa using h) (fun j hj => by simpa using hz (j + 1) (by omega)) (.inr (by simpa using hs))
    have hne : norm xs ≠ [] := by
      rw [ih]
      intro e
      have := congrArg List.length e
      rw [List.length_take] at this
      simp only [List.length_cons, List.length_nil] at this h
      omega
    rw [norm, if_neg (fun e : norm xs = [] ∧ x = 0 => hne e.1), ih, List.take_succ_cons]

theorem norm_length_le : ∀ (xs : List Int), (norm xs).length ≤ xs.length
  | [] => by simp [norm]
  | x :: xs => by
    have := norm_length_le xs
    simp only [norm]
    split <;> simp <;> omega

theorem norm_take : ∀ (xs : List Int), norm xs = xs.take (norm xs).length
  | [] => by simp [norm]
  | x :: xs => by
    have := norm_take xs
    simp only [norm]
    split
    · simp
    · simp only [List.length_cons, List.take_succ_cons]
      rw [← this]

theorem norm_norm : ∀ (xs : List Int), norm (norm xs) = norm xs
  | [] => by simp [norm]
  | x :: xs => by
    have := norm_norm xs
    by_cases h : norm xs = [] ∧ x = 0
    · simp [norm, h]
    · simp only [norm, if_neg h, this]

theorem norm_dig {b : Int} {xs : List Int} (h : Dig b xs) : Dig b (norm xs) := by
  rw [norm_take]
  exact h.take _

theorem val_norm (b : Int) : ∀ (xs : List Int), val b (norm xs) = val b xs
  | [] => by simp [norm]
  | x :: xs => by
    have ih := val_norm b xs
    by_cases h : norm xs = [] ∧ x = 0
    · simp only [norm, if_pos h, val]
      rw [← ih, h.1, h.2]
      simp [val]
    · simp only [norm, if_neg h, val, ih]

theorem digs_zero (b : Nat) : digs b 0 = [] := by unfold digs; simp
theorem digs_pos (b n : Nat) (hb : 2 ≤ b) (hn : 0 < n) : digs b n = (((n % b : Nat) : Int)) :: digs b (n / b) := by
  rw [digs, dif_pos ⟨hb, hn⟩]
theorem digs_nil (b n : Nat) (hb : 2 ≤ b) : digs b n = [] ↔ n = 0 := by
  constructor
  · intro h
    rcases Nat.eq_zero_or_pos n with h0 | h0
    · exact h0
    · rw [digs_pos b n hb h0] at h
      cases h
  · rintro rfl
    exact digs_zero b

theorem dg_zero (b : Nat) : dg b 0 = [] := digs_zero b
theorem dg_nil (b : Nat) (V : Int) (hb : 2 ≤ b) (hV : 0 ≤ V) : dg b V = [] ↔ V = 0 := by
  unfold dg
  rw [digs_nil b _ hb]
  omega
theorem dg_pos (b : Nat) (V : Int) (hb : 2 ≤ b) (hV : 0 < V) : dg b V = (V % (b : Int)) :: dg b (V / (b : Int)) := by
  obtain ⟨n, rfl⟩ := Int.eq_ofNat_of_zero_le (Int.le_of_lt hV)
  unfold dg
  rw [Int.toNat_natCast, digs_pos b n hb (by omega)]
  rfl

theorem dg_dig (b : Nat) (hb : 2 ≤ b) : ∀ (n : Nat), Dig b (digs b n) := by
  intro n
  induction n using Nat.strongRecOn with
  | ind n ih =>
    rcases Nat.eq_zero_or_pos n with h0 | h0
    · subst h0
      rw [digs_zero]
      exact Dig.nil _
    · rw [digs_pos b n hb h0]
      refine Dig.cons (by omega) ?_ (ih _ (Nat.div_lt_self h0 hb))
      have := Nat.mod_lt n (show 0 < b by omega)
      omega

theorem val_digs (b : Nat) (hb : 2 ≤ b) : ∀ (n : Nat), val b (digs b n) = n := by
  intro n
  induction n using Nat.strongRecOn with
  | ind n ih =>
    rcases Nat.eq_zero_or_pos n with h0 | h0
    · subst h0
      rw [digs_zero]
      rfl
    · rw [digs_pos b n hb h0, val, ih _ (Nat.div_lt_self h0 hb)]
      have := Nat.mod_add_div n b
      rw [← Int.natCast_mul, ← Int.natCast_add, this]

theorem val_dg (b : Nat) (hb : 2 ≤ b) (V : Int) (hV : 0 ≤ V) : val b (dg b V) = V := by
  unfold dg
  rw [val_digs b hb]
  omega

/-- What is told of a list without noughts at its end is told by its number. -/
theorem norm_eq (b : Nat) (hb : 2 ≤ b) : ∀ {xs : List Int}, Dig b xs → norm xs = dg b (val b xs)
  | [], _ => by simp [norm, val, dg_zero]
  | x :: xs, h => by
    have ih := norm_eq b hb h.tail
    have hv := val_nonneg (b := b) (by omega) h.tail
    have h0 := h.head
    simp only [norm, val]
    by_cases hz : norm xs = [] ∧ x = 0
    · rw [if_pos hz]
      rw [ih, dg_nil b _ hb hv] at hz
      rw [hz.1, hz.2, Int.mul_zero]
      exact (dg_zero b).symm
    · rw [if_neg hz]
      rw [ih, dg_nil b _ hb hv] at hz
      have hbv := Int.mul_nonneg (show (0 : Int) ≤ b by omega) hv
      have hpos : 0 < x + b * val b xs := by
        rcases Int.lt_or_eq_of_le hv with h1 | h1
        · have := Int.mul_pos (show (0 : Int) < b by omega) h1
          omega
        · rw [← h1] at hz ⊢
          simp at hz
          omega
      rw [dg_pos b _ hb hpos]
      congr 1
      · rw [Int.add_mul_emod_self_left, Int.emod_eq_of_lt h0.1 h0.2]
      · rw [ih, Int.add_mul_ediv_left _ _ (show (b : Int) ≠ 0 by omega), Int.ediv_eq_zero_of_lt h0.1 h0.2, Int.zero_add]

theorem norm_dg (b : Nat) (hb : 2 ≤ b) (V : Int) : norm (dg b V) = dg b V := by
  have h := norm_eq b hb (dg_dig b hb V.toNat)
  rw [val_digs b hb] at h
  unfold dg
  rw [h]
  unfold dg
  rw [Int.toNat_natCast]

theorem norm_append_zeros (xs : List Int) (n : Nat) : norm (xs ++ List.replicate n 0) = norm xs := by
  induction xs with
  | nil =>
    induction n with
    | zero => rfl
    | succ n ih => simpa [List.replicate_succ, norm] using ih
  | cons x xs ih => simp only [List.cons_append, norm, ih]

theorem dg_length_le (b : Nat) (hb : 2 ≤ b) (n : Nat) (V : Int) (h : V < (b : Int) ^ n) : (dg b V).length ≤ n := by
  induction n generalizing V with
  | zero =>
    have : dg b V = [] := by
      unfold dg
      rw [digs_nil b _ hb]
      simp at h
      omega
    simp [this]
  | succ n ih =>
    by_cases hV : 0 < V
    · rw [dg_pos b V hb hV]
      have : V / (b : Int) < (b : Int) ^ n := by
        rw [Int.pow_succ] at h
        exact Int.ediv_lt_of_lt_mul (by omega) h
      have := ih _ this
      simp
      omega
    · have : dg b V = [] := by
        unfold dg
        rw [digs_nil b _ hb]
        omega
      simp [this]

end Go.Proofs.YtoimhjcpeifegaaGreatDoor


/- A region that draws its order, by an invariant: each operation once, not each order. -/
namespace Go.Proofs.YtoimhjcpeifegaaGreatDoor
open Go Go.RowKit

section
variable {P : Program} {ops : Array Oper} {Q : Exit → Act → World → Prop} {md : Region.Mode}

/-- How many have not come up. -/
def unlisted (l : Array Bool) : Nat := l.toList.countP (fun b => !b)

theorem unlisted_set (l : Array Bool) (i : Nat) (h : l.getD i true = false) : unlisted l = unlisted (l.setIfInBounds i true) + 1 := by
  have hi : i < l.size := by
    rcases Nat.lt_or_ge i l.size with h1 | h1
    · exact h1
    · rw [Array.getD_eq_getD_getElem?, Array.getElem?_eq_none h1] at h; cases h
  have hv : l.toList[i]'(by simpa using hi) = false := by
    rw [Array.getD_eq_getD_getElem?, Array.getElem?_eq_getElem hi] at h
    simpa using h
  have hpos : 0 < l.toList.countP (fun b => !b) := by
    rw [List.countP_pos_iff]
    exact ⟨_, List.getElem_mem (by simpa using hi), by rw [hv]; rfl⟩
  unfold unlisted
  rw [Array.toList_setIfInBounds, List.countP_set (by simpa using hi), hv]
  simp only [Bool.not_false, Bool.not_true, if_true, Bool.false_eq_true, if_false, Nat.add_zero]
  omega

/-- A LAW OF ALL ORDERS BY AN INVARIANT: I says what holds when just the operations in l have come up; it is shown once for each operation, not once for each order. It leads to the state `full`. -/
theorem wpAny_inv (full : Array Bool) (I : Array Bool → Act → World → Prop)
    (hne : ∀ l a w, I l a w → l ≠ full → Region.ready md ops l ≠ [])
    (hstep : ∀ l a w i, I l a w → l ≠ full → i ∈ Region.ready md ops l → wpOp P ops Q i (I (l.setIfInBounds i true)) a w)
    (hfull : ∀ a w, I full a w → wpAny P md ops Q (unlisted full) full a w) :
    ∀ (fuel : Nat) (l : Array Bool) (a : Act) (w : World), unlisted l = fuel → I l a w → wpAny P md ops Q fuel l a w := by
  intro fuel
  induction fuel with
  | zero =>
    intro l a w hf hI
    by_cases h : l = full
    · subst h; rw [← hf]; exact hfull a w hI
    · exfalso
      obtain ⟨i, hi⟩ := List.exists_mem_of_ne_nil _ (hne l a w hI h)
      have := unlisted_set l i (mem_ready.1 hi).1
      omega
  | succ fuel ih =>
    intro l a w hf hI
    by_cases h : l = full
    · subst h; rw [← hf]; exact hfull a w hI
    · refine ⟨fun e => absurd e (hne l a w hI h), fun i hi => ?_⟩
      have hu := unlisted_set l i (mem_ready.1 hi).1
      exact wpOp_mono (fun a' w' h' => ih _ a' w' (by omega) h') (hstep l a w i hI h hi)

theorem least_of (p : Nat → Prop) (h : ∃ i, p i) : ∃ i, p i ∧ ∀ j, j < i → ¬ p j := by
  obtain ⟨i, hi⟩ := h
  induction i using Nat.strongRecOn with
  | ind i ih =>
    by_cases h : ∃ j, j < i ∧ p j
    · obtain ⟨j, h1, h2⟩ := h
      exact ih j h1 h2
    · exact ⟨i, hi, fun j hj hp => h ⟨j, hj, hp⟩⟩

def coreFull (n m : Nat) : Array Bool := ((List.range n).map fun i => decide (i < m)).toArray

theorem getD_put {t : Array Value} {d s : Nat} {v : Value} (hd : d < t.size) : (t.setIfInBounds d v).getD s undef = if d = s then v else t.getD s undef := by
  rw [Array.getD_eq_getD_getElem?, Array.getD_eq_getD_getElem?, Array.getElem?_setIfInBounds]
  by_cases h : d = s
  · subst h; simp [hd]
  · rw [if_neg h, if_neg h]

section
variable {K : Act → World → Prop} {i : Nat} {o : Oper} {a : Act} {w : World}
end
end
end Go.Proofs.YtoimhjcpeifegaaGreatDoor


/- Which of two numbers is the greater one, as an int. -/
namespace Go.Proofs.YtoimhjcpeifegaaGreatDoor
/-- -1, 0 or 1. -/
def cmpI (x y : Int) : Int := if x < y then -1 else if y < x then 1 else 0
theorem cmpI_lt {x y : Int} (h : x < y) : cmpI x y = -1 := by unfold cmpI; rw [if_pos h]
theorem cmpI_gt {x y : Int} (h : y < x) : cmpI x y = 1 := by unfold cmpI; rw [if_neg (by omega), if_pos h]
theorem cmpI_eq {x y : Int} (h : x = y) : cmpI x y = 0 := by unfold cmpI; rw [if_neg (by omega), if_neg (by omega)]
end Go.Proofs.YtoimhjcpeifegaaGreatDoor

