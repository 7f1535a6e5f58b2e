/- Contracts of functions, and plain facts, part 1. -/
import Derived.Orders
import Derived.OrdersHeld
import Derived.Below
import Derived.WalkKit
import Derived.Lib.Hide
import Derived.Deep.Draws
import Derived.Deep.OwnRows
import Derived.Deep.AppendLies
import Derived.Maps.AppendAt
import Derived.Laws.CopyOwn
import Derived.KernelRfl
import Derived.Deep.QuietTactic
import Derived.BigQuiet
import Derived.SizedLaws
import Derived.ChangeSlices
import Derived.OpenShut
set_option linter.unusedVariables false
set_option linter.unusedSimpArgs false
/- Numbers as lists of digits in a base, the lowest first: plain facts on lists, no program. -/
namespace Go.Proofs.YtoimhjcpeifegaaGreatDoor

/-- All members are digits of base b. -/
def Dig (b : Int) (xs : List Int) : Prop := ∀ x ∈ xs, 0 ≤ x ∧ x < b

def val (b : Int) : List Int → Int
  | [] => 0
  | x :: xs => x + b * val b xs

def norm : List Int → List Int
  | [] => []
  | x :: xs => if norm xs = [] ∧ x = 0 then [] else x :: norm xs

def digs (b n : Nat) : List Int :=
  if h : 2 ≤ b ∧ 0 < n then (((n % b : Nat) : Int)) :: digs b (n / b) else []
termination_by n
decreasing_by exact Nat.div_lt_self h.2 h.1

/-- The digits of a number, none 0 at the end. -/
def dg (b : Nat) (V : Int) : List Int := digs b V.toNat

theorem pow_pos' {b : Int} (hb : 0 < b) (n : Nat) : 0 < b ^ n := Int.pow_pos hb
theorem pow_le {b : Int} (hb : 1 ≤ b) {m n : Nat} (h : m ≤ n) : b ^ m ≤ b ^ n := by
  obtain ⟨d, rfl⟩ : ∃ d, n = m + d := ⟨n - m, by omega⟩
  rw [Int.pow_add]
  have h1 : 1 ≤ b ^ d := by
    have := pow_pos' (show 0 < b by omega) d
    omega
  have h2 : 0 ≤ b ^ m := Int.le_of_lt (Int.pow_pos (by omega))
  have := Int.mul_le_mul_of_nonneg_left h1 h2
  omega

theorem Dig.nil (b : Int) : Dig b [] := fun x h => by cases h
theorem Dig.head {b x : Int} {xs : List Int} (h : Dig b (x :: xs)) : 0 ≤ x ∧ x < b := h x (by simp)
theorem Dig.tail {b x : Int} {xs : List Int} (h : Dig b (x :: xs)) : Dig b xs := fun y hy => h y (by simp [hy])
theorem Dig.cons {b x : Int} {xs : List Int} (h0 : 0 ≤ x) (h1 : x < b) (h : Dig b xs) : Dig b (x :: xs) := fun y hy => by
  rcases List.mem_cons.1 hy with rfl | hy
  · exact ⟨h0, h1⟩
  · exact h y hy
theorem Dig.take {b : Int} {xs : List Int} (h : Dig b xs) (k : Nat) : Dig b (xs.take k) := fun y hy => h y (List.mem_of_mem_take hy)
theorem Dig.drop {b : Int} {xs : List Int} (h : Dig b xs) (k : Nat) : Dig b (xs.drop k) := fun y hy => h y (List.mem_of_mem_drop hy)
theorem Dig.append {b : Int} {xs ys : List Int} (h : Dig b xs) (k : Dig b ys) : Dig b (xs ++ ys) := fun y hy => by
  rcases List.mem_append.1 hy with hy | hy
  · exact h y hy
  · exact k y hy
theorem Dig.get {b : Int} {xs : List Int} (h : Dig b xs) (hb : 0 < b) (j : Nat) : 0 ≤ xs[j]?.getD 0 ∧ xs[j]?.getD 0 < b := by
  rcases Nat.lt_or_ge j xs.length with hj | hj
  · rw [List.getElem?_eq_getElem hj]
    exact h _ (List.getElem_mem hj)
  · rw [List.getElem?_eq_none hj]
    exact ⟨Int.le_refl _, hb⟩
theorem Dig.replicate (b : Int) (hb : 0 < b) (n : Nat) : Dig b (List.replicate n 0) := fun y hy => by
  rw [List.mem_replicate] at hy
  omega
theorem Dig.set {b : Int} {xs : List Int} (h : Dig b xs) {x : Int} (h0 : 0 ≤ x) (h1 : x < b) (j : Nat) : Dig b (xs.set j x) := fun y hy => by
  rcases List.mem_or_eq_of_mem_set hy with hy | rfl
  · exact h y hy
  · exact ⟨h0, h1⟩

theorem val_nonneg {b : Int} (hb : 0 < b) : ∀ {xs : List Int}, Dig b xs → 0 ≤ val b xs
  | [], _ => Int.le_refl _
  | x :: xs, h => by
    have h0 := h.head
    have := Int.mul_nonneg (Int.le_of_lt hb) (val_nonneg hb h.tail)
    simp only [val]
    omega

theorem val_append (b : Int) (xs ys : List Int) : val b (xs ++ ys) = val b xs + b ^ xs.length * val b ys := by
  induction xs with
  | nil => simp [val]
  | cons x xs ih =>
    simp only [List.cons_append, val, ih, List.length_cons, Int.pow_succ]
    grind

theorem val_lt {b : Int} (hb : 0 < b) : ∀ {xs : List Int}, Dig b xs → val b xs < b ^ xs.length
  | [], _ => by simp [val]
  | x :: xs, h => by
    have h0 := h.head
    have ih := val_lt hb h.tail
    simp only [val, List.length_cons, Int.pow_succ]
    have : b * (val b xs + 1) ≤ b * b ^ xs.length := Int.mul_le_mul_of_nonneg_left (by omega) (Int.le_of_lt hb)
    have e : b ^ xs.length * b = b * b ^ xs.length := Int.mul_comm _ _
    rw [Int.mul_add] at this
    omega

theorem val_replicate (b : Int) (n : Nat) : val b (List.replicate n 0) = 0 := by
  induction n with
  | zero => rfl
  | succ n ih => simp [List.replicate_succ, val, ih]

theorem val_take_succ (b : Int) (xs : List Int) (j : Nat) (h : j < xs.length) : val b (xs.take (j + 1)) = val b (xs.take j) + b ^ j * xs[j]?.getD 0 := by
  rw [List.take_add_one, val_append, List.getElem?_eq_getElem h]
  simp [val, List.length_take, Nat.min_eq_left (Nat.le_of_lt h)]

theorem val_take_succ' (b : Int) (xs : List Int) (j : Nat) : val b (xs.take (j + 1)) = val b (xs.take j) + b ^ j * xs[j]?.getD 0 := by
  rcases Nat.lt_or_ge j xs.length with h | h
  · exact val_take_succ b xs j h
  · rw [List.take_of_length_le h, List.take_of_length_le (by omega), List.getElem?_eq_none h]
    simp

theorem take_set_succ (xs : List Int) (j : Nat) (v : Int) (h : j < xs.length) : (xs.set j v).take (j + 1) = xs.take j ++ [v] := by
  rw [List.take_add_one, List.getElem?_set_self h, List.take_set_of_le (Nat.le_refl j)]
  rfl

/-- A list by its first places and the others. -/
theorem val_split (b : Int) (xs : List Int) (j : Nat) (h : j ≤ xs.length) : val b xs = val b (xs.take j) + b ^ j * val b (xs.drop j) := by
  have e := val_append b (xs.take j) (xs.drop j)
  rw [List.take_append_drop, List.length_take, Nat.min_eq_left h] at e
  exact e

theorem val_drop (b : Int) (xs : List Int) (j : Nat) (h : j < xs.length) : val b (xs.drop j) = xs[j]?.getD 0 + b * val b (xs.drop (j + 1)) := by
  rw [List.drop_eq_getElem_cons h]
  simp [val, List.getElem?_eq_getElem h]

theorem norm_stop : ∀ (xs : List Int) (k : Nat), k ≤ xs.length → (∀ j, k ≤ j → xs[j]?.getD 0 = 0) → (k = 0 ∨ xs[k - 1]?.getD 0 ≠ 0) → norm xs = xs.take k
  | [], k, h, _, _ => by simp [norm]
  | x :: xs, 0, _, hz, _ => by
    have ih := norm_stop xs 0 (Nat.zero_le _) (fun j _ => by simpa using hz (j + 1) (by omega)) (.inl rfl)
    have hx : x = 0 := by simpa using hz 0 (by omega)
    simp [norm, ih, hx]
  | x :: xs, 1, _, hz, hs => by
    have ih := norm_stop xs 0 (Nat.zero_le _) (fun j _ => by simpa using hz (j + 1) (by omega)) (.inl rfl)
    have hx : x ≠ 0 := by simpa using hs
    simp [norm, ih, hx]
  | x :: xs, k + 2, h, hz, hs => by
    have ih := norm_stop xs (k + 1) (by simpa using h) (fun j hj => by simpa using hz (j + 1) (by omega)) (.inr (by simpa using hs))
    have hne : norm xs ≠ [] := by
      rw [ih]
      intro e
      have := congrArg List.length e
      rw [List.length_take] at this
      simp only [List.length_cons, List.length_nil] at this h
      omega
    rw [norm, if_neg (fun e : norm xs = [] ∧ x = 0 => hne e.1), ih, List.take_succ_cons]

theorem norm_length_le : ∀ (xs : List Int), (norm xs).length ≤ xs.length
  | [] => by simp [norm]
  | x :: xs => by
    have := norm_length_le xs
    simp only [norm]
    split <;> simp <;> omega

theorem norm_take : ∀ (xs : List Int), norm xs = xs.take (norm xs).length
  | [] => by simp [norm]
  | x :: xs => by
    have := norm_take xs
    simp only [norm]
    split
    · simp
    · simp only [List.length_cons, List.take_succ_cons]
      rw [← this]

theorem norm_norm : ∀ (xs : List Int), norm (norm xs) = norm xs
  | [] => by simp [norm]
  | x :: xs => by
    have := norm_norm xs
    by_cases h : norm xs = [] ∧ x = 0
    · simp [norm, h]
    · simp only [norm, if_neg h, this]

theorem norm_dig {b : Int} {xs : List Int} (h : Dig b xs) : Dig b (norm xs) := by
  rw [norm_take]
  exact h.take _

theorem val_norm (b : Int) : ∀ (xs : List Int), val b (norm xs) = val b xs
  | [] => by simp [norm]
  | x :: xs => by
    have ih := val_norm b xs
    by_cases h : norm xs = [] ∧ x = 0
    · simp only [norm, if_pos h, val]
      rw [← ih, h.1, h.2]
      simp [val]
    · simp only [norm, if_neg h, val, ih]

theorem digs_zero (b : Nat) : digs b 0 = [] := by unfold digs; simp
theorem digs_pos (b n : Nat) (hb : 2 ≤ b) (hn : 0 < n) : digs b n = (((n % b : Nat) : Int)) :: digs b (n / b) := by
  rw [digs, dif_pos ⟨hb, hn⟩]
theorem digs_nil (b n : Nat) (hb : 2 ≤ b) : digs b n = [] ↔ n = 0 := by
  constructor
  · intro h
    rcases Nat.eq_zero_or_pos n with h0 | h0
    · exact h0
    · rw [digs_pos b n hb h0] at h
      cases h
  · rintro rfl
    exact digs_zero b

theorem dg_zero (b : Nat) : dg b 0 = [] := digs_zero b
theorem dg_nil (b : Nat) (V : Int) (hb : 2 ≤ b) (hV : 0 ≤ V) : dg b V = [] ↔ V = 0 := by
  unfold dg
  rw [digs_nil b _ hb]
  omega
theorem dg_pos (b : Nat) (V : Int) (hb : 2 ≤ b) (hV : 0 < V) : dg b V = (V % (b : Int)) :: dg b (V / (b : Int)) := by
  obtain ⟨n, rfl⟩ := Int.eq_ofNat_of_zero_le (Int.le_of_lt hV)
  unfold dg
  rw [Int.toNat_natCast, digs_pos b n hb (by omega)]
  rfl

theorem dg_dig (b : Nat) (hb : 2 ≤ b) : ∀ (n : Nat), Dig b (digs b n) := by
  intro n
  induction n using Nat.strongRecOn with
  | ind n ih =>
    rcases Nat.eq_zero_or_pos n with h0 | h0
    · subst h0
      rw [digs_zero]
      exact Dig.nil _
    · rw [digs_pos b n hb h0]
      refine Dig.cons (by omega) ?_ (ih _ (Nat.div_lt_self h0 hb))
      have := Nat.mod_lt n (show 0 < b by omega)
      omega

theorem val_digs (b : Nat) (hb : 2 ≤ b) : ∀ (n : Nat), val b (digs b n) = n := by
  intro n
  induction n using Nat.strongRecOn with
  | ind n ih =>
    rcases Nat.eq_zero_or_pos n with h0 | h0
    · subst h0
      rw [digs_zero]
      rfl
    · rw [digs_pos b n hb h0, val, ih _ (Nat.div_lt_self h0 hb)]
      have := Nat.mod_add_div n b
      rw [← Int.natCast_mul, ← Int.natCast_add, this]

theorem val_dg (b : Nat) (hb : 2 ≤ b) (V : Int) (hV : 0 ≤ V) : val b (dg b V) = V := by
  unfold dg
  rw [val_digs b hb]
  omega

/-- What is told of a list without noughts at its end is told by its number. -/
theorem norm_eq (b : Nat) (hb : 2 ≤ b) : ∀ {xs : List Int}, Dig b xs → norm xs = dg b (val b xs)
  | [], _ => by simp [norm, val, dg_zero]
  | x :: xs, h => by
    have ih := norm_eq b hb h.tail
    have hv := val_nonneg (b := b) (by omega) h.tail
    have h0 := h.head
    simp only [norm, val]
    by_cases hz : norm xs = [] ∧ x = 0
    · rw [if_pos hz]
      rw [ih, dg_nil b _ hb hv] at hz
      rw [hz.1, hz.2, Int.mul_zero]
      exact (dg_zero b).symm
    · rw [if_neg hz]
      rw [ih, dg_nil b _ hb hv] at hz
      have hbv := Int.mul_nonneg (show (0 : Int) ≤ b by omega) hv
      have hpos : 0 < x + b * val b xs := by
        rcases Int.lt_or_eq_of_le hv with h1 | h1
        · have := Int.mul_pos (show (0 : Int) < b by omega) h1
          omega
        · rw [← h1] at hz ⊢
          simp at hz
          omega
      rw [dg_pos b _ hb hpos]
      congr 1
      · rw [Int.add_mul_emod_self_left, Int.emod_eq_of_lt h0.1 h0.2]
      · rw [ih, Int.add_mul_ediv_left _ _ (show (b : Int) ≠ 0 by omega), Int.ediv_eq_zero_of_lt h0.1 h0.2, Int.zero_add]

theorem norm_dg (b : Nat) (hb : 2 ≤ b) (V : Int) : norm (dg b V) = dg b V := by
  have h := norm_eq b hb (dg_dig b hb V.toNat)
  rw [val_digs b hb] at h
  unfold dg
  rw [h]
  unfold dg
  rw [Int.toNat_natCast]

theorem norm_append_zeros (xs : List Int) (n : Nat) : norm (xs ++ List.replicate n 0) = norm xs := by
  induction xs with
  | nil =>
    induction n with
    | zero => rfl
    | succ n ih => simpa [List.replicate_succ, norm] using ih
  | cons x xs ih => simp only [List.cons_append, norm, ih]

theorem dg_length_le (b : Nat) (hb : 2 ≤ b) (n : Nat) (V : Int) (h : V < (b : Int) ^ n) : (dg b V).length ≤ n := by
  induction n generalizing V with
  | zero =>
    have : dg b V = [] := by
      unfold dg
      rw [digs_nil b _ hb]
      simp at h
      omega
    simp [this]
  | succ n ih =>
    by_cases hV : 0 < V
    · rw [dg_pos b V hb hV]
      have : V / (b : Int) < (b : Int) ^ n := by
        rw [Int.pow_succ] at h
        exact Int.ediv_lt_of_lt_mul (by omega) h
      have := ih _ this
      simp
      omega
    · have : dg b V = [] := by
        unfold dg
        rw [digs_nil b _ hb]
        omega
      simp [this]

end Go.Proofs.YtoimhjcpeifegaaGreatDoor


/- A region that draws its order, by an invariant: each operation once, not each order. -/
namespace Go.Proofs.YtoimhjcpeifegaaGreatDoor
open Go Go.RowKit

section
variable {P : Program} {ops : Array Oper} {Q : Exit → Act → World → Prop} {md : Region.Mode}

/-- How many have not come up. -/
def unlisted (l : Array Bool) : Nat := l.toList.countP (fun b => !b)

theorem unlisted_set (l : Array Bool) (i : Nat) (h : l.getD i true = false) : unlisted l = unlisted (l.setIfInBounds i true) + 1 := by
  have hi : i < l.size := by
    rcases Nat.lt_or_ge i l.size with h1 | h1
    · exact h1
    · rw [Array.getD_eq_getD_getElem?, Array.getElem?_eq_none h1] at h; cases h
  have hv : l.toList[i]'(by simpa using hi) = false := by
    rw [Array.getD_eq_getD_getElem?, Array.getElem?_eq_getElem hi] at h
    simpa using h
  have hpos : 0 < l.toList.countP (fun b => !b) := by
    rw [List.countP_pos_iff]
    exact ⟨_, List.getElem_mem (by simpa using hi), by rw [hv]; rfl⟩
  unfold unlisted
  rw [Array.toList_setIfInBounds, List.countP_set (by simpa using hi), hv]
  simp only [Bool.not_false, Bool.not_true, if_true, Bool.false_eq_true, if_false, Nat.add_zero]
  omega

/-- A LAW OF ALL ORDERS BY AN INVARIANT: I says what holds when just the operations in l have come up; it is shown once for each operation, not once for each order. It leads to the state `full`. -/
theorem wpAny_inv (full : Array Bool) (I : Array Bool → Act → World → Prop)
    (hne : ∀ l a w, I l a w → l ≠ full → Region.ready md ops l ≠ [])
    (hstep : ∀ l a w i, I l a w → l ≠ full → i ∈ Region.ready md ops l → wpOp P ops Q i (I (l.setIfInBounds i true)) a w)
    (hfull : ∀ a w, I full a w → wpAny P md ops Q (unlisted full) full a w) :
    ∀ (fuel : Nat) (l : Array Bool) (a : Act) (w : World), unlisted l = fuel → I l a w → wpAny P md ops Q fuel l a w := by
  intro fuel
  induction fuel with
  | zero =>
    intro l a w hf hI
    by_cases h : l = full
    · subst h; rw [← hf]; exact hfull a w hI
    · exfalso
      obtain ⟨i, hi⟩ := List.exists_mem_of_ne_nil _ (hne l a w hI h)
      have := unlisted_set l i (mem_ready.1 hi).1
      omega
  | succ fuel ih =>
    intro l a w hf hI
    by_cases h : l = full
    · subst h; rw [← hf]; exact hfull a w hI
    · refine ⟨fun e => absurd e (hne l a w hI h), fun i hi => ?_⟩
      have hu := unlisted_set l i (mem_ready.1 hi).1
      exact wpOp_mono (fun a' w' h' => ih _ a' w' (by omega) h') (hstep l a w i hI h hi)

theorem least_of (p : Nat → Prop) (h : ∃ i, p i) : ∃ i, p i ∧ ∀ j, j < i → ¬ p j := by
  obtain ⟨i, hi⟩ := h
  induction i using Nat.strongRecOn with
  | ind i ih =>
    by_cases h : ∃ j, j < i ∧ p j
    · obtain ⟨j, h1, h2⟩ := h
      exact ih j h1 h2
    · exact ⟨i, hi, fun j hj hp => h ⟨j, hj, hp⟩⟩

def coreFull (n m : Nat) : Array Bool := ((List.range n).map fun i => decide (i < m)).toArray

theorem getD_put {t : Array Value} {d s : Nat} {v : Value} (hd : d < t.size) : (t.setIfInBounds d v).getD s undef = if d = s then v else t.getD s undef := by
  rw [Array.getD_eq_getD_getElem?, Array.getD_eq_getD_getElem?, Array.getElem?_setIfInBounds]
  by_cases h : d = s
  · subst h; simp [hd]
  · rw [if_neg h, if_neg h]

section
variable {K : Act → World → Prop} {i : Nat} {o : Oper} {a : Act} {w : World}
end
end
end Go.Proofs.YtoimhjcpeifegaaGreatDoor


/- Which of two numbers is the greater one, as an int. -/
namespace Go.Proofs.YtoimhjcpeifegaaGreatDoor
/-- -1, 0 or 1. -/
def cmpI (x y : Int) : Int := if x < y then -1 else if y < x then 1 else 0
theorem cmpI_lt {x y : Int} (h : x < y) : cmpI x y = -1 := by unfold cmpI; rw [if_pos h]
theorem cmpI_gt {x y : Int} (h : y < x) : cmpI x y = 1 := by unfold cmpI; rw [if_neg (by omega), if_pos h]
theorem cmpI_eq {x y : Int} (h : x = y) : cmpI x y = 0 := by unfold cmpI; rw [if_neg (by omega), if_neg (by omega)]
end Go.Proofs.YtoimhjcpeifegaaGreatDoor


/- Slices of whole numbers in memory: what is read, what the call owns; nothing here speaks of a program. -/
namespace Go.Proofs.YtoimhjcpeifegaaGreatDoor
open Go.RowKit

/-- Slice (ad, n) reads as the list xs, numbers of kind k. -/
structure Rds (w : World) (k : IntKind) (ad : Option Addr) (n : Nat) (xs : List Int) : Prop where
  len : xs.length = n
  cell : ∀ j, j < n → ∃ a, ad = some a ∧ w.cell? (a.add j) = some (.int k (xs[j]?.getD 0))

theorem Rds.lt {w : World} {k : IntKind} {ad : Option Addr} {n : Nat} {xs : List Int} (h : Rds w k ad n xs) (hn : 0 < n) :
    ∃ a, ad = some a ∧ a.block < w.heap.size := by
  obtain ⟨a, rfl, hc⟩ := h.cell 0 hn
  refine ⟨a, rfl, ?_⟩
  have := World.block_lt_of_cell? w _ hc
  simpa [Addr.add] using this

theorem Rds.below {w w1 : World} {k : IntKind} {ad : Option Addr} {n : Nat} {xs : List Int} (h : Rds w k ad n xs) {B : Nat} (hb : Below B w w1) (hB : w.heap.size ≤ B) : Rds w1 k ad n xs :=
  ⟨h.len, fun j hj => by
    obtain ⟨a, e, hc⟩ := h.cell j hj
    refine ⟨a, e, ?_⟩
    rw [← hc]
    exact hb.cell (Nat.lt_of_lt_of_le (World.block_lt_of_cell? w _ hc) hB)⟩

theorem Rds.drewN {w : World} {k : IntKind} {ad : Option Addr} {n : Nat} {xs : List Int} (h : Rds w k ad n xs) (q : Nat) : Rds (w.drewN q) k ad n xs := ⟨h.len, h.cell⟩

/-- A callee that leaves the world alone, in a region that draws. -/
theorem quiet_left {P : Program} {f : FuncId} {args : Array Value} {w : World} {n : Nat} {v : Value}
    (h : Calls P f args (w.drewN n) fun e w' => e = .returned v ∧ w.drewN n = w') : Calls P f args (w.drewN n) fun e w'' => e = .returned v ∧ ∃ m, w'' = w.drewN m :=
  h.mono fun _ _ ⟨he, hm⟩ => ⟨he, n, hm.symm⟩

theorem Rds.take {w : World} {k : IntKind} {ad : Option Addr} {n : Nat} {xs : List Int} (h : Rds w k ad n xs) (m : Nat) (hm : m ≤ n) : Rds w k ad m (xs.take m) := by
  refine ⟨by rw [List.length_take, h.len]; omega, fun j hj => ?_⟩
  obtain ⟨a, e, hc⟩ := h.cell j (by omega)
  refine ⟨a, e, ?_⟩
  rw [hc, List.getElem?_take_of_lt hj]

theorem Rds.norm {w : World} {k : IntKind} {ad : Option Addr} {n : Nat} {xs : List Int} (h : Rds w k ad n xs) : Rds w k ad (norm xs).length (norm xs) := by
  have := h.take (Go.Proofs.YtoimhjcpeifegaaGreatDoor.norm xs).length (by rw [← h.len]; exact norm_length_le _)
  rwa [← norm_take] at this

theorem Rds.nil (w : World) (k : IntKind) (ad : Option Addr) : Rds w k ad 0 [] := ⟨rfl, fun j hj => by omega⟩

theorem add_add (a : Addr) (i j : Nat) : (a.add i).add j = a.add (i + j) := by
  unfold Addr.add
  by_cases h1 : i = 0 <;> by_cases h2 : j = 0 <;> simp [h1, h2, Nat.add_assoc]

/-- xs[m:] of a slice that is read. -/
theorem Rds.drop {w : World} {k : IntKind} {ad : Option Addr} {n : Nat} {xs : List Int} (h : Rds w k ad n xs) (m : Nat) (hm : m ≤ n) : Rds w k (ad.map (·.add m)) (n - m) (xs.drop m) := by
  refine ⟨by rw [List.length_drop, h.len], fun j hj => ?_⟩
  obtain ⟨a, rfl, hc⟩ := h.cell (m + j) (by omega)
  refine ⟨a.add m, rfl, ?_⟩
  rw [add_add, hc, List.getElem?_drop]

theorem plain_add (g j : Nat) : (⟨g, 0, none⟩ : Addr).add j = ⟨g, j, none⟩ := by unfold Addr.add; split <;> simp_all

/-- Numbers as cells. -/
def nums (k : IntKind) (xs : List Int) : List Value := xs.map fun x => .int k x
theorem nums_length (k : IntKind) (xs : List Int) : (nums k xs).length = xs.length := by simp [nums]
theorem nums_get (k : IntKind) (xs : List Int) (j : Nat) (h : j < xs.length) : (nums k xs)[j]? = some (.int k (xs[j]?.getD 0)) := by
  simp [nums, List.getElem?_eq_getElem h]

/-- Block b is a row of numbers of the call's own, known whole. -/
def Blk (w : World) (b : Nat) (t : TypeId) (k : IntKind) (ys : List Int) : Prop := w.heap[b]? = some (.cells (nums k ys).toArray t (0, 0))

theorem Blk.lt {w : World} {b : Nat} {t : TypeId} {k : IntKind} {ys : List Int} (h : Blk w b t k ys) : b < w.heap.size := (Array.getElem?_eq_some_iff.1 h).1
theorem Blk.cell {w : World} {b : Nat} {t : TypeId} {k : IntKind} {ys : List Int} (h : Blk w b t k ys) (j : Nat) (hj : j < ys.length) :
    w.cell? ⟨b, j, none⟩ = some (.int k (ys[j]?.getD 0)) := by
  have e := nums_get k ys j hj
  unfold Blk at h
  simp [World.cell?, h, e]
theorem Blk.free {w : World} {b : Nat} {t : TypeId} {k : IntKind} {ys : List Int} (h : Blk w b t k ys) (j : Nat) : w.frozen? ⟨b, j, none⟩ = false := by
  unfold Blk at h
  simp [World.frozen?, h]
theorem Blk.drewN {w : World} {b : Nat} {t : TypeId} {k : IntKind} {ys : List Int} (h : Blk w b t k ys) (n : Nat) : Blk (w.drewN n) b t k ys := h
theorem Blk.drew {w : World} {b : Nat} {t : TypeId} {k : IntKind} {ys : List Int} (h : Blk w b t k ys) : Blk w.drew b t k ys := h
theorem Blk.set {w : World} {b : Nat} {t : TypeId} {k : IntKind} {ys : List Int} (h : Blk w b t k ys) (j : Nat) (x : Int) : Blk (w.setCell ⟨b, j, none⟩ (.int k x)) b t k (ys.set j x) := by
  unfold Blk at *
  simp only [World.setCell, Array.getElem?_modify, h, if_true, Option.map_some, Option.isSome_none]
  simp [nums, List.map_set]
theorem Blk.below {w w1 : World} {b : Nat} {t : TypeId} {k : IntKind} {ys : List Int} (h : Blk w b t k ys) {B : Nat} (hb : Below B w w1) (hB : b < B) : Blk w1 b t k ys := (hb.block b hB).trans h
theorem Blk.rds {w : World} {b : Nat} {t : TypeId} {k : IntKind} {ys : List Int} (h : Blk w b t k ys) : Rds w k (some ⟨b, 0, none⟩) ys.length ys :=
  ⟨rfl, fun j hj => ⟨_, rfl, by rw [plain_add]; exact h.cell j hj⟩⟩

/-- make([]T, n): the row behind it. -/
theorem make_rule {P : Program} (t e : TypeId) (k : IntKind) (bytes : Nat) (ht : P.underlying t = some (.slice e)) (hinfo : (P.info? e).map (fun i => (i.zero, i.size, i.bytes)) = some (some (.int k 0), 1, bytes)) (hb0 : 0 < bytes)
    (m : Nat) (hn : m * bytes ≤ 281474976710656) (N : Int) (hN : N = (m : Int)) :
    ∀ W : World, (Instr.makeSlice t (.int .i64 N) (.int .i64 N)).run P W = .ok (.slice (some ⟨W.heap.size, 0, none⟩) m m) (W.alloc (.cells (nums k (List.replicate m 0)).toArray e)) := by
  intro W
  subst hN
  have hm : m ≤ 281474976710656 := Nat.le_trans (Nat.le_mul_of_pos_right _ hb0) hn
  have h := run_make_row' (P := P) t e (.int k 0) bytes ht hinfo rfl .i64 .i64 m (by rw [Nat.mul_comm]; exact hn) (by omega) W
  rw [h]
  congr 4
  simp [madeCells, nums, Nat.mod_one]
  apply Array.ext <;> simp

theorem Blk.made (W : World) (t : TypeId) (k : IntKind) (ys : List Int) (b : Nat) (hb : b = W.heap.size) : Blk (W.alloc (.cells (nums k ys).toArray t)) b t k ys := by
  subst hb
  exact heap_alloc_new W _

/-- What the call made and hands back: slice (ad, n, c) over memory from block B on, not shared with what was there. -/
structure Own (B : Nat) (w : World) (t : TypeId) (k : IntKind) (ad : Option Addr) (n c : Nat) (xs : List Int) : Prop where
  len : xs.length = n
  le : n ≤ c
  big : c ≤ 9223372036854775807
  row : 0 < c → ∃ b cs, ad = some ⟨b, 0, none⟩ ∧ B ≤ b ∧ w.heap[b]? = some (.cells cs t (0, 0)) ∧ c ≤ cs.size ∧ ∀ j, j < n → cs[j]? = some (.int k (xs[j]?.getD 0))

theorem Own.rds {B : Nat} {w : World} {t : TypeId} {k : IntKind} {ad : Option Addr} {n c : Nat} {xs : List Int} (h : Own B w t k ad n c xs) : Rds w k ad n xs := by
  refine ⟨h.len, fun j hj => ?_⟩
  have := h.le
  obtain ⟨b, cs, rfl, _, hh, hc, hcell⟩ := h.row (by omega)
  refine ⟨_, rfl, ?_⟩
  rw [plain_add]
  simp [World.cell?, hh, hcell j hj]

theorem Own.below {B : Nat} {w w1 : World} {t : TypeId} {k : IntKind} {ad : Option Addr} {n c : Nat} {xs : List Int} (h : Own B w t k ad n c xs) {B' : Nat} (hb : Below B' w w1) (hB : w.heap.size ≤ B') : Own B w1 t k ad n c xs :=
  ⟨h.len, h.le, h.big, fun hc => by
    obtain ⟨b, cs, e, h1, h2, h3⟩ := h.row hc
    have hlt : b < w.heap.size := (Array.getElem?_eq_some_iff.1 h2).1
    exact ⟨b, cs, e, h1, by rw [hb.block b (by omega)]; exact h2, h3⟩⟩

theorem Own.mono {B B' : Nat} {w : World} {t : TypeId} {k : IntKind} {ad : Option Addr} {n c : Nat} {xs : List Int} (h : Own B w t k ad n c xs) (hB : B' ≤ B) : Own B' w t k ad n c xs :=
  ⟨h.len, h.le, h.big, fun hc => by
    obtain ⟨b, cs, e, h1, h2⟩ := h.row hc
    exact ⟨b, cs, e, by omega, h2⟩⟩

theorem Own.nil (B : Nat) (w : World) (t : TypeId) (k : IntKind) (ad : Option Addr) : Own B w t k ad 0 0 [] := ⟨rfl, by omega, by omega, fun h => by omega⟩

/-- The same memory, fewer places. -/
theorem Own.take {B : Nat} {w : World} {t : TypeId} {k : IntKind} {ad : Option Addr} {n c : Nat} {xs : List Int} (h : Own B w t k ad n c xs) (m : Nat) (hm : m ≤ n) : Own B w t k ad m c (xs.take m) := by
  have hl := h.le
  have hn := h.len
  refine ⟨by rw [List.length_take]; omega, by omega, h.big, fun hc => ?_⟩
  obtain ⟨b, cs, e, h1, h2, h3, h4⟩ := h.row hc
  refine ⟨b, cs, e, h1, h2, h3, fun j hj => ?_⟩
  rw [h4 j (by omega), List.getElem?_take_of_lt hj]
theorem Own.norm {B : Nat} {w : World} {t : TypeId} {k : IntKind} {ad : Option Addr} {n c : Nat} {xs : List Int} (h : Own B w t k ad n c xs) : Own B w t k ad (Go.Proofs.YtoimhjcpeifegaaGreatDoor.norm xs).length c (Go.Proofs.YtoimhjcpeifegaaGreatDoor.norm xs) := by
  have := h.take (Go.Proofs.YtoimhjcpeifegaaGreatDoor.norm xs).length (by rw [← h.len]; exact norm_length_le _)
  rwa [← norm_take] at this

/-- out[:m:m] of a row of the call's own. -/
theorem Blk.own {B : Nat} {w : World} {b : Nat} {t : TypeId} {k : IntKind} {ys : List Int} (h : Blk w b t k ys) (hB : B ≤ b) (m : Nat) (hm : m ≤ ys.length) (hbig : ys.length ≤ 281474976710656) :
    Own B w t k (some ⟨b, 0, none⟩) m m (ys.take m) := by
  refine ⟨by rw [List.length_take]; omega, by omega, by omega, fun _ => ⟨b, _, rfl, hB, h, by simp [nums]; omega, fun j hj => ?_⟩⟩
  rw [List.getElem?_toArray, nums_get k ys j (by omega), List.getElem?_take_of_lt hj]

/-- A list is handed back: new memory, nothing old has turned. -/
def RetL (t : TypeId) (k : IntKind) (zs : List Int) (w : World) (e : Ending) (w' : World) : Prop :=
  ∃ ad n c, e = .returned (.slice ad n c) ∧ Own w.heap.size w' t k ad n c zs ∧ Below w.heap.size w w'

/-- The row cut to its number's digits is handed back. -/
theorem Blk.ret {w wr : World} {b : Nat} {t : TypeId} {ys : List Int} (h : Blk wr b t .u32 ys) (hB : w.heap.size ≤ b) (hbig : ys.length ≤ 281474976710656) (hd : Dig 4294967296 ys) (V : Int) (hV : val 4294967296 ys = V) (hb : Below w.heap.size w wr) :
    RetL t .u32 (dg 4294967296 V) w (.returned (.slice (some ⟨b, 0, none⟩) (Go.Proofs.YtoimhjcpeifegaaGreatDoor.norm ys).length (Go.Proofs.YtoimhjcpeifegaaGreatDoor.norm ys).length)) wr := by
  have E := norm_eq 4294967296 (by omega) hd
  have O := h.own hB (Go.Proofs.YtoimhjcpeifegaaGreatDoor.norm ys).length (norm_length_le _) hbig
  rw [← norm_take] at O
  rw [show ((4294967296 : Nat) : Int) = 4294967296 from rfl, hV] at E
  refine ⟨_, _, _, rfl, ?_, hb⟩
  rw [← E]
  exact O

theorem below_alloc {w W : World} (h : Below w.heap.size w W) (o : Obj) : Below w.heap.size w (W.alloc o) := h.alloc h.size o
theorem below_drewN {B : Nat} {w W : World} (h : Below B w W) (n : Nat) : Below B w (W.drewN n) := ⟨h.os, h.tape, h.output, h.size, h.block⟩
theorem below_drew {B : Nat} {w W : World} (h : Below B w W) : Below B w W.drew := ⟨h.os, h.tape, h.output, h.size, h.block⟩
theorem below_set {B : Nat} {w W : World} (h : Below B w W) (b j : Nat) (u : Value) (hB : B ≤ b) : Below B w (W.setCell ⟨b, j, none⟩ u) := h.setCell (p := ⟨b, j, none⟩) hB u
theorem below_then {B : Nat} {w w1 w2 : World} (h : Below B w w1) (hB : B ≤ w1.heap.size) (k : Below w1.heap.size w1 w2) : Below B w w2 :=
  h.trans ⟨k.os, k.tape, k.output, k.size, fun i hi => k.block i (Nat.lt_of_lt_of_le hi hB)⟩

theorem below_trans {w w1 w2 : World} (h : Below w.heap.size w w1) (k : Below w1.heap.size w1 w2) : Below w.heap.size w w2 := below_then h h.size k
theorem RetL.after {t : TypeId} {k : IntKind} {zs : List Int} {w w1 : World} {e : Ending} {w2 : World} (h : RetL t k zs w1 e w2) (hb : Below w.heap.size w w1) : RetL t k zs w e w2 := by
  obtain ⟨ad, n, c, e1, ho, hk⟩ := h
  exact ⟨ad, n, c, e1, ho.mono hb.size, below_trans hb hk⟩

/-- Slice (ad, n, c) is the call's own from block B on, reads as xs, and may be appended to. -/
def App (B : Nat) (w : World) (e : TypeId) (k : IntKind) (ad : Option Addr) (n c : Nat) (xs : List Int) : Prop := w.ownsRow B e 1 (.slice ad n c) n (nums k xs)

theorem App.len {B : Nat} {w : World} {e : TypeId} {k : IntKind} {ad : Option Addr} {n c : Nat} {xs : List Int} (h : App B w e k ad n c xs) : xs.length = n := by
  have := h.1
  simpa [nums] using this
theorem App.nil (B : Nat) (w : World) (e : TypeId) (k : IntKind) : App B w e k none 0 0 [] := World.ownsRow_nil w B e 1
theorem App.own {B : Nat} {w : World} {e : TypeId} {k : IntKind} {ad : Option Addr} {n c : Nat} {xs : List Int} (h : App B w e k ad n c xs) : Own B w e k ad n c xs := by
  have hl := h.len
  rcases h.2 with ⟨h1, h2⟩ | ⟨g, cap, cur, h1, h2, h3, h4, h5, h6, h7⟩
  · injection h1 with h1 h1' h1''
    subst h1 h1' h1''
    exact ⟨hl, Nat.le_refl _, by omega, fun h => by omega⟩
  · injection h1 with h1 h1' h1''
    subst h1 h1''
    refine ⟨hl, h4, by simpa [maxLen] using h5, fun _ => ⟨g, cur, rfl, h2, h3, by omega, fun j hj => ?_⟩⟩
    rw [Nat.mul_one] at h7
    have e1 := congrArg (fun l => l[j]?) h7
    simp only [List.getElem?_take_of_lt hj] at e1
    rw [← Array.getElem?_toList, e1, nums_get k xs j (by omega)]
theorem App.rds {B : Nat} {w : World} {e : TypeId} {k : IntKind} {ad : Option Addr} {n c : Nat} {xs : List Int} (h : App B w e k ad n c xs) : Rds w k ad n xs := h.own.rds
theorem App.alloc {B : Nat} {w : World} {e : TypeId} {k : IntKind} {ad : Option Addr} {n c : Nat} {xs : List Int} (h : App B w e k ad n c xs) (o : Obj) : App B (w.alloc o) e k ad n c xs := World.ownsRow.alloc h o
theorem App.below {B : Nat} {w w1 : World} {e : TypeId} {k : IntKind} {ad : Option Addr} {n c : Nat} {xs : List Int} (h : App B w e k ad n c xs) {B' : Nat} (hb : Below B' w w1) (hB : w.heap.size ≤ B') : App B w1 e k ad n c xs := by
  refine ⟨h.1, ?_⟩
  rcases h.2 with h2 | ⟨g, cap, cur, h1, h2, h3, h4⟩
  · exact .inl h2
  · exact .inr ⟨g, cap, cur, h1, h2, by rw [hb.block g (Nat.lt_of_lt_of_le (Array.getElem?_eq_some_iff.1 h3).1 hB)]; exact h3, h4⟩
theorem App.drewN {B : Nat} {w : World} {e : TypeId} {k : IntKind} {ad : Option Addr} {n c : Nat} {xs : List Int} (h : App B w e k ad n c xs) (m : Nat) : App B (w.drewN m) e k ad n c xs := h

theorem App.made (B : Nat) (W : World) (e : TypeId) (k : IntKind) (m : Nat) (hB : B ≤ W.heap.size) (hm : m ≤ 281474976710656) (b : Nat) (hb : b = W.heap.size) : App B (W.alloc (.cells (madeCells #[.int k 0] m) e)) e k (some ⟨b, 0, none⟩) 0 m [] := by
  subst hb
  exact World.ownsRow_made W _ m hB (by simp only [maxLen]; omega) (by simp [madeCells])

section
variable {P : Program} {ops : Array Oper} {rest : List Oper} {o : Oper} {a : Act} {Q : Exit → Act → World → Prop}
end

section
variable {P : Program} {ops : Array Oper} {rest : List Oper} {o : Oper} {a : Act} {Q : Exit → Act → World → Prop}
/-- copy(dst, src) into a row of the call's own, src no longer than dst: the row behind it. -/
theorem copy_law {w w0 : World} (B : Nat) (hgd : o.guard = none) (d s : Operand) (dT sT : TypeId) (ho : o.op = .call { callee := .builtin .copy, args := #[d, s], argTypes := #[dT, sT] })
    (e : TypeId) (hu : P.underlying dT = some (.slice e)) (hsz : (P.info? e).map (·.size) = some 1)
    (dp sp : Option Addr) (dLen dCap sLen sCap : Nat) (hd : a.eval d = .slice dp dLen dCap) (hs : a.eval s = .slice sp sLen sCap)
    (g off : Nat) (k : IntKind) (cur ys : List Int) (hg : Blk w g e k cur) (hr : Rds w k sp sLen ys) (hl : sLen ≤ dLen) (hpos : 0 < sLen → dp = some ⟨g, off, none⟩) (hfit : off + sLen ≤ cur.length)
    (hb : Below B w0 w) (hBg : B ≤ g)
    (h : ∀ w', Blk w' g e k (cur.take off ++ (ys ++ cur.drop (off + sLen))) → Below B w0 w' → wpList P ops Q rest (a.put o.dst (goInt sLen)) w') :
    wpList P ops Q (o :: rest) a w := by
  have hly := hr.len
  refine wpList_copy_splice hgd d s dT sT ho e hu hsz dp sp dLen dCap sLen sCap hd hs g off (nums k cur) e hg (nums k ys) (by rw [nums_length, hly]; exact (Nat.min_eq_left hl).symm)
    (fun hp => ?_) (by rw [nums_length, nums_length, hly]; exact hfit) (fun v hv => by simp only [nums, List.mem_map] at hv; obtain ⟨x, _, rfl⟩ := hv; rfl) B w0 hb hBg ?_
  · rw [nums_length, hly] at hp
    obtain ⟨ad, e1, _⟩ := hr.cell 0 hp
    refine ⟨hpos hp, ad, e1, fun j v hj => ?_⟩
    have hjl : j < ys.length := by
      rcases Nat.lt_or_ge j ys.length with h1 | h1
      · exact h1
      · rw [List.getElem?_eq_none (by rw [nums_length]; exact h1)] at hj; cases hj
    obtain ⟨ad', e2, hc⟩ := hr.cell j (by omega)
    rw [e1] at e2
    injection e2 with e2
    subst e2
    rw [nums_get k ys j hjl] at hj
    rw [hc, hj]
  · intro w' hw hb'
    rw [nums_length, hly]
    refine h w' ?_ hb'
    have := hw.out
    unfold Blk
    rw [this]
    congr 2
    simp [splice, nums, hly, List.map_take, List.map_drop]
end

end Go.Proofs.YtoimhjcpeifegaaGreatDoor


/- Long multiplication, place by place: plain facts on lists. -/
namespace Go.Proofs.YtoimhjcpeifegaaGreatDoor

end Go.Proofs.YtoimhjcpeifegaaGreatDoor


/- From a row's readings to what the walks ask: a slice of whole numbers, a whole number. -/
namespace Go.Proofs.YtoimhjcpeifegaaGreatDoor
open Go.ChangeShapes Go.WideShapes Go.RowKit

/-- A slice of whole numbers as the form reads it. -/
def IsRow (k : IntKind) (w : World) (a : Option Addr) (len cap : Nat) (zs : List Int) : Prop :=
  (a = none ∧ len = 0 ∧ cap = 0 ∧ zs = []) ∨
  ∃ x, a = some x ∧ len ≤ cap ∧ cap ≤ maxLen ∧ zs.length = cap ∧ (∀ i, i < zs.length → w.cell? (x.add i) = some (.int k (zs.getD i 0))) ∧ ∀ n ∈ zs, (Lit.int k n).wf = true

theorem IsRow.rds {k : IntKind} {w : World} {a : Option Addr} {len cap : Nat} {zs : List Int} (h : IsRow k w a len cap zs) : Rds w k a len (zs.take len) := by
  rcases h with ⟨rfl, rfl, rfl, rfl⟩ | ⟨x, rfl, h1, h2, h3, h4, h5⟩
  · exact Rds.nil _ _ _
  · refine ⟨by rw [List.length_take]; omega, fun j hj => ⟨x, rfl, ?_⟩⟩
    rw [h4 j (by omega), List.getElem?_take_of_lt hj, List.getD_eq_getElem?_getD]
theorem IsRow.none {k : IntKind} {w : World} {a : Option Addr} {len cap : Nat} {zs : List Int} (h : IsRow k w a len cap zs) : a = none → cap = 0 := by
  rcases h with ⟨rfl, rfl, rfl, rfl⟩ | ⟨x, rfl, h1, _⟩
  · exact fun _ => rfl
  · exact fun h => by cases h
theorem IsRow.le {k : IntKind} {w : World} {a : Option Addr} {len cap : Nat} {zs : List Int} (h : IsRow k w a len cap zs) : len ≤ cap := by
  rcases h with ⟨rfl, rfl, rfl, rfl⟩ | ⟨x, rfl, h1, _⟩
  · exact Nat.le_refl _
  · exact h1
theorem IsRow.wf {k : IntKind} {w : World} {a : Option Addr} {len cap : Nat} {zs : List Int} (h : IsRow k w a len cap zs) : ∀ n ∈ zs.take len, (Lit.int k n).wf = true := by
  intro n hn
  have hn := List.mem_of_mem_take hn
  rcases h with ⟨rfl, rfl, rfl, rfl⟩ | ⟨x, rfl, h1, h2, h3, h4, h5⟩
  · cases hn
  · exact h5 n hn
theorem wf_u32 {x : Int} (h : (Lit.int .u32 x).wf = true) : 0 ≤ x ∧ x < 4294967296 := by
  have := bounds_u32 h
  omega
theorem wf_u64 {x : Int} (h : (Lit.int .u64 x).wf = true) : 0 ≤ x ∧ x < 18446744073709551616 := by
  have := bounds_u64 h
  omega
theorem IsRow.dig {w : World} {a : Option Addr} {len cap : Nat} {zs : List Int} (h : IsRow .u32 w a len cap zs) : Dig 4294967296 (zs.take len) := fun n hn => wf_u32 (h.wf n hn)

/-- A row's slice of whole numbers is no longer than its weight allows. -/
theorem sized_ints {H : Type} {enc : TypeId × Value → H} {P : Program} {W : World} {base : Nat} {spare : Nat → Bool} {held : Bool} {t e : TypeId} {k : IntKind} {a : Option Addr} {len cap : Nat} {d : DataW H} {ps : List MemPlace} {ts : List TypeId} {ds : List (DataW H)} {j : Nat}
    (hsz : (DataW.weightsEach P ts ds).all (· ≤ reachBytes) = true) (ht : ts[j]? = some t) (hd : ds[j]? = some d) (hu : P.underlying t = some (.slice e)) (he : P.underlying e = some (.int k)) (hc : P.cellsOf e = 1) {B : Nat} (hB : P.bytesOf e = B)
    (h : DataW.Trod enc P W base spare held t (.slice a len cap) d ps) : len * B ≤ 140737488351232 := by
  obtain ⟨fuel, hf⟩ := h
  rcases open_ints hu he hc hf with ⟨hcs, _⟩ | ⟨x, l, c, zs, hcs, _, hl, _, hz, hx, _, _⟩
  · simp [Value.cells] at hcs
    obtain ⟨rfl, rfl, rfl⟩ := hcs
    simp
  · simp [Value.cells] at hcs
    obtain ⟨rfl, rfl, rfl⟩ := hcs
    obtain ⟨hx, _⟩ := Prod.mk.inj hx
    subst hx
    have z := sized_slice hsz ht hd hu
    rw [hB] at z
    have hl2 : len ≤ zs.length := by
      rw [hz]
      split
      · exact hl
      · exact Nat.le_refl _
    have h1 : (lits (H := H) k (zs.take len)).length + (lits (H := H) k (zs.drop len)).length = zs.length := by
      simp [lits]
      omega
    rw [h1] at z
    exact Nat.le_trans (Nat.mul_le_mul_right _ hl2) z
end Go.Proofs.YtoimhjcpeifegaaGreatDoor

