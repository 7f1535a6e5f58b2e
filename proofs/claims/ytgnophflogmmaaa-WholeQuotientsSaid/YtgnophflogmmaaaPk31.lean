/- Contracts of functions, and plain facts, part 31. -/
import Derived.Test.YtgnophflogmmaaaPk1
import Derived.Test.YtgnophflogmmaaaPk2
import Derived.Test.YtgnophflogmmaaaPk3
import Derived.Test.YtgnophflogmmaaaPk7
import Derived.Test.YtgnophflogmmaaaPk14
import Derived.Test.YtgnophflogmmaaaPk15
import Derived.Test.YtgnophflogmmaaaPk30
set_option linter.unusedVariables false
set_option linter.unusedSimpArgs false
/- Texts in order: by their lengths, then byte by byte; numbers told so. -/
namespace Go.Proofs.Ytgnophflogmmaaa
open Go.RowKit

/-- Numbers list by list, the highest first. -/
def lessL : List Int → List Int → Bool
  | _, [] => false
  | [], _ :: _ => true
  | a :: x, b :: y => decide (a < b) || (a == b && lessL x y)

theorem u8_lt (a b : Int) (ha : 0 ≤ a ∧ a < 256) (hb : 0 ≤ b ∧ b < 256) : (UInt8.ofNat a.toNat < UInt8.ofNat b.toNat) ↔ a < b := by
  rw [UInt8.lt_iff_toNat_lt, UInt8.toNat_ofNat_of_lt' (by show a.toNat < 256; omega), UInt8.toNat_ofNat_of_lt' (by show b.toNat < 256; omega)]
  omega
theorem u8_eq (a b : Int) (ha : 0 ≤ a ∧ a < 256) (hb : 0 ≤ b ∧ b < 256) : (UInt8.ofNat a.toNat = UInt8.ofNat b.toNat) ↔ a = b := by
  refine ⟨fun h => ?_, fun h => by rw [h]⟩
  have := congrArg UInt8.toNat h
  rw [UInt8.toNat_ofNat_of_lt' (by show a.toNat < 256; omega), UInt8.toNat_ofNat_of_lt' (by show b.toNat < 256; omega)] at this
  omega
theorem bytesLess_eq : ∀ (xs ys : List Int), Dig 256 xs → Dig 256 ys → Op.bytesLess (xs.map fun x => UInt8.ofNat x.toNat) (ys.map fun x => UInt8.ofNat x.toNat) = lessL xs ys
  | xs, [], _, _ => by cases xs <;> rfl
  | [], _ :: _, _, _ => rfl
  | a :: x, b :: y, dx, dy => by
    simp only [List.map_cons, Op.bytesLess, lessL]
    rw [bytesLess_eq x y dx.tail dy.tail]
    have h1 : decide (UInt8.ofNat a.toNat < UInt8.ofNat b.toNat) = decide (a < b) := by rw [decide_eq_decide]; exact u8_lt a b dx.head dy.head
    have h2 : (UInt8.ofNat a.toNat == UInt8.ofNat b.toNat) = (a == b) := by
      rw [Bool.eq_iff_iff, beq_iff_eq, beq_iff_eq]
      exact u8_eq a b dx.head dy.head
    rw [h1, h2]
theorem strB_less {xs ys : List Int} (dx : Dig 256 xs) (dy : Dig 256 ys) : Op.bytesLess (strB xs).toList (strB ys).toList = lessL xs ys := by
  rw [strB_toList, strB_toList, bytesLess_eq xs ys dx dy]
theorem strB_beq {xs ys : List Int} (dx : Dig 256 xs) (dy : Dig 256 ys) : ((strB xs).toList == (strB ys).toList) = decide (xs = ys) := by
  rw [Bool.eq_iff_iff, beq_iff_eq, decide_eq_true_iff, ByteArray.toList_eq, ByteArray.toList_eq]
  constructor
  · intro h
    have := congrArg (List.map fun b : UInt8 => (b.toNat : Int)) h
    change bytesI (strB xs) = bytesI (strB ys) at this
    rwa [bytesI_strB dx, bytesI_strB dy] at this
  · intro h; rw [h]

/-- Of lists of one length: by the worth, the highest first. -/
theorem lessL_val (b : Int) (hb : 0 < b) : ∀ (xs ys : List Int), Dig b xs → Dig b ys → xs.length = ys.length → lessL xs ys = decide (val b xs.reverse < val b ys.reverse)
  | [], [], _, _, _ => by simp [lessL, val]
  | [], _ :: _, _, _, h => by simp at h
  | _ :: _, [], _, _, h => by simp at h
  | x :: xs, y :: ys, dx, dy, h => by
    have hl : xs.length = ys.length := by simpa using h
    have ih := lessL_val b hb xs ys dx.tail dy.tail hl
    rw [lessL, ih, List.reverse_cons, List.reverse_cons, val_snoc, val_snoc, List.length_reverse, List.length_reverse, hl]
    have v1 := val_lt hb dx.tail.reverse
    have v2 := val_lt hb dy.tail.reverse
    have n1 := val_nonneg hb dx.tail.reverse
    have n2 := val_nonneg hb dy.tail.reverse
    rw [List.length_reverse, hl] at v1
    rw [List.length_reverse] at v2
    generalize val b xs.reverse = A at *
    generalize val b ys.reverse = D at *
    generalize b ^ ys.length = P at *
    have hP : 0 < P := by omega
    rw [Bool.eq_iff_iff]
    simp only [Bool.or_eq_true, Bool.and_eq_true, decide_eq_true_eq, beq_iff_eq]
    constructor
    · rintro (h1 | ⟨rfl, h1⟩)
      · have := Int.mul_le_mul_of_nonneg_left (show x + 1 ≤ y by omega) (Int.le_of_lt hP)
        rw [Int.mul_add, Int.mul_one] at this
        omega
      · omega
    · intro h1
      rcases Int.lt_trichotomy x y with h2 | h2 | h2
      · exact .inl h2
      · subst h2
        exact .inr ⟨rfl, by omega⟩
      · have := Int.mul_le_mul_of_nonneg_left (show y + 1 ≤ x by omega) (Int.le_of_lt hP)
        rw [Int.mul_add, Int.mul_one] at this
        omega

/-- By length, then byte by byte. -/
def lessI (xs ys : List Int) : Int := if xs.length < ys.length then -1 else if ys.length < xs.length then 1 else if lessL xs ys then -1 else if xs = ys then 0 else 1

theorem lessL_asc : ∀ (xs ys : List Int), lessL (asc xs) (asc ys) = lessL xs ys
  | xs, [] => by cases xs <;> rfl
  | [], _ :: _ => rfl
  | a :: x, b :: y => by
    have ih := lessL_asc x y
    simp only [asc, List.map_cons, lessL] at *
    rw [ih]
    congr 1
    · rw [decide_eq_decide]; omega
    · congr 1
      rw [Bool.eq_iff_iff, beq_iff_eq, beq_iff_eq]
      omega
theorem asc_inj (xs ys : List Int) : asc xs = asc ys ↔ xs = ys := by
  refine ⟨fun h => ?_, fun h => by rw [h]⟩
  have := congrArg (List.map fun x : Int => x - 48) h
  simpa [asc, Function.comp_def] using this

/-- Lists of numbers, the lowest first, that are the longer the greater. -/
theorem lessI_val (b : Int) (hb : 0 < b) (xs ys : List Int) (dx : Dig b xs) (dy : Dig b ys) (h1 : xs.length < ys.length → val b xs < val b ys) (h2 : ys.length < xs.length → val b ys < val b xs) :
    lessI xs.reverse ys.reverse = cmpI (val b xs) (val b ys) := by
  unfold lessI
  rw [List.length_reverse, List.length_reverse]
  by_cases e1 : xs.length < ys.length
  · rw [if_pos e1, cmpI_lt (h1 e1)]
  · rw [if_neg e1]
    by_cases e2 : ys.length < xs.length
    · rw [if_pos e2, cmpI_gt (h2 e2)]
    · have hl : xs.length = ys.length := by omega
      rw [if_neg e2, lessL_val b hb _ _ dx.reverse dy.reverse (by simpa using hl), List.reverse_reverse, List.reverse_reverse]
      by_cases e3 : val b xs < val b ys
      · rw [if_pos (decide_eq_true e3), cmpI_lt e3]
      · rw [if_neg (by simpa using e3)]
        by_cases e4 : val b xs = val b ys
        · rw [if_pos (by rw [val_inj hb dx dy hl e4]), cmpI_eq e4]
        · rw [if_neg (fun h => e4 (by rw [List.reverse_inj.1 h])), cmpI_gt (by omega)]
theorem lessI_asc (xs ys : List Int) : lessI (asc xs).reverse (asc ys).reverse = lessI xs.reverse ys.reverse := by
  have e : ∀ l : List Int, (asc l).reverse = asc l.reverse := fun l => by simp [asc]
  unfold lessI
  rw [e, e, asc_length, asc_length, lessL_asc]
  have h : (asc xs.reverse = asc ys.reverse) = (xs.reverse = ys.reverse) := propext (asc_inj _ _)
  simp only [h]

/-- A number's digits, one at least. -/
def decD (V : Int) : List Int := if V = 0 then [0] else dg 10 V
theorem decL_decD (V : Int) : decL V = (asc (decD V)).reverse := by
  unfold decL decD
  split <;> rfl
theorem decD_dig (V : Int) : Dig 10 (decD V) := by
  unfold decD
  split
  · intro x hx; simp at hx; omega
  · exact dg_dig 10 (by omega) _
theorem decD_val (V : Int) (hV : 0 ≤ V) : val 10 (decD V) = V := by
  unfold decD
  split
  · rename_i h; rw [h]; simp [val]
  · exact val_dg 10 (by omega) V hV
theorem decD_pos (V : Int) (hV : 0 ≤ V) : 0 < (decD V).length := by
  unfold decD
  split
  · simp
  · rename_i h
    rw [List.length_pos_iff]
    exact fun e => h ((dg_nil 10 V (by omega) hV).1 e)
theorem decD_mono (V U : Int) (hV : 0 ≤ V) (hU : 0 ≤ U) (h : (decD V).length < (decD U).length) : val 10 (decD V) < val 10 (decD U) := by
  have hn : norm (decD U) = decD U := by
    have hp := decD_pos V hV
    unfold decD at h ⊢
    by_cases hu : U = 0
    · rw [if_pos hu] at h
      unfold decD at hp
      simp at h
      split at hp <;> simp_all
    · rw [if_neg hu]
      exact norm_dg 10 (by omega) U
  exact lt_of_len (by omega) (decD_dig V) (decD_dig U) hn h
theorem less_dec (V U : Int) (hV : 0 ≤ V) (hU : 0 ≤ U) : lessI (decL V) (decL U) = cmpI V U := by
  rw [decL_decD, decL_decD, lessI_asc, lessI_val 10 (by omega) _ _ (decD_dig V) (decD_dig U) (decD_mono V U hV hU) (decD_mono U V hU hV), decD_val V hV, decD_val U hU]
theorem less_byt (V U : Int) (hV : 0 ≤ V) (hU : 0 ≤ U) : lessI (dg 256 V).reverse (dg 256 U).reverse = cmpI V U := by
  have eV := val_dg 256 (by omega) V hV
  have eU := val_dg 256 (by omega) U hU
  rw [show ((256 : Nat) : Int) = 256 from rfl] at eV eU
  rw [lessI_val 256 (by omega) (dg 256 V) (dg 256 U) (dg_dig 256 (by omega) _) (dg_dig 256 (by omega) _) (fun h => lt_of_len (by omega) (dg_dig 256 (by omega) _) (dg_dig 256 (by omega) _) (norm_dg 256 (by omega) U) h)
    (fun h => lt_of_len (by omega) (dg_dig 256 (by omega) _) (dg_dig 256 (by omega) _) (norm_dg 256 (by omega) V) h), eV, eU]
end Go.Proofs.Ytgnophflogmmaaa

/- Decimal texts: told, read, a digit more. Plain. -/
namespace Go.Proofs.Ytgnophflogmmaaa

theorem readV_asc : ∀ (xs : List Int), readV (asc xs).reverse = val 10 xs
  | [] => rfl
  | x :: xs => by
    have ih := readV_asc xs
    rw [show asc (x :: xs) = (x + 48) :: asc xs from rfl, List.reverse_cons, readV_snoc, ih]
    simp only [val]
    omega
theorem readV_dec (A : Int) (hA : 0 ≤ A) : readV (decL A) = A := by
  rw [decL_decD, readV_asc, decD_val A hA]
theorem decL_length (A : Int) : (decL A).length = (decD A).length := by rw [decL_decD, List.length_reverse, asc_length]
theorem decL_pos (A : Int) (hA : 0 ≤ A) : 0 < (decL A).length := by rw [decL_length]; exact decD_pos A hA
theorem decL_decs (A : Int) : Decs (decL A) := by
  rw [decL_decD]
  intro c hc
  rw [List.mem_reverse, asc, List.mem_map] at hc
  obtain ⟨y, hy, rfl⟩ := hc
  have := decD_dig A y hy
  omega
theorem decL_top (A : Int) (hA : 0 ≤ A) (h : 1 < (decL A).length) : (decL A)[0]?.getD 0 ≠ 48 := by
  have hA0 : A ≠ 0 := by
    intro e
    rw [e] at h
    simp [decL] at h
  rw [decL_decD] at h ⊢
  unfold decD at h ⊢
  rw [if_neg hA0] at h ⊢
  rw [List.length_reverse, asc_length] at h
  obtain ⟨m, hm⟩ : ∃ m, (dg 10 A).length = m + 1 := ⟨(dg 10 A).length - 1, by omega⟩
  have := norm_last (b := 10) (norm_dg 10 (by omega) A) m hm
  rw [List.getElem?_reverse (by rw [asc_length]; omega), asc_length, hm, Nat.add_sub_cancel, Nat.sub_zero]
  unfold asc
  rw [List.getElem?_map, List.getElem?_eq_getElem (by omega)]
  rw [List.getElem?_eq_getElem (by omega), Option.getD_some] at this
  simp only [Option.map_some, Option.getD_some]
  omega
theorem read_dec (A : Int) (hA : 0 ≤ A) (hl : (dg 4294967296 A).length ≤ 262144) : readOk (decL A) = true ∧ readNum (decL A) = A := by
  have h : readOk (decL A) = true := by
    unfold readOk
    rw [readV_dec A hA]
    have hp := decL_pos A hA
    refine decide_eq_true ⟨List.ne_nil_of_length_pos hp, fun h => ?_, decL_decs A, hl⟩
    rcases Nat.lt_or_ge 1 (decL A).length with h1 | h1
    · exact absurd h (decL_top A hA h1)
    · omega
  refine ⟨h, ?_⟩
  unfold readNum
  rw [if_pos h, readV_dec A hA]
theorem read_zero (cs : List Int) (h : cs ≠ []) : readOk (48 :: cs) = false := by
  unfold readOk
  refine decide_eq_false fun hh => ?_
  have := hh.2.1 rfl
  simp at this
  exact h this
theorem dec_more (A g : Int) (hA : 0 < A) (hg : 0 ≤ g ∧ g < 10) : decL (A * 10 + g) = decL A ++ [48 + g] := by
  unfold decL
  rw [if_neg (by omega), if_neg (by omega), dg_pos 10 _ (by omega) (by omega), show (A * 10 + g) % ((10 : Nat) : Int) = g by omega, show (A * 10 + g) / ((10 : Nat) : Int) = A by omega,
    show asc (g :: dg 10 A) = (g + 48) :: asc (dg 10 A) from rfl, List.reverse_cons, Int.add_comm g 48]
theorem dec_digit (g : Int) (hg : 0 ≤ g ∧ g < 10) : decL g = [48 + g] := by
  unfold decL
  by_cases h : g = 0
  · rw [if_pos h, h]; rfl
  · rw [if_neg h, dg_pos 10 _ (by omega) (by omega), show g % ((10 : Nat) : Int) = g by omega, show g / ((10 : Nat) : Int) = 0 by omega, dg_zero]
    simp [asc, Int.add_comm]
theorem decL_le (A : Int) (hA : 0 ≤ A) (na : Nat) (h : A < 4294967296 ^ na) : (decL A).length ≤ 10 * na + 1 := by
  rw [decL_length]
  unfold decD
  split
  · simp
  · have h2 : A < (10 : Int) ^ (10 * na) := by
      refine Int.lt_of_lt_of_le h ?_
      rw [Int.pow_mul]
      have : ∀ k : Nat, (4294967296 : Int) ^ k ≤ (10 ^ 10) ^ k := by
        intro k
        induction k with
        | zero => simp
        | succ k ih =>
          rw [Int.pow_succ, Int.pow_succ]
          have hp : (0 : Int) < 4294967296 ^ k := Int.pow_pos (by omega)
          generalize (4294967296 : Int) ^ k = P at *
          have e10 : (10 : Int) ^ 10 = 10000000000 := by decide
          rw [e10] at ih ⊢
          generalize (10000000000 : Int) ^ k = Q at *
          omega
      exact this na
    have := dg_length_le 10 (by omega) (10 * na) A h2
    omega
end Go.Proofs.Ytgnophflogmmaaa

/- Texts of whole numbers: there and back. -/
namespace Go.Proofs.Ytgnophflogmmaaa
open Go Go.RowKit

theorem fit_of_len {V : Int} (h0 : 0 ≤ V) {k : Nat} (h : (dg 4294967296 V).length ≤ k) : FitK k V := by
  unfold FitK
  have hd : Dig 4294967296 (dg 4294967296 V) := dg_dig 4294967296 (by omega) _
  have h1 := val_lt (by omega) hd
  have h2 : val 4294967296 (dg 4294967296 V) = V := val_dg 4294967296 (by omega) V h0
  have h3 : (4294967296 : Int) ^ (dg 4294967296 V).length ≤ 4294967296 ^ k := pow_le (by omega) h
  omega
theorem len_of_fit {V : Int} {k : Nat} (h : FitK k V) : (dg 4294967296 (V.natAbs : Int)).length ≤ k := dg_length_le 4294967296 (by omega) k _ h
theorem readV_nn (cs : List Int) (h : Decs cs) : 0 ≤ readV cs := by have := readV_nonneg cs h cs.length; rwa [readV_full] at this
theorem fit_zero (k : Nat) : FitK k 0 := by unfold FitK; show (0 : Int) < _; exact Int.pow_pos (by omega)
theorem read_fit (cs : List Int) : FitK 262144 (readNum cs) := by
  unfold readNum
  split
  · rename_i h
    obtain ⟨h1, h2, h3, h4⟩ := of_decide_eq_true h
    exact fit_of_len (readV_nn cs h3) h4
  · exact fit_zero _
theorem wread_fit (cs : List Int) : FitK 262144 (wreadNum cs) := by
  unfold wreadNum
  split
  · exact (read_fit _).neg
  · exact read_fit _
theorem head_ne (A : Int) (h : 0 < A) : (decL A)[0]?.getD 0 ≠ 48 := by
  intro e
  rcases Nat.lt_or_ge 1 (decL A).length with h1 | h1
  · exact decL_top A (by omega) h1 e
  · have h2 := decL_pos A (by omega)
    have h3 := readV_dec A (by omega)
    match hd : decL A with
    | [] => rw [hd] at h2; simp at h2
    | [c] =>
      rw [hd] at e h3
      simp at e
      subst e
      simp [readV] at h3
      omega
    | c :: d :: l => rw [hd] at h1; simp at h1
theorem showL_dig (X : Int) : Dig 256 (showL X) := by
  unfold showL
  split
  · exact Dig.cons (by omega) (by omega) (decL_dig _)
  · exact decL_dig _
theorem show_read (X : Int) (k : Nat) (h : FitK k X) (hk : k ≤ 262144) : wreadOk (bytesI (strB (showL X))) = true ∧ wreadNum (bytesI (strB (showL X))) = X := by
  rw [bytesI_strB (showL_dig X)]
  have hr := read_dec (X.natAbs : Int) (by omega) (Nat.le_trans (len_of_fit h) hk)
  have hp := decL_pos (X.natAbs : Int) (by omega)
  unfold wreadOk wreadNum showL
  by_cases hX : X < 0
  · rw [if_pos hX]
    have hd : dash (45 :: decL (X.natAbs : Int)) = true := by
      refine decide_eq_true ⟨by simp; omega, by simp, ?_⟩
      have := head_ne (X.natAbs : Int) (by omega)
      simpa using this
    rw [hd, if_pos rfl, if_pos rfl]
    simp only [List.drop_succ_cons, List.drop_zero]
    exact ⟨hr.1, by rw [hr.2]; omega⟩
  · rw [if_neg hX]
    have hd : dash (decL (X.natAbs : Int)) = false := by
      refine decide_eq_false fun hh => ?_
      have h1 := (decL_decs (X.natAbs : Int)).get hp
      have := hh.2.1
      omega
    rw [hd]
    simp only [Bool.false_eq_true, if_false]
    exact ⟨hr.1, by rw [hr.2]; omega⟩
theorem dec_read (n : Nat) : ∀ cs : List Int, cs.length = n → cs ≠ [] → (cs[0]?.getD 0 = 48 → cs.length = 1) → Decs cs → decL (readV cs) = cs := by
  induction n with
  | zero => intro cs h1 h2; exact absurd (List.length_eq_zero_iff.1 h1) h2
  | succ n ih =>
    intro cs h1 h2 h3 h4
    obtain ⟨ds, c, rfl⟩ : ∃ ds c, cs = ds ++ [c] := ⟨cs.dropLast, cs.getLast h2, (List.dropLast_concat_getLast h2).symm⟩
    have hc : 48 ≤ c ∧ c ≤ 57 := h4 c (by simp)
    rw [readV_snoc]
    by_cases hd : ds = []
    · subst hd
      have := dec_digit (c - 48) (by omega)
      simp only [readV, List.foldl_nil, List.nil_append]
      rw [show (0 : Int) * 10 + (c - 48) = c - 48 by omega, this]
      congr 1; omega
    · have hdl : ds.length = n := by simp at h1; exact h1
      have h0 : (ds ++ [c])[0]?.getD 0 = ds[0]?.getD 0 := by
        cases ds with
        | nil => exact absurd rfl hd
        | cons a l => rfl
      have hne : ds[0]?.getD 0 ≠ 48 := by
        intro e
        rw [← h0] at e
        have := h3 e
        simp at this
        exact hd this
      have hds : Decs ds := fun x hx => h4 x (by simp [hx])
      have ihd := ih ds hdl hd (fun e => absurd e hne) hds
      have hpos : 0 < readV ds := by
        have := readV_nn ds hds
        rcases Int.lt_or_eq_of_le this with h5 | h5
        · exact h5
        · exfalso
          rw [← h5] at ihd
          rw [← ihd] at hne
          exact hne (by simp [decL])
      rw [dec_more (readV ds) (c - 48) hpos (by omega), ihd]
      congr 2; omega
theorem lead_of {cs : List Int} (h : readOk cs = true) : decL (readNum cs) = cs := by
  unfold readNum
  rw [if_pos h]
  obtain ⟨h1, h2, h3, h4⟩ := of_decide_eq_true h
  exact dec_read cs.length cs rfl h1 h2 h3
theorem read_show (s : ByteArray) (h : wreadOk (bytesI s) = true) : strB (showL (wreadNum (bytesI s))) = s := by
  have key : showL (wreadNum (bytesI s)) = bytesI s := by
    unfold wreadOk wreadNum at *
    generalize bytesI s = cs at *
    by_cases hd : dash cs = true
    · rw [if_pos hd] at h ⊢
      obtain ⟨d1, d2, d3⟩ := of_decide_eq_true hd
      match cs with
      | a :: rest =>
        simp only [List.drop_succ_cons, List.drop_zero] at h ⊢
        have hl := lead_of h
        have hpos : 0 < readNum rest := by
          have := readNum_nonneg rest
          rcases Int.lt_or_eq_of_le this with h5 | h5
          · exact h5
          · exfalso
            rw [← h5] at hl
            have : rest[0]?.getD 0 = 48 := by rw [← hl]; simp [decL]
            simp at d3
            exact d3 this
        unfold showL
        rw [if_pos (by omega), show (((-readNum rest).natAbs : Nat) : Int) = readNum rest by omega, hl]
        simp at d2
        rw [d2]
    · rw [if_neg hd] at h ⊢
      have hn := readNum_nonneg cs
      unfold showL
      rw [if_neg (by omega), show (((readNum cs).natAbs : Nat) : Int) = readNum cs by omega]
      exact lead_of h
  rw [key, strB_bytesI]
theorem show_more (X g : Int) (hg : 0 ≤ g ∧ g < 10) (hX : X ≠ 0) (Y : Int) (hY : Y = if X < 0 then X * 10 - g else X * 10 + g) : showL Y = showL X ++ [48 + g] := by
  subst hY
  unfold showL
  by_cases h : X < 0
  · rw [if_pos h, if_pos (by omega), if_pos h, show (((X * 10 - g).natAbs : Nat) : Int) = (X.natAbs : Int) * 10 + g by omega, dec_more _ g (by omega) hg]
    rfl
  · rw [if_neg h, if_neg (by omega), if_neg h, show (((X * 10 + g).natAbs : Nat) : Int) = (X.natAbs : Int) * 10 + g by omega, dec_more _ g (by omega) hg]
theorem show_zero (X : Int) : strB (showL X) = strB [48] ↔ X = 0 := by
  constructor
  · intro e
    rw [strB_inj (showL_dig X) (Dig.cons (by omega) (by omega) (Dig.nil _))] at e
    unfold showL at e
    split at e
    · injection e with e; omega
    · rename_i h
      have := readV_dec (X.natAbs : Int) (by omega)
      rw [e] at this
      simp [readV] at this
      omega
  · rintro rfl; rfl
theorem strB_at {L : List Int} (hd : Dig 256 L) (n : Nat) (hn : n < L.length) : (strB L)[n]?.map (fun b => (b.toNat : Int)) = some (L[n]?.getD 0) := by
  have h1 : n < (strB L).size := by rw [strB_size]; exact hn
  have h2 := bytesI_get (strB L) n h1
  rw [bytesI_strB hd] at h2
  rw [h2]
  simp [h1]
theorem strB_drop1 {L : List Int} (hd : Dig 256 L) : (strB L).extract 1 (strB L).size = strB (L.drop 1) := by
  have h := bytesI_extract (strB L)
  rw [bytesI_strB hd] at h
  rw [← strB_bytesI ((strB L).extract 1 (strB L).size), h]
theorem showL_len (X : Int) (k : Nat) (h : FitK k X) : (showL X).length ≤ 10 * k + 2 := by
  have := decL_le (X.natAbs : Int) (by omega) k h
  unfold showL
  split
  · simp; omega
  · omega
theorem neg_len (X : Int) (h : X < 0) : 2 ≤ ((strB (showL X)).size : Int) := by
  have := decL_pos (X.natAbs : Int) (by omega)
  rw [strB_size]
  unfold showL
  rw [if_pos h]
  simp; omega
theorem neg_at (X : Int) (h : X < 0) : (strB (showL X))[0]?.map (fun b => (b.toNat : Int)) = some 45 := by
  have h2 := neg_len X h
  rw [strB_size] at h2
  rw [strB_at (showL_dig X) 0 (by omega)]
  unfold showL
  rw [if_pos h]; rfl
theorem neg_tail (X : Int) (h : X < 0) : (strB (showL X)).extract 1 (strB (showL X)).size = strB (decL (X.natAbs : Int)) := by
  rw [strB_drop1 (showL_dig X)]
  unfold showL
  rw [if_pos h]; rfl
theorem pos_text (X : Int) (h : ¬ X < 0) : strB (showL X) = strB (decL (X.natAbs : Int)) := by
  unfold showL
  rw [if_neg h]
theorem zero_only (X i : Int) : ((decide (i = 0) && decide ((decL (X.natAbs : Int))[0]?.getD 0 = 48)) && decide (strB (showL X) ≠ strB [48])) = false := by
  by_cases h : X = 0
  · have := (show_zero X).2 h
    rw [decide_eq_false (p := strB (showL X) ≠ strB [48]) (fun h2 => h2 this), Bool.and_false]
  · have := head_ne (X.natAbs : Int) (by omega)
    rw [decide_eq_false this]
    simp
theorem more_text (X g : Int) (hg : 0 ≤ g ∧ g < 10) (Y : Int) (hY : Y = if X < 0 then X * 10 - g else X * 10 + g) : (decide (strB (showL X) ≠ strB [48]) && decide (strB (showL Y) ≠ strB (showL X) ++ strB [48 + g])) = false := by
  by_cases h : X = 0
  · have := (show_zero X).2 h
    rw [decide_eq_false (p := strB (showL X) ≠ strB [48]) (fun h2 => h2 this), Bool.false_and]
  · have := show_more X g hg h Y hY
    rw [decide_eq_false (p := strB (showL Y) ≠ strB (showL X) ++ strB [48 + g]) (fun h2 => h2 (by rw [this, strB_append])), Bool.and_false]

/-! ### Few bytes -/
def PBy (L : List Int) (v : Value) (w : World) (B : Bx) : Prop := ∃ ad n c, v = .slice ad n c ∧ Rds w .u8 ad n L ∧ Dig 256 L
def IsBy (L : List Int) : VP := ⟨PBy L, fun v w B w' B' h ⟨ad, n, c, e, k, dg⟩ => ⟨ad, n, c, e, k.mv h (.inr rfl), dg⟩⟩
section
variable {need : List (Tmp × FD)} {d : Option Tmp} {ty : TypeId} {pos : String} {af : Array Edge} {g : Option (Nat × Bool)} {x : Operand}
set_option maxRecDepth 50000 in
theorem ok_by1 {i : Int} (hi : 0 ≤ i ∧ i < 256) (h : Opd need x (.val (Lit (.int .u8 i)))) : OpOk Try.prog ⟨d, .buildSlice 50 1 #[(0, x)], ty, pos, af, g⟩ need (.val (IsBy [i])) false := by
  intro Q K a w B hB hF hK
  have e : a.eval x = .int .u8 i := h a w B hF
  have hbel : Below w.heap.size w (w.alloc (.cells #[.int .u8 i] 5)) := (Below.refl _ _).alloc (Nat.le_refl _) _
  have hr : (execOp a.eval ⟨d, .buildSlice 50 1 #[(0, x)], ty, pos, af, g⟩).run Try.prog w = .ok (.value (.slice (some ⟨w.heap.size, 0, none⟩) 1 1)) (w.alloc (.cells #[.int .u8 i] 5)) := by
    simp only [execOp, e, List.map_toArray, List.map_cons, List.map_nil]
    go_simp
  unfold Oper.wp
  rw [hr]
  refine hK _ _ B ⟨_, 1, 1, rfl, ⟨rfl, fun j hj => ⟨_, rfl, ?_⟩⟩, Dig.cons (by omega) (by omega) (Dig.nil _)⟩ (Bl.of_below B hbel) hbel (fun k hk => Nat.lt_of_lt_of_le (hB k hk) hbel.size) (by simp)
  obtain rfl : j = 0 := by omega
  rw [plain_add, cell_row (heap_alloc_new w _)]
  rfl
set_option maxRecDepth 50000 in
theorem ok_convBS {L : List Int} (h : Opd need x (.val (IsBy L))) : OpOk Try.prog ⟨d, .convert 50 9 x, ty, pos, af, g⟩ need (.val (Lit (.string (strB L)))) false :=
  ok_via h fun ρ w B v ⟨ad, n, c, e, k, dg⟩ h1 => by
    have hc := conv_str (P := Try.prog) 50 9 5 Try.underlying50 Try.underlying5 Try.underlying9 w ad n c L k dg
    refine ⟨.string (strB L), ?_, rfl⟩
    simp only [execOp, h1, e, Sem.run_bind, hc, Result.andThen_ok, Sem.run_pure]
def IsSl (n : Nat) : VP := ⟨fun v _ _ => ∃ ad c, v = .slice ad n c, fun _ _ _ _ _ _ h => h⟩
theorem ok_loadMagA {ng : Bool} {n : Nat} {xs : List Int} (h : Opd need x (.ptr 25 2 (IsArg ng n xs) 1)) : OpOk Try.prog ⟨d, .load 23 x, ty, pos, af, g⟩ need (.val (IsSl n)) false :=
  ok_loadPtr1 aggNat h (by decide) fun cs v w B ⟨ad, c, e, k⟩ hv => by
    injection e with e
    subst e
    simp at hv
    exact ⟨ad, c, hv.symm⟩
theorem ok_lenSl {n : Nat} (h : Opd need x (.val (IsSl n))) : OpOk Try.prog ⟨d, .call { callee := .builtin .len, args := #[x], argTypes := #[23] }, 3, pos, af, g⟩ need (.val (Lit (.int .i64 n))) false :=
  ok_via h fun ρ w B v ⟨ad, c, e⟩ h1 => ⟨_, len_run ad n c ρ w (h1.trans e), rfl⟩
end
theorem con_read (s : ByteArray) (hs : s.size ≤ 140737488351232) : Con Try.prog 21 [Lit (.string s)] (Tup [IsI (wreadNum (bytesI s)), IsB (wreadOk (bytesI s))]) := by
  refine ⟨fun _ _ => by go_simp, fun vs w B hB hV => ?_⟩
  match vs, hV with
  | [v], ⟨h1, _⟩ =>
    obtain rfl := h1
    refine (wread_calls s w hs).mono ?_
    rintro e w' ⟨ad, n, c, rfl, k, hb⟩
    exact ⟨_, rfl, ⟨_, rfl, ⟨ad, n, c, rfl, k, Nat.le_trans (k.len_le 262144 (wread_fit _)) (by rw [lim_eq]; omega)⟩, rfl, trivial⟩, hb⟩
end Go.Proofs.Ytgnophflogmmaaa
