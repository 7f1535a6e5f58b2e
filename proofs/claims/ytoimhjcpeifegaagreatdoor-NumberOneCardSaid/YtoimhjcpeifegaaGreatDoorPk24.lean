/- Contracts of functions, and plain facts, part 24. -/
import Derived.Test.YtoimhjcpeifegaaGreatDoorPk7
import Derived.Test.YtoimhjcpeifegaaGreatDoorPk17
import Derived.Test.YtoimhjcpeifegaaGreatDoorPk23
set_option linter.unusedVariables false
set_option linter.unusedSimpArgs false
/- VCmpM. (Printed by flow15.py.) -/
namespace Go.Proofs.YtoimhjcpeifegaaGreatDoor
open Go Go.RowKit

theorem sideI_ne (b : Int) : sideI b ≠ 0 := by unfold sideI; split <;> omega
theorem St.unbox {N : Nat} {w0 : World} {B0 : Bx} {a : Act} {w : World} {B : Bx} {l : List (Tmp × FD)} {bxs : List Tmp} (h : St N w0 B0 a w B l bxs) (bxs' : List Tmp) (hs : decide (∀ s ∈ bxs', s ∈ bxs) = true) : St N w0 B0 a w B l bxs' :=
  have hs := of_decide_eq_true hs
  ⟨h.df, h.sz, h.fc, fun s h1 => h.bx s (hs s h1), fun s h1 t h2 => h.ap s (hs s h1) t (hs t h2), h.bel, h.own, h.own0⟩
theorem sideI_bd (b : Int) : -1 ≤ sideI b ∧ sideI b ≤ 1 := by unfold sideI; split <;> omega
theorem setA2_0 (a b c : Int) (cs : Array Value) (w : World) (B : Bx) (h : (A2 a b).p (.agg cs) w B) : (A2 c b).p (.agg (cs.setIfInBounds 0 (.int .i64 c))) w B := by
  injection h with h
  subst h
  rfl
theorem setA2_1 (a b c : Int) (cs : Array Value) (w : World) (B : Bx) (h : (A2 a b).p (.agg cs) w B) : (A2 a c).p (.agg (cs.setIfInBounds 1 (.int .i64 c))) w B := by
  injection h with h
  subst h
  rfl
theorem sizeIntT : (Tryz.prog.info? 3).map (·.size) = some 1 := by kernel_rfl
def isNo : One → Bool
  | .none => true
  | .nothing _ => true
  | _ => false
def endO : One → Int
  | .endless b => sideI b
  | _ => 0
def clampI (d : Int) : Int := if -1 < (if d < 1 then d else 1) then (if d < 1 then d else 1) else -1
def cmpFin (m e n f : Int) : Int := cmpI (m * 2 ^ (if 0 < e - f then e - f else 0).toNat) (n * 2 ^ (if 0 < f - e then f - e else 0).toNat)
/-- How two numbers stand. -/
noncomputable def cmpO (o1 o2 : One) : Int × Bool := if isNo o1 || isNo o2 then (0, false) else if endO o1 ≠ 0 ∨ endO o2 ≠ 0 then (clampI (endO o1 - endO o2), true) else (cmpFin (partN o1) (partE o1) (partN o2) (partE o2), true)
theorem cmpO_no1 (v : Int) (o : One) : cmpO (.nothing v) o = (0, false) := if_pos rfl
theorem cmpO_no2 (v : Int) (o : One) : cmpO o (.nothing v) = (0, false) := if_pos (by cases isNo o <;> rfl)
theorem cmpO_end (o1 o2 : One) (h1 : isNo o1 = false) (h2 : isNo o2 = false) (h : endO o1 ≠ 0 ∨ endO o2 ≠ 0) : cmpO o1 o2 = (clampI (endO o1 - endO o2), true) := by
  unfold cmpO
  rw [if_neg (by rw [h1, h2]; simp), if_pos h]
theorem cmpO_fin (o1 o2 : One) (h1 : isNo o1 = false) (h2 : isNo o2 = false) (h3 : endO o1 = 0) (h4 : endO o2 = 0) : cmpO o1 o2 = (cmpFin (partN o1) (partE o1) (partN o2) (partE o2), true) := by
  unfold cmpO
  rw [if_neg (by rw [h1, h2]; simp), if_neg (by omega)]
theorem cmpFin_00 (X Y : Int) : cmpFin X 0 Y 0 = cmpI X Y := by unfold cmpFin; simp
theorem bits_small {V : Int} (hV : 0 ≤ V) (h : ¬ 64 < bitsOf V) : V < 18446744073709551616 := by
  unfold bitsOf at h
  have h1 := blen_lt V.toNat
  have h2 : 2 ^ blen V.toNat ≤ 2 ^ 64 := Nat.pow_le_pow_right (by omega) (by omega)
  omega
theorem bits_great {V : Int} (hV : 0 ≤ V) (h : 64 < bitsOf V) : 18446744073709551616 ≤ V := by
  unfold bitsOf at h
  have h0 : V.toNat ≠ 0 := fun e => by rw [e, blen_zero] at h; omega
  have h1 := blen_ge V.toNat h0
  have h2 : 2 ^ 64 ≤ 2 ^ (blen V.toNat - 1) := Nat.pow_le_pow_right (by omega) (by omega)
  omega
theorem cmp_long1 (X m f : Int) (hX : 64 < bitsOf (X.natAbs : Int)) (hm : -18446744073709551616 < m ∧ m < 18446744073709551616) (hf : f < 0) : cmpI X 0 = cmpFin X 0 m f := by
  have h1 := bits_great (by omega) hX
  unfold cmpFin
  rw [if_pos (show 0 < 0 - f by omega), if_neg (show ¬ 0 < f - 0 by omega)]
  have h2 : (1 : Int) ≤ 2 ^ (0 - f).toNat := Int.pow_pos (by omega)
  generalize (2 : Int) ^ (0 - f).toNat = P at *
  rw [Int.toNat_zero, Int.pow_zero, Int.mul_one]
  rcases Int.lt_or_le X 0 with h | h
  · have h3 : X * P ≤ X * 1 := Int.mul_le_mul_of_nonpos_left (by omega) h2
    rw [cmpI_lt h, cmpI_lt (by omega)]
  · have h3 : X * 1 ≤ X * P := Int.mul_le_mul_of_nonneg_left h2 h
    rw [cmpI_gt (by omega), cmpI_gt (by omega)]
theorem cmp_long2 (X m e : Int) (hX : 64 < bitsOf (X.natAbs : Int)) (hm : -18446744073709551616 < m ∧ m < 18446744073709551616) (he : e < 0) : cmpI 0 X = cmpFin m e X 0 := by
  have h1 := bits_great (by omega) hX
  unfold cmpFin
  rw [if_pos (show 0 < 0 - e by omega), if_neg (show ¬ 0 < e - 0 by omega)]
  have h2 : (1 : Int) ≤ 2 ^ (0 - e).toNat := Int.pow_pos (by omega)
  generalize (2 : Int) ^ (0 - e).toNat = P at *
  rw [Int.toNat_zero, Int.pow_zero, Int.mul_one]
  rcases Int.lt_or_le X 0 with h | h
  · have h3 : X * P ≤ X * 1 := Int.mul_le_mul_of_nonpos_left (by omega) h2
    rw [cmpI_gt h, cmpI_gt (by omega)]
  · have h3 : X * 1 ≤ X * P := Int.mul_le_mul_of_nonneg_left h2 h
    rw [cmpI_lt (by omega), cmpI_lt (by omega)]
theorem what_cases (z : NV) (hz : okNV z) : (∃ X, whatV z = .exact X) ∨ (∃ b, whatV z = .broken b ∧ (0 ≤ b ∧ b < 18446744073709551616) ∧ pE 64 b < 0) ∨ (∃ b, whatV z = .endless b ∧ (0 ≤ b ∧ b < 18446744073709551616)) ∨ (∃ b, whatV z = .nothing b) := by
  cases z with
  | int X => exact .inl ⟨X, rfl⟩
  | flt b =>
    obtain ⟨hb, hf⟩ := hz
    show (∃ X, oneF b = .exact X) ∨ (∃ c, oneF b = .broken c ∧ (0 ≤ c ∧ c < 18446744073709551616) ∧ pE 64 c < 0) ∨ (∃ c, oneF b = .endless c ∧ (0 ≤ c ∧ c < 18446744073709551616)) ∨ (∃ c, oneF b = .nothing c)
    unfold fltB at hf
    unfold oneF
    by_cases h1 : clsW 64 b = 4
    · rw [if_pos h1]; exact .inr (.inr (.inl ⟨b, rfl, hb⟩))
    · by_cases h2 : clsW 64 b = 5
      · rw [if_neg h1, if_pos h2]; exact .inr (.inr (.inr ⟨b, rfl⟩))
      · rw [if_neg h1, if_neg h2]
        rw [if_neg h2, if_neg h1] at hf
        have h3 : intOk 64 b = false := by simpa using hf
        refine .inr (.inl ⟨b, rfl, hb, ?_⟩)
        have h4 : pOk 64 b = true := by
          unfold clsW at h1 h2
          unfold pOk
          refine decide_eq_true ?_
          by_cases g1 : infW 64 < sizeW 64 b
          · rw [if_pos g1] at h2; omega
          · by_cases g2 : sizeW 64 b = infW 64
            · rw [if_neg g1, if_pos g2] at h1; omega
            · omega
        unfold intOk at h3
        rw [h4, Bool.true_and] at h3
        have := of_decide_eq_false h3
        omega
theorem partN_bd (b : Int) : -18446744073709551616 < sI (pNeg 64 b) (pM 64 b) ∧ sI (pNeg 64 b) (pM 64 b) < 18446744073709551616 := by
  have := pM_bd (W := 64) (by unfold Wide; omega) b
  unfold sI
  split <;> omega
end Go.Proofs.YtoimhjcpeifegaaGreatDoor


/- Numbers of patterns: plain; the list of one number that is no greater than the bound. -/
set_option maxRecDepth 50000
namespace Go.Proofs.YtoimhjcpeifegaaGreatDoor
open Go Go.RowKit

theorem w64 : Wide 64 := by unfold Wide; omega
theorem w32 : Wide 32 := by unfold Wide; omega
theorem w16 : Wide 16 := by unfold Wide; omega
theorem le64 {W : Nat} (hW : Wide W) : W ≤ 64 := by rcases hW with rfl | rfl | rfl <;> omega
theorem cls_of {W : Nat} (x : Int) : (isNaN W x = true → clsW W x = 5) ∧ (sizeW W x = infW W → clsW W x = 4) ∧ (pOk W x = true → clsW W x ≠ 4 ∧ clsW W x ≠ 5) := by
  unfold clsW isNaN pOk
  refine ⟨fun h => ?_, fun h => ?_, fun h => ?_⟩
  · rw [if_pos (of_decide_eq_true h)]
  · rw [if_neg (by omega), if_pos h]
  · have := of_decide_eq_true h
    rw [if_neg (by omega), if_neg (by omega)]
    split <;> (try split) <;> omega
/-- What To answers, in the three cases. -/
theorem to_cases {W : Nat} (hW : Wide W) (x : Int) (hx : 0 ≤ x ∧ x < 2 ^ W) :
    (isNaN W x = true ∧ (toW 64 W x).1 = nanW 64) ∨ (isNaN W x = false ∧ sizeW W x = infW W ∧ (toW 64 W x).1 = (if negW W x then sgnW 64 else 0) + infW 64) ∨
    (pOk W x = true ∧ pOk 64 (toW 64 W x).1 = true ∧ pM 64 (toW 64 W x).1 = pM W x ∧ pE 64 (toW 64 W x).1 = pE W x ∧ pNeg 64 (toW 64 W x).1 = pNeg W x) := by
  unfold toW
  by_cases h1 : isNaN W x = true
  · rw [if_pos h1]; exact .inl ⟨h1, rfl⟩
  · have h1' : isNaN W x = false := by simpa using h1
    by_cases h2 : sizeW W x = infW W
    · rw [if_neg h1, if_pos h2]; exact .inr (.inl ⟨h1', h2, rfl⟩)
    · rw [if_neg h1, if_neg h2]
      have h3 : pOk W x = true := by
        unfold isNaN at h1'
        have := of_decide_eq_false h1'
        exact decide_eq_true (by omega)
      exact .inr (.inr ⟨h3, embed hW w64 (le64 hW) x hx h3⟩)
theorem int_same {V W : Nat} (x y : Int) (h1 : pOk V y = pOk W x) (h2 : pM V y = pM W x) (h3 : pE V y = pE W x) (h4 : pNeg V y = pNeg W x) : intOk V y = intOk W x ∧ intN V y = intN W x := by
  have e : intOk V y = intOk W x := by unfold intOk; rw [h1, h3]
  refine ⟨e, ?_⟩
  unfold intN intV
  rw [e, h2, h3, h4]
/-- A pattern's number may be. -/
theorem ok_of {W : Nat} (hW : Wide W) (x : Int) (hx : 0 ≤ x ∧ x < 2 ^ W) : okNV (ofV W x) := by
  unfold ofV
  by_cases hi : intOk W x = true
  · rw [if_pos hi]; trivial
  · rw [if_neg hi]
    have hi' : intOk W x = false := by simpa using hi
    refine ⟨toW_bd2 w64 W x, ?_⟩
    unfold fltB
    rcases to_cases hW x hx with ⟨h1, h2⟩ | ⟨h1, h2, h3⟩ | ⟨h1, h2, h3, h4, h5⟩
    · rw [h2]; decide
    · obtain ⟨k1, k2, k3, k4⟩ := inf_facts w64 (negW W x)
      have hc := (cls_of (W := 64) ((if negW W x then sgnW 64 else 0) + infW 64)).2.1 k1
      rw [h3, hc]
      rfl
    · obtain ⟨c1, c2⟩ := (cls_of (W := 64) (toW 64 W x).1).2.2 h2
      rw [if_neg c2, if_neg c1, (int_same x _ (h2.trans h1.symm) h3 h4 h5).1, hi']
      rfl
theorem lives_to : (toW 64 16 15872).1 = 4609434218613702656 := by
  have h := nearE_exact (W := 64) w64 3 1022 51 (-1) (by decide) (.inr (by decide)) (by decide) (by decide)
  have e : toW 64 16 15872 = (roundW 64 (pNeg 16 15872) (pM 16 15872) (pE 16 15872) false, sameW 64 16 15872 (roundW 64 (pNeg 16 15872) (pM 16 15872) (pE 16 15872) false)) := by
    unfold toW
    rw [if_neg (by decide), if_neg (by decide)]
  rw [e]
  show roundW 64 (pNeg 16 15872) (pM 16 15872) (pE 16 15872) false = _
  rw [show pNeg 16 15872 = false by decide, show pM 16 15872 = 3 by decide, show pE 16 15872 = -1 by decide]
  unfold roundW
  rw [show rM 3 false = 3 from rfl, show rE (-1) false = -1 from rfl, h]
  decide
theorem lives_of : ofV 16 15872 = .flt 4609434218613702656 := by
  rw [of_no (by decide), lives_to]
theorem lives_of1 : ofV 32 1065353216 = .int 1 := by
  rw [of_yes (by decide), show intN 32 1065353216 = 1 by decide]
theorem lives_ok : okNV (.flt 4609434218613702656) := ⟨by omega, by unfold fltB; decide⟩
theorem lives_from : fromW 64 65505 = (4679235752230387712, true) := by
  have h := nearE_exact (W := 64) w64 65505 1037 37 0 (by decide) (.inr (by decide)) (by decide) (by decide)
  have e : roundW 64 (decide ((65505 : Int) < 0)) ((65505 : Int).natAbs : Int) 0 false = 4679235752230387712 := by
    unfold roundW
    rw [show rM ((65505 : Int).natAbs : Int) false = 65505 from rfl, show rE 0 false = 0 from rfl, h]
    decide
  unfold fromW
  rw [e]
  decide
theorem lives_bits : bitsO (whatV (.int 65505)) = (4679235752230387712, true) := by
  show bitsO (.exact 65505) = _
  rw [bits_yes (by rw [lives_from]), lives_from]
theorem lives_narrow : narrowP (4679235752230387712, true) = (32, 1199563008, true) := by
  have h16 : (toW 16 64 4679235752230387712).2 = false := by
    unfold toW
    rw [if_neg (by decide), if_neg (by decide)]
    show sameW 16 64 _ _ = false
    unfold sameW
    generalize roundW 16 (pNeg 64 4679235752230387712) (pM 64 4679235752230387712) (pE 64 4679235752230387712) false = y
    rw [show pM 64 4679235752230387712 = 65505 by decide]
    have : pM 16 y < 65505 := by
      unfold pM
      split
      · have hm : rawM 16 y < 2048 := by
          unfold rawM
          have := numM_lt (shF 16) (sizeW 16 y).toNat
          rw [show (2 : Nat) ^ (shF 16 + 1) = 2048 from rfl] at this
          omega
        rcases Int.lt_or_le 0 (rawM 16 y) with hp | hp
        · have := (odd_spec (rawM 16 y) hp (by omega)).2.2.2.1
          omega
        · have h0 : rawM 16 y = 0 := by
            have : (0 : Int) ≤ rawM 16 y := by unfold rawM; omega
            omega
          rw [h0]; decide
      · omega
    rw [decide_eq_false (show ¬ pM 16 y = 65505 by omega), Bool.and_false, Bool.false_and]
  have h32 : toW 32 64 4679235752230387712 = (1199563008, true) := by
    have h := nearE_exact (W := 32) w32 65505 141 8 0 (by decide) (.inr (by decide)) (by decide) (by decide)
    unfold toW
    rw [if_neg (by decide), if_neg (by decide), show pM 64 4679235752230387712 = 65505 by decide, show pE 64 4679235752230387712 = 0 by decide, show pNeg 64 4679235752230387712 = false by decide]
    have e : roundW 32 false 65505 0 false = 1199563008 := by
      unfold roundW
      rw [show rM 65505 false = 65505 from rfl, show rE 0 false = 0 from rfl, h]
      decide
    rw [e]
    decide
  unfold narrowP
  simp [h16, h32]
theorem lives_what : whatV (.flt 4609434218613702656) = .broken 4609434218613702656 := by
  show oneF _ = _
  unfold oneF
  rw [if_neg (by decide), if_neg (by decide)]
theorem lives_cmp : cmpO (whatV (.int 1)) (whatV (.flt 4609434218613702656)) = (-1, true) := by
  rw [lives_what]
  show cmpO (.exact 1) _ = _
  rw [cmpO_fin _ _ rfl rfl rfl rfl]
  show (cmpFin 1 0 (sI (pNeg 64 4609434218613702656) (pM 64 4609434218613702656)) (pE 64 4609434218613702656), true) = _
  rw [show pM 64 4609434218613702656 = 3 by decide, show pE 64 4609434218613702656 = -1 by decide, show pNeg 64 4609434218613702656 = false by decide]
  decide
end Go.Proofs.YtoimhjcpeifegaaGreatDoor

