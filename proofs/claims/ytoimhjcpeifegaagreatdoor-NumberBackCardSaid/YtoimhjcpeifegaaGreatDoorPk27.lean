/- Contracts of functions, and plain facts, part 27. -/
import Derived.Test.YtoimhjcpeifegaaGreatDoorPk7
import Derived.Test.YtoimhjcpeifegaaGreatDoorPk8
import Derived.Test.YtoimhjcpeifegaaGreatDoorPk12
import Derived.Test.YtoimhjcpeifegaaGreatDoorPk14
import Derived.Test.YtoimhjcpeifegaaGreatDoorPk15
import Derived.Test.YtoimhjcpeifegaaGreatDoorPk25
import Derived.Test.YtoimhjcpeifegaaGreatDoorPk26
set_option linter.unusedVariables false
set_option linter.unusedSimpArgs false
/- Patterns there and back: by their parts, in another width, as whole numbers. Plain. -/
namespace Go.Proofs.YtoimhjcpeifegaaGreatDoor

theorem size_idem {W : Nat} (hW : Wide W) (x : Int) (hx : 0 ≤ x ∧ x < 2 ^ W) : sizeW W (sizeW W x) = sizeW W x := by
  have := size_bounds hW x hx
  exact size_low _ this.2

/-- The parts hang on the size alone. -/
theorem parts_size {W : Nat} (hW : Wide W) (x : Int) (hx : 0 ≤ x ∧ x < 2 ^ W) : pM W (sizeW W x) = pM W x ∧ pE W (sizeW W x) = pE W x ∧ pOk W (sizeW W x) = pOk W x := by
  have e := size_idem hW x hx
  unfold pM pE pOk rawM rawE
  rw [e]
  exact ⟨rfl, rfl, rfl⟩

theorem near_parts {W : Nat} (hW : Wide W) (x : Int) (hx : 0 ≤ x ∧ x < 2 ^ W) (h : pOk W x = true) : (nearE W (pM W x).toNat (pE W x) : Int) = sizeW W x := by
  have hs := size_bounds hW x hx
  have hI := infW_eq hW
  have hlt : sizeW W x < infW W := of_decide_eq_true h
  obtain ⟨k1, k2, -, -, -⟩ := parts_num hW (sizeW W x) hs.1 hlt
  obtain ⟨e1, e2, -⟩ := parts_size hW x hx
  rw [e1, e2] at k2
  rw [e2] at k1
  have hm := pM_bd hW x
  have h2 : nearE W (pM W x).toNat (pE W x) = (sizeW W x).toNat := by
    refine nearE_self hW _ _ _ (by omega) ?_
    unfold rX rU
    rw [show (shL W - pE W x).toNat = 0 by omega, Nat.pow_zero, Nat.mul_one]
    have : (((pM W x).toNat * 2 ^ (pE W x - shL W).toNat : Nat) : Int) = (numN (shF W) (sizeW W x).toNat : Nat) := by
      rw [← k2, Int.natCast_mul, Int.toNat_of_nonneg hm.1]
      simp
    omega
  rw [h2]
  omega

theorem round_parts {W : Nat} (hW : Wide W) (x : Int) (hx : 0 ≤ x ∧ x < 2 ^ W) (h : pOk W x = true) : roundW W (pNeg W x) (pM W x) (pE W x) false = x := by
  have e := near_parts hW x hx h
  unfold roundW
  show (if pNeg W x = true then sgnW W else 0) + ((nearE W (pM W x).toNat (pE W x) : Nat) : Int) = x
  rw [e]
  have hn : pNeg W x = negW W x := by unfold pNeg; rw [h]; rfl
  rw [hn]
  unfold negW sizeW
  by_cases hs : sgnW W ≤ x
  · rw [decide_eq_true hs, if_pos rfl, if_pos hs]; omega
  · rw [decide_eq_false hs, if_neg (by decide), if_neg hs]; omega

/-- Numbers of few digits that are not too great are patterns' numbers. -/
theorem num_of (F E M t : Nat) (hM : M < 2 ^ (F + 1)) : ∃ z, numN F z = M * 2 ^ t := by
  by_cases h0 : M = 0
  · exact ⟨0, by rw [h0, numN_zero, Nat.zero_mul]⟩
  · have b1 := blen_ge M h0
    have b2 := blen_lt M
    have hb : blen M ≤ F + 1 := by
      have := Nat.lt_of_le_of_lt b1 hM
      have := (Nat.pow_lt_pow_iff_right (show 1 < 2 by omega)).1 this
      omega
    have hb0 := blen_pos M h0
    by_cases hs : blen M + t ≤ F + 1
    · have hlt : M * 2 ^ t < 2 ^ (F + 1) := by
        have h1 : M * 2 ^ t < 2 ^ blen M * 2 ^ t := Nat.mul_lt_mul_of_pos_right b2 (Nat.two_pow_pos t)
        rw [← Nat.pow_add] at h1
        exact Nat.lt_of_lt_of_le h1 (Nat.pow_le_pow_right (by omega) hs)
      refine ⟨M * 2 ^ t, ?_⟩
      have := numN_at F 0 (M * 2 ^ t) (.inl rfl) (by omega)
      rw [Nat.zero_mul, Nat.zero_add, Nat.pow_zero, Nat.mul_one] at this
      exact this
    · have hk1 : 2 ^ F ≤ M * 2 ^ (F + 1 - blen M) := by
        refine Nat.le_trans ?_ (Nat.mul_le_mul_right _ b1)
        rw [← Nat.pow_add]
        exact Nat.pow_le_pow_right (by omega) (by omega)
      have hk2 : M * 2 ^ (F + 1 - blen M) ≤ 2 ^ (F + 1) := by
        have h1 : M * 2 ^ (F + 1 - blen M) ≤ 2 ^ blen M * 2 ^ (F + 1 - blen M) := Nat.mul_le_mul_right _ (Nat.le_of_lt b2)
        rw [← Nat.pow_add] at h1
        rwa [show blen M + (F + 1 - blen M) = F + 1 by omega] at h1
      refine ⟨(blen M + t - (F + 1)) * 2 ^ F + M * 2 ^ (F + 1 - blen M), ?_⟩
      rw [numN_at F _ _ (.inr hk1) hk2, Nat.mul_assoc, ← Nat.pow_add]
      congr 2
      omega

theorem numN_lt_iff (F a b : Nat) : numN F a < numN F b ↔ a < b := by
  constructor
  · intro h
    rcases Nat.lt_or_ge a b with h1 | h1
    · exact h1
    · have := numN_mono F h1; omega
  · intro h
    exact Nat.lt_of_lt_of_le (numN_lt_succ F a) (numN_mono F h)

theorem numN_inj (F a b : Nat) (h : numN F a = numN F b) : a = b := by
  have h1 := numN_lt_iff F a b
  have h2 := numN_lt_iff F b a
  omega

/-- One number, one pair of parts. -/
theorem odd_unique (m n : Int) (e f L : Int) (he : L ≤ e) (hf : L ≤ f) (hm : m % 2 = 1) (hn : n % 2 = 1) (h : m * 2 ^ (e - L).toNat = n * 2 ^ (f - L).toNat) (hm0 : 0 < m) (hn0 : 0 < n) : m = n ∧ e = f := by
  obtain ⟨a, rfl⟩ := Int.eq_ofNat_of_zero_le (Int.le_of_lt hm0)
  obtain ⟨b, rfl⟩ := Int.eq_ofNat_of_zero_le (Int.le_of_lt hn0)
  have h2 : 2 ^ (e - L).toNat * (2 * (a / 2) + 1) = 2 ^ (f - L).toNat * (2 * (b / 2) + 1) := by
    rw [show 2 * (a / 2) + 1 = a by omega, show 2 * (b / 2) + 1 = b by omega, Nat.mul_comm, Nat.mul_comm (2 ^ (f - L).toNat)]
    have : ((a * 2 ^ (e - L).toNat : Nat) : Int) = ((b * 2 ^ (f - L).toNat : Nat) : Int) := by simpa using h
    omega
  obtain ⟨k1, k2⟩ := two_split h2
  omega

/-- x of width V has its number in width W too, if W is no narrower. -/
theorem embed {V W : Nat} (hV : Wide V) (hW : Wide W) (hle : V ≤ W) (y : Int) (hy : 0 ≤ y ∧ y < 2 ^ V) (h : pOk V y = true) :
    let z := roundW W (pNeg V y) (pM V y) (pE V y) false
    pOk W z = true ∧ pM W z = pM V y ∧ pE W z = pE V y ∧ pNeg W z = pNeg V y := by
  intro z
  have hlt : sizeW V y < infW V := of_decide_eq_true h
  have hs := size_bounds hV y hy
  obtain ⟨k1, k2, -, k4, k5⟩ := parts_num hV (sizeW V y) hs.1 hlt
  obtain ⟨e1, e2, -⟩ := parts_size hV y hy
  rw [e1] at k2 k4 k5
  rw [e2] at k1 k2
  have hm := pM_bd hV y
  have hL : shL W ≤ shL V ∧ shF V ≤ shF W ∧ (topP V : Int) + shL V ≤ topP W + shL W := by
    rcases hV with rfl | rfl | rfl <;> rcases hW with rfl | rfl | rfl <;> first | decide | omega
  have hIV := infW_eq hV
  have hIW := infW_eq hW
  -- the number in steps of W
  have hraw := numN_parts (shF V) (sizeW V y).toNat
  have hmlt := numM_lt (shF V) (sizeW V y).toNat
  obtain ⟨zz, hzz⟩ := num_of (shF W) 0 (numM (shF V) (sizeW V y).toNat) (numP (shF V) (sizeW V y).toNat + (shL V - shL W).toNat) (Nat.lt_of_lt_of_le hmlt (Nat.pow_le_pow_right (by omega) (by omega)))
  rw [Nat.pow_add, ← Nat.mul_assoc, ← hraw] at hzz
  have hzI : zz < infN W := by
    rw [← numN_lt_iff (shF W), hzz, numN_inf hW]
    have h1 : numN (shF V) (sizeW V y).toNat < 2 ^ topP V := by
      rw [← numN_inf hV]
      exact (numN_lt_iff _ _ _).2 (by omega)
    have h2 : numN (shF V) (sizeW V y).toNat * 2 ^ (shL V - shL W).toNat < 2 ^ topP V * 2 ^ (shL V - shL W).toNat := Nat.mul_lt_mul_of_pos_right h1 (Nat.two_pow_pos _)
    rw [← Nat.pow_add] at h2
    exact Nat.lt_of_lt_of_le h2 (Nat.pow_le_pow_right (by omega) (by omega))
  -- M 2^e in steps of W
  have hX : (pM V y).toNat * 2 ^ (pE V y - shL W).toNat = numN (shF W) zz := by
    have c1 : (pM V y).toNat * 2 ^ (pE V y - shL V).toNat = numN (shF V) (sizeW V y).toNat := by
      have : (((pM V y).toNat * 2 ^ (pE V y - shL V).toNat : Nat) : Int) = (numN (shF V) (sizeW V y).toNat : Nat) := by
        rw [← k2, Int.natCast_mul, Int.toNat_of_nonneg hm.1]
        simp
      omega
    rw [hzz, ← c1, Nat.mul_assoc, ← Nat.pow_add]
    congr 2
    omega
  have hnear : nearE W (pM V y).toNat (pE V y) = zz := by
    refine nearE_self hW _ _ _ (by omega) ?_
    unfold rX rU
    rw [show (shL W - pE V y).toNat = 0 by omega, Nat.pow_zero, Nat.mul_one, hX]
  have hz : z = (if pNeg V y then sgnW W else 0) + (zz : Int) := by
    show roundW W (pNeg V y) (pM V y) (pE V y) false = _
    unfold roundW
    show (if pNeg V y = true then sgnW W else 0) + ((nearE W (pM V y).toNat (pE V y) : Nat) : Int) = _
    rw [hnear]
  have hSI := infN_lt hW
  have hzs : sizeW W z = zz ∧ negW W z = pNeg V y := by
    rw [hz]
    unfold sizeW negW
    cases pNeg V y
    · simp; omega
    · simp; omega
  have hok : pOk W z = true := by unfold pOk; rw [hzs.1]; exact decide_eq_true (by omega)
  have hzb : 0 ≤ z ∧ z < 2 ^ W := roundW_bd hW _ _ _ _
  obtain ⟨q1, q2, -, q4, q5⟩ := parts_num hW (sizeW W z) (by rw [hzs.1]; omega) (by rw [hzs.1]; omega)
  obtain ⟨g1, g2, -⟩ := parts_size hW z hzb
  rw [g1] at q2 q4 q5
  rw [g2] at q1 q2
  rw [hzs.1, Int.toNat_natCast] at q2
  have hng : pNeg W z = pNeg V y := by unfold pNeg at *; rw [hok, Bool.true_and]; exact hzs.2
  refine ⟨hok, ?_, ?_, hng⟩ <;> by_cases h0 : sizeW V y = 0
  · have hz0 : zz = 0 := numN_inj (shF W) zz 0 (by rw [hzz, h0, numN_zero, show (0 : Int).toNat = 0 from rfl, numN_zero, Nat.zero_mul])
    rw [q4 (by rw [hzs.1, hz0]; rfl), k4 h0]
  · have hz0 : 0 < zz := by
      rcases Nat.eq_zero_or_pos zz with h1 | h1
      · rw [h1, numN_zero] at hzz
        have h2 := (numN_lt_iff (shF V) 0 (sizeW V y).toNat).2 (by omega)
        rw [numN_zero] at h2
        have := Nat.mul_pos h2 (Nat.two_pow_pos (shL V - shL W).toNat)
        omega
      · exact h1
    have o1 := q5 (by rw [hzs.1]; omega)
    have o2 := k5 (by omega)
    have hX2 : pM V y * 2 ^ (pE V y - shL W).toNat = (numN (shF W) zz : Nat) := by
      rw [← hX, Int.natCast_mul, Int.toNat_of_nonneg hm.1]; simp
    exact (odd_unique _ _ _ _ (shL W) q1 (by omega) o1.2 o2.2 (q2.trans hX2.symm) o1.1 o2.1).1
  · have hz0 : zz = 0 := numN_inj (shF W) zz 0 (by rw [hzz, h0, numN_zero, show (0 : Int).toNat = 0 from rfl, numN_zero, Nat.zero_mul])
    have a1 : pE W z = 0 := by unfold pE; rw [hzs.1, hz0, hok]; rfl
    have a2 : pE V y = 0 := by unfold pE; rw [h0, h]; rfl
    rw [a1, a2]
  · have hz0 : 0 < zz := by
      rcases Nat.eq_zero_or_pos zz with h1 | h1
      · rw [h1, numN_zero] at hzz
        have h2 := (numN_lt_iff (shF V) 0 (sizeW V y).toNat).2 (by omega)
        rw [numN_zero] at h2
        have := Nat.mul_pos h2 (Nat.two_pow_pos (shL V - shL W).toNat)
        omega
      · exact h1
    have o1 := q5 (by rw [hzs.1]; omega)
    have o2 := k5 (by omega)
    have hX2 : pM V y * 2 ^ (pE V y - shL W).toNat = (numN (shF W) zz : Nat) := by
      rw [← hX, Int.natCast_mul, Int.toNat_of_nonneg hm.1]; simp
    exact (odd_unique _ _ _ _ (shL W) q1 (by omega) o1.2 o2.2 (q2.trans hX2.symm) o1.1 o2.1).2

theorem pNeg_of {W : Nat} (x : Int) (h : pOk W x = true) : pNeg W x = negW W x := by unfold pNeg; rw [h]; rfl

/-- A pattern that is no finite one, in another width. -/
theorem inf_facts {V : Nat} (hV : Wide V) (b : Bool) : let y := (if b then sgnW V else 0) + infW V
    sizeW V y = infW V ∧ negW V y = b ∧ pOk V y = false ∧ isNaN V y = false := by
  have h := inf_fits hV
  have hp := pow_wide hV
  intro y
  have e : sizeW V y = infW V ∧ negW V y = b := by
    show sizeW V ((if b then sgnW V else 0) + infW V) = _ ∧ negW V ((if b then sgnW V else 0) + infW V) = _
    unfold sizeW negW
    cases b
    · simp; omega
    · simp; omega
  refine ⟨e.1, e.2, ?_, ?_⟩
  · unfold pOk; rw [e.1]; exact decide_eq_false (Int.lt_irrefl _)
  · unfold isNaN; rw [e.1]; exact decide_eq_false (Int.lt_irrefl _)

theorem nan_facts {V : Nat} (hV : Wide V) : isNaN V (nanW V) = true := by rcases hV with rfl | rfl | rfl <;> decide

theorem not_nan {W : Nat} (x : Int) (h : pOk W x = true) : isNaN W x = false ∧ sizeW W x ≠ infW W := by
  have h1 : sizeW W x < infW W := of_decide_eq_true h
  unfold isNaN
  exact ⟨decide_eq_false (by omega), by omega⟩

theorem back_facts {V W : Nat} (hV : Wide V) (hW : Wide W) (x : Int) (hx : 0 ≤ x ∧ x < 2 ^ W) :
    (isNaN W x = true → (toW V W x).1 = nanW V ∧ (toW V W x).2 = true ∧ (toW W V (toW V W x).1).1 = nanW W) ∧
    (isNaN W x = false → (toW V W x).2 = decide ((toW W V (toW V W x).1).1 = x) ∧ (W ≤ V → (toW V W x).2 = true)) := by
  constructor
  · intro h
    have e1 : toW V W x = (nanW V, true) := by unfold toW; rw [h, if_pos rfl]
    rw [e1]
    have e2 : toW W V (nanW V) = (nanW W, true) := by unfold toW; rw [nan_facts hV, if_pos rfl]
    rw [e2]
    exact ⟨rfl, rfl, rfl⟩
  · intro h
    by_cases hi : sizeW W x = infW W
    · have e1 : toW V W x = ((if negW W x then sgnW V else 0) + infW V, true) := by unfold toW; rw [h, if_neg (by decide), if_pos hi]
      obtain ⟨q1, q2, q3, q4⟩ := inf_facts hV (negW W x)
      have e2 : toW W V ((if negW W x then sgnW V else 0) + infW V) = ((if negW W x then sgnW W else 0) + infW W, true) := by unfold toW; rw [q4, if_neg (by decide), if_pos q1, q2]
      rw [e1]
      show true = decide ((toW W V ((if negW W x then sgnW V else 0) + infW V)).1 = x) ∧ _
      rw [e2]
      refine ⟨?_, fun _ => rfl⟩
      symm
      refine decide_eq_true ?_
      show (if negW W x then sgnW W else 0) + infW W = x
      rw [← hi]
      rcases neg_size (W := W) x with ⟨n1, s1, -⟩ | ⟨n1, s1, -⟩ <;> rw [n1, s1] <;> simp <;> omega
    · have hok : pOk W x = true := by
        unfold isNaN at h
        have := of_decide_eq_false h
        unfold pOk
        exact decide_eq_true (by omega)
      have e1 : toW V W x = (roundW V (pNeg W x) (pM W x) (pE W x) false, sameW V W x (roundW V (pNeg W x) (pM W x) (pE W x) false)) := by unfold toW; rw [h, if_neg (by decide), if_neg hi]
      have hyb := roundW_bd hV (pNeg W x) (pM W x) (pE W x) false
      have hrx := round_parts hW x hx hok
      rw [e1]
      show sameW V W x (roundW V (pNeg W x) (pM W x) (pE W x) false) = decide ((toW W V (roundW V (pNeg W x) (pM W x) (pE W x) false)).1 = x) ∧ (W ≤ V → sameW V W x (roundW V (pNeg W x) (pM W x) (pE W x) false) = true)
      -- the sign of what is told
      have hsgn : negW V (roundW V (pNeg W x) (pM W x) (pE W x) false) = pNeg W x := by
        have h1 := nearE_le V (rM (pM W x) false) (rE (pE W x) false)
        have h2 := infN_lt hV
        have h3 := pow_wide hV
        unfold negW roundW
        cases pNeg W x
        · simp; omega
        · simp; omega
      have hemb := fun hle : W ≤ V => embed hW hV hle x hx hok
      have hwid : W ≤ V ∨ V ≤ W := Nat.le_total W V
      generalize roundW V (pNeg W x) (pM W x) (pE W x) false = y at *
      have back : pOk V y = true → (toW W V y).1 = roundW W (pNeg V y) (pM V y) (pE V y) false := fun hy => by
        obtain ⟨z1, z2⟩ := not_nan y hy
        unfold toW
        rw [z1, if_neg (by decide), if_neg z2]
      have same_of : pOk V y = true → pM V y = pM W x → pE V y = pE W x → sameW V W x y = true ∧ (toW W V y).1 = x := fun hy hm he => by
        refine ⟨?_, ?_⟩
        · unfold sameW; rw [hy, decide_eq_true hm, decide_eq_true he]; rfl
        · rw [back hy, hm, he, pNeg_of y hy, hsgn, hrx]
      rcases hwid with hle | hle
      · obtain ⟨k1, k2, k3, -⟩ := hemb hle
        obtain ⟨s1, s2⟩ := same_of k1 k2 k3
        rw [s1, s2]
        simp
      · refine ⟨?_, fun h2 => ?_⟩
        · by_cases hy : pOk V y = true
          · obtain ⟨g1, g2, g3, g4⟩ := embed hV hW hle y hyb hy
            by_cases hs : pM V y = pM W x ∧ pE V y = pE W x
            · obtain ⟨s1, s2⟩ := same_of hy hs.1 hs.2
              rw [s1, s2]
              simp
            · have f1 : sameW V W x y = false := by
                unfold sameW
                rw [hy, Bool.true_and]
                by_cases hm : pM V y = pM W x
                · rw [decide_eq_true hm, decide_eq_false (fun he => hs ⟨hm, he⟩)]; rfl
                · rw [decide_eq_false hm]; rfl
              rw [f1, back hy]
              symm
              refine decide_eq_false fun e => hs ?_
              rw [e] at g2 g3
              exact ⟨g2.symm, g3.symm⟩
          · have hy2 : pOk V y = false := by simpa using hy
            have f1 : sameW V W x y = false := by unfold sameW; rw [hy2]; rfl
            rw [f1]
            symm
            refine decide_eq_false fun e => ?_
            -- what is no finite one comes back as none
            by_cases hn : isNaN V y = true
            · have e2 : (toW W V y).1 = nanW W := by unfold toW; rw [hn, if_pos rfl]
              rw [e2] at e
              have := nan_facts hW
              rw [e, h] at this
              cases this
            · have hn2 : isNaN V y = false := by simpa using hn
              have hyi : sizeW V y = infW V := by
                unfold isNaN at hn2
                unfold pOk at hy2
                have a1 := of_decide_eq_false hn2
                have a2 := of_decide_eq_false hy2
                omega
              have e2 : (toW W V y).1 = (if negW V y then sgnW W else 0) + infW W := by unfold toW; rw [hn2, if_neg (by decide), if_pos hyi]
              rw [e2] at e
              have := (inf_facts hW (negW V y)).2.2.1
              rw [e, hok] at this
              cases this
        · have hWV : W = V := by omega
          subst hWV
          obtain ⟨k1, k2, k3, -⟩ := hemb (Nat.le_refl _)
          exact (same_of k1 k2 k3).1

/-- A whole number that a pattern is, and back. -/
theorem int_back {W : Nat} (hW : Wide W) (x : Int) (hx : 0 ≤ x ∧ x < 2 ^ W) (h : intOk W x = true) :
    (fromW W (intN W x)).2 = true ∧ ((fromW W (intN W x)).1 = x ∨ (x = sgnW W ∧ (fromW W (intN W x)).1 = 0)) := by
  have hsp : pOk W x = true ∧ 0 ≤ pE W x := by
    unfold intOk at h
    simp only [Bool.and_eq_true, decide_eq_true_eq] at h
    exact h
  have hm := pM_bd hW x
  have hV : intV W x = pM W x * 2 ^ (pE W x).toNat := by unfold intV; rw [h, if_pos rfl]
  have hp : (0 : Int) < 2 ^ (pE W x).toNat := Int.pow_pos (by omega)
  have hV0 : 0 ≤ intV W x := by rw [hV]; exact Int.mul_nonneg hm.1 (Int.le_of_lt hp)
  have hA : ((intN W x).natAbs : Int) = intV W x := by unfold intN; split <;> omega
  have hnear : nearE W (intN W x).natAbs 0 = nearE W (pM W x).toNat (pE W x) := by
    have h1 := nearE_shift W (pM W x).toNat (pE W x).toNat (pE W x)
    rw [show pE W x - ((pE W x).toNat : Int) = 0 by omega] at h1
    rw [← h1]
    congr 1
    have : (((pM W x).toNat * 2 ^ (pE W x).toNat : Nat) : Int) = intV W x := by
      rw [hV, Int.natCast_mul, Int.toNat_of_nonneg hm.1]; simp
    omega
  have hnp := near_parts hW x hx hsp.1
  have hrd : ∀ b, roundW W b (intN W x).natAbs 0 false = (if b then sgnW W else 0) + sizeW W x := fun b => by
    unfold roundW
    show (if b = true then sgnW W else 0) + ((nearE W ((intN W x).natAbs : Int).toNat 0 : Nat) : Int) = _
    rw [Int.toNat_natCast, hnear, hnp]
  have hf : fromW W (intN W x) = ((if decide (intN W x < 0) then sgnW W else 0) + sizeW W x, intOk W ((if decide (intN W x < 0) then sgnW W else 0) + sizeW W x) && decide ((intN W ((if decide (intN W x < 0) then sgnW W else 0) + sizeW W x)).natAbs = (intN W x).natAbs)) := by
    unfold fromW
    rw [hrd]
  have hb := size_bounds hW x hx
  have hpw := pow_wide hW
  by_cases hz : sizeW W x = 0
  · have hv0 : intV W x = 0 := by
      rw [hV]
      have : pM W x = 0 := by unfold pM; rw [hz]; simp
      rw [this, Int.zero_mul]
    have hN0 : intN W x = 0 := by omega
    rw [hf, hN0, hz]
    have e1 : (if decide ((0 : Int) < 0) = true then sgnW W else 0) + 0 = 0 := by simp
    rw [e1]
    have e2 : intOk W 0 = true ∧ intN W 0 = 0 := by rcases hW with rfl | rfl | rfl <;> decide
    refine ⟨by show (intOk W 0 && decide ((intN W 0).natAbs = (0 : Int).natAbs)) = true; rw [e2.1, e2.2]; rfl, ?_⟩
    rcases neg_size (W := W) x with ⟨n1, s1, -⟩ | ⟨n1, s1, -⟩
    · right; exact ⟨by omega, rfl⟩
    · left; show (0 : Int) = x; omega
  · have hpm : 0 < pM W x := by
      obtain ⟨-, -, -, -, k5⟩ := parts_num hW (sizeW W x) hb.1 (of_decide_eq_true hsp.1)
      rw [(parts_size hW x hx).1] at k5
      exact (k5 (by omega)).1
    have hvp : 0 < intV W x := by rw [hV]; exact Int.mul_pos hpm hp
    have hng : decide (intN W x < 0) = negW W x := by
      rw [← pNeg_of x hsp.1]
      unfold intN
      cases pNeg W x
      · simp; omega
      · simp; omega
    have hback : (if decide (intN W x < 0) = true then sgnW W else 0) + sizeW W x = x := by
      rw [hng]
      rcases neg_size (W := W) x with ⟨n1, s1, -⟩ | ⟨n1, s1, -⟩ <;> rw [n1, s1] <;> simp <;> omega
    rw [hf, hback]
    exact ⟨by show (intOk W x && decide ((intN W x).natAbs = (intN W x).natAbs)) = true; rw [h]; simp, .inl rfl⟩
end Go.Proofs.YtoimhjcpeifegaaGreatDoor


/- Functions that read the laid variables shapes and deBruijn64tab. -/
namespace Go.Proofs.YtoimhjcpeifegaaGreatDoor
open Go Go.RowKit

structure EnvP (w : World) (B : Bx) : Prop where
  sh : Shapes w
  tab : Tab w
  no : ¬ B 2
theorem cell_mv {w w' : World} {B B' : Bx} (h : Mv w B w' B') {a : Addr} {v : Value} (hc : w.cell? a = some v) (hn : ¬ B a.block ∨ ¬ Plain w a.block) : w'.cell? a = some v := by
  have hl := World.block_lt_of_cell? w a hc
  rcases h.same _ hl with h1 | ⟨h1, h2⟩
  · rw [← hc]; exact World.cell?_of_block h1
  · rcases hn with h3 | h3
    · exact absurd h1 h3
    · exact absurd h2 h3
theorem EnvP.mv {w w' : World} {B B' : Bx} (h : Mv w B w' B') (e : EnvP w B) : EnvP w' B' := by
  obtain ⟨⟨c0, c1, c2, c3, c4, c5, c6, c7, c8⟩, ht, hn⟩ := e
  have k : ∀ {j : Nat} {v : Value}, w.cell? ⟨2, j, none⟩ = some v → w'.cell? ⟨2, j, none⟩ = some v := fun hc => cell_mv h hc (.inl hn)
  refine ⟨⟨k c0, k c1, k c2, k c3, k c4, k c5, k c6, k c7, k c8⟩, fun j hj => cell_mv h (ht j hj) (.inr fun hp => hp _ .u8 _ rfl (.inr rfl) (ht j hj)), fun hb => hn (h.box _ (World.block_lt_of_cell? w _ c0) hb)⟩
def EnvV : VP := ⟨fun _ w B => EnvP w B, fun _ _ _ _ _ h e => e.mv h⟩
structure ConE (P : Program) (f : FuncId) (Ds : List VP) (R : VP) : Prop where
  enters : ∀ (vs : Array Value) (w : World), (callFunc f vs).run P w = .ok (.enter f vs) w
  calls : ∀ (vs : List Value) (w : World) (B : Bx), Own1 B w → EnvP w B → VAll vs Ds w B → Calls P f vs.toArray w (fun e w' => ∃ v, e = .returned v ∧ R.p v w' B ∧ Below w.heap.size w w')
theorem ConE.weak {P : Program} {f : FuncId} {Ds : List VP} {R R' : VP} (h : ConE P f Ds R) (hw : ∀ v w B, R.p v w B → R'.p v w B) : ConE P f Ds R' :=
  ⟨h.enters, fun vs w B hB hE hV => (h.calls vs w B hB hE hV).mono fun e w' ⟨v, e1, h1, h2⟩ => ⟨v, e1, hw _ _ _ h1, h2⟩⟩
section
variable {P : Program} {need : List (Tmp × FD)} {d : Option Tmp} {ty : TypeId} {pos : String} {af : Array Edge} {g : Option (Nat × Bool)}
theorem ok_callE {f : FuncId} {args : List Operand} {ts : Array TypeId} {Ds : List VP} {R : VP} (C : ConE P f Ds R) (k : Nat) {s : Tmp} (hk : need[k]? = some (s, .val EnvV)) (h : Opds need args Ds) : OpOk P ⟨d, .call { callee := .value (.func f), args := args.toArray, argTypes := ts }, ty, pos, af, g⟩ need (.val R) false := by
  intro Q K a w B hB hF hK
  have hr : (execOp a.eval ⟨d, .call { callee := .value (.func f), args := args.toArray, argTypes := ts }, ty, pos, af, g⟩).run P w = .ok (.enter f (args.map a.eval).toArray) w := by
    simp [execOp, resolve, Act.eval, Deferred.ofValue, invoke, Sem.run_bind, C.enters]
  unfold Oper.wp
  rw [hr]
  have hE : EnvP w B := hF.get k hk
  refine (C.calls (args.map a.eval) w B hB hE (h.all hF)).mono ?_
  rintro e w' ⟨v, rfl, h1, h2⟩
  have hbl := Bl.of_below B h2
  exact hK v w' B h1 hbl h2 (fun k hk => Nat.lt_of_lt_of_le (hB k hk) h2.size) (by simp)
end
theorem f_enterE {P : Program} {f : FuncId} {fn : Func} {c : Code} {Ds : List VP} {R : VP} {N : Nat} (hN : fn.ntmps = N) (he : ∀ (vs : Array Value) (w : World), (callFunc f vs).run P w = .ok (.enter f vs) w) (hf : P.funcs[f]? = some fn) (hb : fn.body = some c) (hn : Ds.length ≤ N)
    (h : ∀ (a : Act) (w : World) (B : Bx), St N w B a w B (Ds.zipIdx.map (fun x => (x.2, .val x.1)) ++ [(N, .val EnvV)]) [] → c.wp P (bodyPost P fn fun e w' => ∃ v, e = .returned v ∧ R.p v w' B ∧ Below w.heap.size w w') a w) : ConE P f Ds R := by
  refine ⟨he, fun vs w B hB hE hV => calls_of_wp hf hb (h _ w B ⟨rfl, ?_, Fct.of_all fun x hx => ?_, by simp, by simp, Below.refl _ _, hB, fun _ h => h⟩)⟩
  · have hl : vs.length = Ds.length := by
      clear hn h hB hE
      induction vs generalizing Ds with
      | nil => cases Ds with
        | nil => rfl
        | cons D Ds => exact hV.elim
      | cons v vs ih => cases Ds with
        | nil => exact hV.elim
        | cons D Ds => simp [ih hV.2]
    simp [hN]; omega
  · rcases List.mem_append.1 hx with hx | hx
    · obtain ⟨y, hy, rfl⟩ := List.mem_map.1 hx
      have h1 := List.mem_zipIdx_iff_getElem?.1 hy
      obtain ⟨v, h2, h3⟩ := hV.get y.2 y.1 h1
      have hlt : y.2 < vs.length := (List.getElem?_eq_some_iff.1 h2).1
      have e : (vs.toArray ++ Array.replicate (fn.ntmps - vs.toArray.size) undef).getD y.2 undef = v := by
        rw [Array.getD_eq_getD_getElem?, Array.getElem?_append_left (by simpa using hlt)]
        simp [h2]
      show y.1.p _ w B
      rw [e]
      exact h3
    · rw [List.mem_singleton] at hx
      subst hx
      exact hE
end Go.Proofs.YtoimhjcpeifegaaGreatDoor


/- R3cmp. (Printed by flowfn.py.) -/
namespace Go.Proofs.YtoimhjcpeifegaaGreatDoor
open Go Go.RowKit

end Go.Proofs.YtoimhjcpeifegaaGreatDoor

