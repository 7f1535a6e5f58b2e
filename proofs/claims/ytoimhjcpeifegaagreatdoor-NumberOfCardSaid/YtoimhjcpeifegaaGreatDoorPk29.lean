/- Contracts of functions, and plain facts, part 29. -/
import Derived.Deep.DeepCutAuto
import Derived.Test.YtoimhjcpeifegaaGreatDoorPk10
import Derived.Test.YtoimhjcpeifegaaGreatDoorPk14
import Derived.Test.YtoimhjcpeifegaaGreatDoorPk17
import Derived.Test.YtoimhjcpeifegaaGreatDoorPk19
import Derived.Test.YtoimhjcpeifegaaGreatDoorPk25
set_option linter.unusedVariables false
set_option linter.unusedSimpArgs false
/- crucibleref04.Round. -/
namespace Go.Proofs.YtoimhjcpeifegaaGreatDoor
open Go.RowKit

theorem inf_bd {W : Nat} (hW : Wide W) : 0 < infW W ∧ infW W ≤ 9218868437227405312 := by rcases hW with rfl | rfl | rfl <;> decide
theorem sgn_bd {W : Nat} (hW : Wide W) : 0 < sgnW W ∧ sgnW W ≤ 9223372036854775808 := by rcases hW with rfl | rfl | rfl <;> decide

theorem rM_pos {V : Int} {more : Bool} (hV : 0 ≤ V) (h : ¬ (V = 0 ∧ more = false)) : 1 ≤ rM V more := by
  unfold rM
  cases more
  · have : V ≠ 0 := fun e => h ⟨e, rfl⟩
    simp
    omega
  · simp

theorem near_big {W : Nat} (hW : Wide W) (V p : Int) (more : Bool) (hV : 0 ≤ V) (h : ¬ (V = 0 ∧ more = false)) (hp : 1200 < p) : nearE W (rM V more) (rE p more) = infN W := by
  refine nearE_inf hW _ 0 _ (by have := rM_pos hV h; simpa using this) ?_
  have h1 : 1200 ≤ rE p more := by unfold rE; split <;> omega
  have h2 : (topP W : Int) + shL W ≤ 1100 := by rcases hW with rfl | rfl | rfl <;> decide
  omega

theorem rM_lt {V : Int} {more : Bool} (b : Nat) (hV : 0 ≤ V) (h : V < 2 ^ b) : rM V more < 2 ^ (b + 1) := by
  have h1 : V.toNat < 2 ^ b := by
    have : ((V.toNat : Nat) : Int) < ((2 ^ b : Nat) : Int) := by rw [Int.toNat_of_nonneg hV]; simpa using h
    exact Int.ofNat_lt.1 this
  unfold rM
  rw [Nat.pow_succ]
  split <;> omega

theorem near_tiny {W : Nat} (hW : Wide W) (V p : Int) (more : Bool) (hV : 0 ≤ V) (h : V < 2 ^ 200) (hp : p < -2000) : nearE W (rM V more) (rE p more) = 0 := by
  refine nearE_small hW _ 201 _ (rM_lt 200 hV h) ?_
  have h1 : rE p more ≤ p := by unfold rE; split <;> omega
  have h2 : -1074 ≤ shL W := by rcases hW with rfl | rfl | rfl <;> decide
  omega

/-- The 200 highest digits, and whether something stands behind. -/
theorem near_cut_int {W : Nat} (hW : Wide W) (V p : Int) (more : Bool) (hV : 0 ≤ V) (N : Int) (hN : N = bitsOf V) (h : 200 < N) :
    nearE W (rM V more) (rE p more) = nearE W (rM (V / 2 ^ (N - 200).toNat) (more || decide (V % 2 ^ (N - 200).toNat ≠ 0))) (rE (p + (N - 200)) (more || decide (V % 2 ^ (N - 200).toNat ≠ 0)))
    ∧ 0 < V / 2 ^ (N - 200).toNat ∧ V / 2 ^ (N - 200).toNat < 2 ^ 200 := by
  obtain ⟨v, rfl⟩ := Int.eq_ofNat_of_zero_le hV
  unfold bitsOf at hN
  rw [Int.toNat_natCast] at hN
  obtain ⟨t, ht⟩ : ∃ t : Nat, N - 200 = t := ⟨(N - 200).toNat, by omega⟩
  have hv0 : v ≠ 0 := by
    rintro rfl
    rw [blen_zero] at hN
    omega
  have hb := blen_ge v hv0
  have hb2 := blen_lt v
  have hP := Nat.two_pow_pos t
  have e1 : blen v - 1 = 199 + t := by omega
  have e2 : blen v = 200 + t := by omega
  rw [e1, Nat.pow_add] at hb
  rw [e2, Nat.pow_add] at hb2
  have q1 : 2 ^ 199 ≤ v / 2 ^ t := (Nat.le_div_iff_mul_le hP).2 hb
  have q2 : v / 2 ^ t < 2 ^ 200 := (Nat.div_lt_iff_lt_mul hP).2 hb2
  have q3 : 2 ^ 60 ≤ v / 2 ^ t := Nat.le_trans (Nat.pow_le_pow_right (by omega) (by omega)) q1
  have k := near_cut hW v t p more q3
  rw [ht, Int.toNat_natCast]
  have c1 : ((v : Int) / 2 ^ t) = ((v / 2 ^ t : Nat) : Int) := by simp
  have c2 : ((v : Int) % 2 ^ t) = ((v % 2 ^ t : Nat) : Int) := by simp
  have c3 : decide (((v % 2 ^ t : Nat) : Int) ≠ 0) = decide (v % 2 ^ t ≠ 0) := by
    rw [Bool.eq_iff_iff]
    simp only [decide_eq_true_eq]
    omega
  rw [c1, c2, c3]
  refine ⟨k, ?_, ?_⟩
  · have := Nat.lt_of_lt_of_le (Nat.two_pow_pos 60) q3
    omega
  · have : ((v / 2 ^ t : Nat) : Int) < ((2 ^ 200 : Nat) : Int) := Int.ofNat_lt.2 q2
    simpa using this

/-- What the cut leaves. -/
structure RCut (W : Nat) (V p : Int) (more : Bool) (w wx : World) (ad : Option Addr) (n c : Nat) (V' p' : Int) (more' : Bool) : Prop where
  num : Num wx ad n c V'
  len : n ≤ 1099511627776
  lt : Hid (V' < 2 ^ 200)
  pos : Hid (¬ (V' = 0 ∧ more' = false))
  bd : -9223372036854775808 ≤ p' ∧ p' < 9223372036854775808
  near : Hid (nearE W (rM V more) (rE p more) = nearE W (rM V' more') (rE p' more'))
  bel : Below w.heap.size w wx

/-- The number that is looked for. -/
structure RNum (W : Nat) (w wx : World) (T : Nat) (ad : Option Addr) (n c : Nat) (M p : Int) : Prop where
  num : Num wx ad n c M
  len : n ≤ 1099511627776
  lt : Hid (M < 2 ^ 201)
  bd : -2001 ≤ p ∧ p ≤ 1200
  near : Hid (T = nearE W M.toNat p)
  bel : Below w.heap.size w wx
theorem RNum.below {W : Nat} {w wx wy : World} {T : Nat} {ad : Option Addr} {n c : Nat} {M p : Int} (h : RNum W w wx T ad n c M p) (b : Below wx.heap.size wx wy) : RNum W w wy T ad n c M p :=
  ⟨h.num.below b (Nat.le_refl _), h.len, h.lt, h.bd, h.near, below_trans h.bel b⟩

/-- Number of a size, and how it stands to M 2^p. -/
theorem num_step {W : Nat} (hW : Wide W) (z : Int) (h0 : 0 ≤ z) (h1 : z ≤ infW W) : ∃ nm f : Int, (0 ≤ nm ∧ nm < 9007199254740992) ∧ (-1074 ≤ f ∧ f ≤ 2048) ∧
    Hid (∀ w, Calls Tryz.prog 173 #[.int .i64 W, .int .u64 z] w (fun e w' => e = .returned (.tuple #[.int .u64 nm, .int .i64 f]) ∧ Below w.heap.size w w')) ∧
    Hid (∀ M p : Int, 0 ≤ M → (cmp2 nm f M p ≤ 0 ↔ numN (shF W) z.toNat * rU (shL W) p ≤ rX (shL W) p M.toNat)) ∧ Hid (nm = (numM (shF W) z.toNat : Nat) ∧ f = shL W + (numP (shF W) z.toNat : Nat)) := by
  refine ⟨_, _, ?_, ?_, fun w => rnumber_calls W hW z ?_ w, fun M p hM => ?_, rfl, rfl⟩
  · have h2 := numM_lt (shF W) z.toNat
    have h3 : 2 ^ (shF W + 1) ≤ 2 ^ 53 := Nat.pow_le_pow_right (by omega) (by rcases hW with rfl | rfl | rfl <;> decide)
    have h4 : (2 : Nat) ^ 53 = 9007199254740992 := by decide
    omega
  · have h2 := numP_le hW z.toNat (by have := infW_eq hW; omega)
    have h3 : 2 ^ shE W ≤ 2048 := by rcases hW with rfl | rfl | rfl <;> decide
    have h4 : -1074 ≤ shL W ∧ shL W ≤ -24 := by rcases hW with rfl | rfl | rfl <;> decide
    omega
  · have := inf_bd hW
    omega
  · obtain ⟨m, rfl⟩ := Int.eq_ofNat_of_zero_le hM
    rw [Int.toNat_natCast]
    exact (cmp2_le _ _ _ _).trans (cmp_num _ _ _ _ _).symm

/-- What holds of the two ends of the halving. -/
def LowH (W : Nat) (M p low high : Int) : Prop :=
  numN (shF W) low.toNat * rU (shL W) p ≤ rX (shL W) p M.toNat ∧ (high ≤ infW W → rX (shL W) p M.toNat < numN (shF W) high.toNat * rU (shL W) p)

theorem lowH_start (W : Nat) (M p : Int) : LowH W M p 0 (infW W + 1) := by
  refine ⟨?_, fun h => by omega⟩
  show numN (shF W) 0 * _ ≤ _
  rw [numN_zero, Nat.zero_mul]
  exact Nat.zero_le _

theorem found_int {W : Nat} (hW : Wide W) (M p low : Int) (hM : 0 ≤ M) (h0 : 0 ≤ low) (hl : low < infW W) (H : LowH W M p low (low + 1)) :
    ((nearE W M.toNat p : Nat) : Int) = if 0 < cmp2 M p (midM (shF W) low.toNat : Nat) (shL W + (numP (shF W) low.toNat : Nat) - 1) ∨ (cmp2 M p (midM (shF W) low.toNat : Nat) (shL W + (numP (shF W) low.toNat : Nat) - 1) = 0 ∧ low % 2 = 1) then low + 1 else low := by
  obtain ⟨z, rfl⟩ := Int.eq_ofNat_of_zero_le h0
  obtain ⟨m, rfl⟩ := Int.eq_ofNat_of_zero_le hM
  have hI := infW_eq hW
  have h1 := H.1
  have h2 := H.2 (by omega)
  rw [show ((z : Int) + 1).toNat = z + 1 by omega] at h2
  rw [Int.toNat_natCast, Int.toNat_natCast] at *
  rw [nearE_found m z p (by omega) h1 (fun _ => h2), if_neg (by omega)]
  have e : ((z : Int) % 2 = 1) ↔ z % 2 = 1 := by omega
  simp only [e]
  split <;> rfl

theorem found_inf {W : Nat} (hW : Wide W) (M p : Int) (H : LowH W M p (infW W) (infW W + 1)) : ((nearE W M.toNat p : Nat) : Int) = infW W := by
  have hI := infW_eq hW
  have h1 := H.1
  rw [hI, Int.toNat_natCast] at h1
  rw [nearE_found M.toNat (infN W) p (Nat.le_refl _) h1 (fun h => absurd h (Nat.lt_irrefl _)), if_pos rfl, hI]

theorem mid_step {W : Nat} (hW : Wide W) (low n1 f1 n2 f2 : Int) (h0 : 0 ≤ low) (e1 : n1 = (numM (shF W) low.toNat : Nat) ∧ f1 = shL W + (numP (shF W) low.toNat : Nat)) (e2 : n2 = (numM (shF W) (low + 1).toNat : Nat) ∧ f2 = shL W + (numP (shF W) (low + 1).toNat : Nat)) :
    ((midM (shF W) low.toNat : Nat) : Int) = if f1 < f2 then n1 + 2 * n2 else n1 + n2 := by
  obtain ⟨z, rfl⟩ := Int.eq_ofNat_of_zero_le h0
  rw [show ((z : Int) + 1).toNat = z + 1 by omega] at e2
  rw [Int.toNat_natCast] at *
  obtain ⟨rfl, rfl⟩ := e1
  obtain ⟨rfl, rfl⟩ := e2
  unfold midM
  have e : (shL W + (numP (shF W) z : Nat) < shL W + (numP (shF W) (z + 1) : Nat)) ↔ numP (shF W) z < numP (shF W) (z + 1) := by omega
  simp only [e]
  split <;> simp

set_option maxRecDepth 100000 in
set_option maxHeartbeats 4000000 in
theorem rround_calls (W : Nat) (hW : Wide W) (neg : Bool) (ad : Option Addr) (n c : Nat) (V p : Int) (more : Bool) (w : World) (h : Num w ad n c V) (hn : n ≤ 1099511627776) (hp : -9223372036854775808 ≤ p ∧ p < 9223372036854775808) :
    Calls Tryz.prog 129 #[.int .i64 W, .bool neg, .slice ad n c, .int .i64 p, .bool more] w (fun e w' => e = .returned (.int .u64 (roundW W neg V p more)) ∧ Below w.heap.size w w') := by
  have HSg := Lib.hid (rsign_calls W hW)
  have HInf := Lib.hid (rinf_calls W hW)
  have HNum := Lib.hid (rnumber_calls W hW)
  have HIe := Lib.hid (infW_eq hW)
  have hI := inf_bd hW
  have hS := sgn_bd hW
  have HLen := Lib.hid (num_rlen ad n c V w h hn)
  have hN := h.bits_le
  obtain ⟨sg, hsg⟩ : ∃ sg, sg = if neg then sgnW W else 0 := ⟨_, rfl⟩
  have HR := Lib.hid (show roundW W neg V p more = sg + nearE W (rM V more) (rE p more) by rw [hsg]; rfl)
  have HSG := Lib.hid hsg
  have hsg0 : 0 ≤ sg ∧ sg ≤ 9223372036854775808 := by rw [hsg]; split <;> omega
  clear hsg
  generalize roundW W neg V p more = R at *
  generalize infW W = I at *
  generalize sgnW W = S at *
  obtain ⟨N, hNe⟩ : ∃ N, N = bitsOf V := ⟨_, rfl⟩
  rw [← hNe] at hN HLen
  have HN0 := Lib.hid (show N = 0 ↔ V = 0 by rw [hNe]; exact bits_zero_iff V h.nonneg)
  have HNe := Lib.hid hNe
  clear hNe
  go_enter Tryz.func129, Tryz.ntmps129
  go_upto_if 27 with (fail)
  go_cut [11] (fun s11 wx => s11 = .int .u64 sg ∧ w = wx)
  case first =>
    cases neg
    · have HE := Lib.hid (show sg = 0 from HSG.out)
      go_wp2_with fail
      go_meet
      case rel => exact ⟨by rw [HE.out], rfl⟩
    · have HE := Lib.hid (show sg = S from HSG.out)
      go_wp2_with fail
      refine (HSg.out w).mono ?_
      rintro e w' ⟨rfl, rfl⟩
      go_wp2_with fail
      go_meet
      case rel => exact ⟨by rw [HE.out], rfl⟩
  case rest =>
    obtain ⟨rfl, rfl⟩ := hcut
    go_wp2_with fail
    refine (HLen.out).mono ?_
    rintro e w1 ⟨rfl, b1⟩
    by_cases hz : V = 0 ∧ more = false
    · obtain ⟨rfl, rfl⟩ := hz
      obtain rfl : N = 0 := HN0.out.2 rfl
      have HE := Lib.hid (show R = sg by rw [HR.out]; show sg + (nearE W 0 p : Int) = sg; rw [nearE_zero hW]; omega)
      go_wp2
      go_ret
      rw [HE.out]
      exact ⟨rfl, b1⟩
    · have hz2 : N = 0 → more = true := fun hN0 => by
        have := HN0.out.1 hN0
        cases more
        · exact absurd ⟨this, rfl⟩ hz
        · rfl
      have HZ := Lib.hid hz
      have HZ2 := Lib.hid hz2
      clear hz hz2
      go_upto_region 5 with (fail)
      go_cut [37] (fun s37 wx => s37 = .bool false ∧ w1 = wx)
      case first =>
        by_cases hn0 : N = 0
        · obtain rfl := HZ2.out hn0
          subst hn0
          go_wp2_with fail
          go_meet
          case rel => exact ⟨rfl, rfl⟩
        · have hn1 : (N == 0) = false := by simpa using hn0
          clear hn0
          go_wp2_with fail
          go_meet
          case rel => exact ⟨rfl, rfl⟩
      case rest =>
        obtain ⟨rfl, rfl⟩ := hcut
        by_cases hp1 : 1200 < p
        · go_wp2_with fail
          refine (HInf.out _).mono ?_
          rintro e w2 ⟨rfl, b2⟩
          have HE := Lib.hid (show R = sg + I by rw [HR.out, near_big hW V p more h.nonneg HZ.out hp1, HIe.out])
          have W1 : IntKind.u64.wrap (sg + I) = sg + I := by rw [IntKind.wrap_u64]; omega
          have W2 : (sg + I) % 18446744073709551616 = sg + I := by omega
          go_wp2
          go_ret
          rw [HE.out]
          exact ⟨rfl, below_trans b1 b2⟩
        · go_upto_if 46 with (fail)
          go_cut [2, 3, 4, 12] (fun s2 s3 s4 s12 wx => ∃ ad' n' c' V' p' more', s2 = .slice ad' n' c' ∧ s3 = .int .i64 p' ∧ s4 = .bool more' ∧ RCut W V p more w wx ad' n' c' V' p' more')
          case first =>
            by_cases hb : 200 < N
            · have HB := Lib.hid (near_cut_int hW V p more h.nonneg N HNe.out hb)
              have hS1 := num_rshr ad n c V (N - 200) w1 (h.below b1 (Nat.le_refl _)) hn (by omega)
              rw [show shrNum V (N - 200) = V / 2 ^ (N - 200).toNat by unfold shrNum; rw [if_pos (by omega)], show shrMore V (N - 200) = decide (V % 2 ^ (N - 200).toNat ≠ 0) by unfold shrMore; rw [decide_eq_true (by omega : 0 ≤ N - 200), Bool.true_and]] at hS1
              generalize V / 2 ^ (N - 200).toNat = Q at *
              generalize decide (V % 2 ^ (N - 200).toNat ≠ 0) = left at *
              have HS1 := Lib.hid hS1
              clear hS1
              go_wp2_with fail
              refine (HS1.out).mono ?_
              rintro e w2 ⟨ad2, n2, c2, rfl, f2, b2⟩
              have W1 : IntKind.i64.wrap (p + N) = p + N := IntWalk.i64_in _ (by omega)
              have W2 : IntKind.i64.wrap (p + N - 200) = p + N - 200 := IntWalk.i64_in _ (by omega)
              have l2 := f2.len_le 7 (lt_limbs Q 200 7 HB.out.2.2 (by omega))
              cases more
              all_goals
                go_wp2_with fail
                go_meet
                case rel => exact ⟨_, _, _, _, _, _, rfl, rfl, rfl, f2.num (Int.le_of_lt HB.out.2.1), by omega, HB.out.2.2, fun h => by have := HB.out.2.1; omega, by omega, HB.out.1.trans (by rw [show p + (N - 200) = p + N - 200 by omega]; rfl), below_trans b1 b2⟩
            · go_wp2_with fail
              go_meet
              case rel => exact ⟨_, _, _, _, _, _, rfl, rfl, rfl, h.below b1 (Nat.le_refl _), hn, bits_lt V h.nonneg 200 (by have := HNe.out; omega), HZ.out, hp, rfl, b1⟩
          case rest =>
            obtain ⟨ad2, n2, c2, V2, p2, more2, rfl, rfl, rfl, hc⟩ := hcut
            have hc1 := hc.bd
            have hc0 := hc.num.nonneg
            have HC := Lib.hid hc
            have b2 := hc.bel
            clear hc HLen h
            by_cases hp2 : p2 < -2000
            · have HE := Lib.hid (show R = sg by rw [HR.out, HC.out.near.out, near_tiny hW V2 p2 more2 hc0 HC.out.lt.out hp2]; omega)
              go_wp2
              go_ret
              rw [HE.out]
              exact ⟨rfl, b2⟩
            · by_cases hp3 : 1200 < p2
              · go_wp2_with fail
                refine (HInf.out _).mono ?_
                rintro e w3 ⟨rfl, b3⟩
                have HE := Lib.hid (show R = sg + I by rw [HR.out, HC.out.near.out, near_big hW V2 p2 more2 hc0 HC.out.pos.out hp3, HIe.out])
                have W1 : IntKind.u64.wrap (sg + I) = sg + I := by rw [IntKind.wrap_u64]; omega
                have W2 : (sg + I) % 18446744073709551616 = sg + I := by omega
                go_wp2
                go_ret
                rw [HE.out]
                exact ⟨rfl, below_trans b2 b3⟩
              · go_upto_if 73 with (fail)
                go_cut [2, 3] (fun s2 s3 wx => ∃ ad' n' c' M p', s2 = .slice ad' n' c' ∧ s3 = .int .i64 p' ∧ RNum W w wx (nearE W (rM V more) (rE p more)) ad' n' c' M p')
                case first =>
                  have hlen := HC.out.len
                  cases more2
                  · go_wp2_with fail
                    go_meet
                    case rel => exact ⟨_, _, _, _, _, rfl, rfl, HC.out.num, hlen, Int.lt_of_lt_of_le HC.out.lt.out (pow_le (by omega) (by omega)), by omega, HC.out.near.out, b2⟩
                  · have H1 := Lib.hid (num_radd ad2 ad2 n2 n2 c2 c2 V2 V2 wc HC.out.num HC.out.num (by omega) (by omega))
                    have L1 := Lib.hid (show V2 + V2 < 2 ^ 201 by have := HC.out.lt.out; rw [Int.pow_succ]; omega)
                    have L2 := Lib.hid (show V2 + V2 + 1 < 2 ^ 201 by have := HC.out.lt.out; rw [Int.pow_succ]; omega)
                    go_wp2_with fail
                    refine (H1.out).mono ?_
                    rintro e w3 ⟨ad3, n3, c3, rfl, f3, b3⟩
                    have l3 := f3.len_le 7 (lt_limbs _ 201 7 L1.out (by omega))
                    have H2 := Lib.hid ((rfrom_calls 1 w3 (by omega) (by omega)).mono fun e w' q => q.can)
                    go_wp2_with fail
                    refine (H2.out).mono ?_
                    rintro e w4 ⟨ad4, n4, c4, rfl, f4, b4⟩
                    have l4 := f4.len_le 1 (by decide)
                    have H3 := Lib.hid (num_radd ad3 ad4 n3 n4 c3 c4 (V2 + V2) 1 w4 ((f3.num (by omega)).below b4 (Nat.le_refl _)) (f4.num (by omega)) (by omega) (by omega))
                    go_wp2_with fail
                    refine (H3.out).mono ?_
                    rintro e w5 ⟨ad5, n5, c5, rfl, f5, b5⟩
                    have l5 := f5.len_le 7 (lt_limbs _ 201 7 L2.out (by omega))
                    go_wp2_with fail
                    go_meet
                    case rel => exact ⟨_, _, _, _, _, rfl, rfl, f5.num (by omega), by omega, L2.out, by omega, HC.out.near.out.trans (by show nearE W (2 * V2.toNat + 1) (p2 - 1) = _; rw [show (V2 + V2 + 1).toNat = 2 * V2.toNat + 1 by omega]), below_trans b2 (below_trans b3 (below_trans b4 b5))⟩
                case rest =>
                  obtain ⟨ad3, n3, c3, M, p3, rfl, rfl, hm⟩ := hcut
                  have hpb := hm.bd
                  have hM0 := hm.num.nonneg
                  have hlen3 := hm.len
                  have HT := Lib.hid (show R = sg + (nearE W M.toNat p3 : Nat) by rw [HR.out, hm.near.out])
                  have lM := Lib.hid (lt_limbs M 201 4096 hm.lt.out (by omega))
                  have HM := Lib.hid hm
                  generalize nearE W (rM V more) (rE p more) = T at *
                  clear hm HC hc1 hc0 b1 b2 HZ HZ2 HN0 HNe hN HSG HR
                  have HIW := Lib.hid (show infW W = I by rw [HIe.out]; exact infW_eq hW)
                  have W1 : IntKind.u64.wrap (I + 1) = I + 1 := by rw [IntKind.wrap_u64]; omega
                  have W2 : (I + 1) % 18446744073709551616 = I + 1 := by omega
                  go_wp2_with fail
                  refine (HInf.out _).mono ?_
                  rintro e w4 ⟨rfl, b4⟩
                  go_wp2_with fail
                  clear W1 W2
                  have HM4 := HM.out.below b4
                  have HL0 : LowH W M p3 0 (I + 1) := by rw [← HIW.out]; exact lowH_start W M p3
                  have HL0' := Lib.hid HL0
                  clear HL0
                  go_loopw [16, 17] (fun s16 s17 wr => ∃ low high : Int, s16 = .int .u64 low ∧ s17 = .int .u64 high ∧ (0 ≤ low ∧ low < high ∧ high ≤ I + 1) ∧ Hid (LowH W M p3 low high) ∧ Hid (RNum W w wr T ad3 n3 c3 M p3)) (fun s16 s17 _ => (intOf s17 - intOf s16).toNat)
                  case atStart => exact ⟨_, _, rfl, rfl, by omega, HL0'.out, HM4⟩
                  case round =>
                    clear HM4 HL0' b4
                    obtain ⟨low, high, rfl, rfl, hb, HL, HMr⟩ := hrel
                    by_cases hlh : 1 < high - low
                    · obtain ⟨mid, hmid⟩ : ∃ mid, mid = low + (high - low) / 2 := ⟨_, rfl⟩
                      have hb2 : low < mid ∧ mid < high := by omega
                      have W1 : IntKind.u64.wrap (high - low) = high - low := by rw [IntKind.wrap_u64]; omega
                      have W2 : (high - low) % 18446744073709551616 = high - low := by omega
                      have W3 : (high - low).tdiv 2 = (high - low) / 2 := Int.tdiv_eq_ediv_of_nonneg (by omega)
                      have W4 : IntKind.u64.wrap (low + (high - low) / 2) = mid := by rw [IntKind.wrap_u64]; omega
                      have W5 : (low + (high - low) / 2) % 18446744073709551616 = mid := by omega
                      clear hmid
                      obtain ⟨nm, f, hnm, hf, HNm, HCm, -⟩ := num_step hW mid (by omega) (by rw [HIW.out]; omega)
                      go_wp2_with fail
                      refine (HNm.out _).mono ?_
                      rintro e w5 ⟨rfl, b5⟩
                      have H2 := Lib.hid ((rfrom_calls nm w5 hnm.1 (by omega)).mono fun e w' q => q.can)
                      go_wp2_with fail
                      refine (H2.out).mono ?_
                      rintro e w6 ⟨ad6, n6, c6, rfl, f6, b6⟩
                      have l6 := f6.len_le 2 (Int.lt_of_lt_of_le hnm.2 (by decide))
                      have HM6 := Lib.hid ((HMr.out.below b5).below b6)
                      have H3 := Lib.hid (rcmp2_calls ad6 ad3 n6 n3 c6 c3 nm M f p3 w6 (f6.num hnm.1) HM6.out.num hnm.1 hM0 (lt_limbs nm 53 4096 (Int.lt_of_lt_of_le hnm.2 (by decide)) (by omega)) lM.out (by omega) hlen3 (by omega) (by omega))
                      have HCm1 := Lib.hid (HCm.out M p3 hM0)
                      clear HCm
                      generalize cmp2 nm f M p3 = C at *
                      go_wp2_with fail
                      refine (H3.out).mono ?_
                      rintro e w7 ⟨rfl, b7⟩
                      by_cases hC : C ≤ 0
                      · go_wp2_with fail
                        go_roundw
                        case rel => exact ⟨_, _, rfl, rfl, by omega, ⟨HCm1.out.1 hC, HL.out.2⟩, HM6.out.below b7⟩
                        case measure => simp [intOf]; omega
                      · go_wp2_with fail
                        go_roundw
                        case rel => exact ⟨_, _, rfl, rfl, by omega, ⟨HL.out.1, fun _ => Nat.lt_of_not_le fun h => by have := HCm1.out.2 h; omega⟩, HM6.out.below b7⟩
                        case measure => simp [intOf]; omega
                    · obtain rfl : high = low + 1 := by omega
                      have b8 := HMr.out.bel
                      have Wa : IntKind.u64.wrap (sg + low) = sg + low := by rw [IntKind.wrap_u64]; omega
                      have Wb : (sg + low) % 18446744073709551616 = sg + low := by omega
                      have Wc : IntKind.u64.wrap (sg + (low + 1)) = sg + (low + 1) := by rw [IntKind.wrap_u64]; omega
                      have Wd : (sg + (low + 1)) % 18446744073709551616 = sg + (low + 1) := by omega
                      have We : IntKind.u64.wrap (low + 1) = low + 1 := by rw [IntKind.wrap_u64]; omega
                      have Wf : (low + 1) % 18446744073709551616 = low + 1 := by omega
                      have Wg : (low + 1 - low) % 18446744073709551616 = 1 := by omega
                      by_cases hli : low = I
                      · subst hli
                        have HE := Lib.hid (show R = sg + low by rw [HT.out, found_inf hW M p3 (by rw [HIW.out]; exact HL.out), HIW.out])
                        go_wp2_with fail
                        refine (HInf.out _).mono ?_
                        rintro e w9 ⟨rfl, b9⟩
                        go_wp2_with fail
                        go_ret
                        rw [HE.out]
                        exact ⟨rfl, below_trans b8 b9⟩
                      · have hli2 : (low == I) = false := by simpa using hli
                        obtain ⟨n1, f1, hn1, hf1, HN1, -, HE1⟩ := num_step hW low (by omega) (by rw [HIW.out]; omega)
                        obtain ⟨n2', f2', hn2, hf2, HN2, -, HE2⟩ := num_step hW (low + 1) (by omega) (by rw [HIW.out]; omega)
                        have HMid := Lib.hid (mid_step hW low n1 f1 n2' f2' hb.1 HE1.out HE2.out)
                        have HF := found_int hW M p3 low hM0 hb.1 (by rw [HIW.out]; omega) HL.out
                        rw [← HE1.out.2] at HF
                        generalize ((midM (shF W) low.toNat : Nat) : Int) = md at *
                        have hmd : 0 ≤ md ∧ md < 36028797018963968 := by rw [HMid.out]; split <;> omega
                        have HF2 := Lib.hid HF
                        clear HF hli HE1 HE2
                        go_wp2_with fail
                        refine (HInf.out _).mono ?_
                        rintro e w9 ⟨rfl, b9⟩
                        go_wp2_with fail
                        refine (HN1.out _).mono ?_
                        rintro e w10 ⟨rfl, b10⟩
                        go_wp2_with fail
                        refine (HN2.out _).mono ?_
                        rintro e w11 ⟨rfl, b11⟩
                        have HM11 := Lib.hid (((HMr.out.below b9).below b10).below b11)
                        have Wh : IntKind.u64.wrap (n1 + n2') = n1 + n2' := by rw [IntKind.wrap_u64]; omega
                        have Wi : (n1 + n2') % 18446744073709551616 = n1 + n2' := by omega
                        have Wj : IntKind.u64.wrap (2 * n2') = 2 * n2' := by rw [IntKind.wrap_u64]; omega
                        have Wk : (2 * n2') % 18446744073709551616 = 2 * n2' := by omega
                        have Wl : IntKind.u64.wrap (n1 + 2 * n2') = n1 + 2 * n2' := by rw [IntKind.wrap_u64]; omega
                        have Wm : (n1 + 2 * n2') % 18446744073709551616 = n1 + 2 * n2' := by omega
                        go_upto_if 134 with (fail)
                        go_cut [25] from 27 to 161 (fun s25 wx => s25 = .int .u64 md ∧ w11 = wx)
                        case first =>
                          by_cases hff : f1 < f2'
                          · have HE := Lib.hid (show md = n1 + 2 * n2' by rw [HMid.out, if_pos hff])
                            go_wp2_with fail
                            go_meet
                            case rel => exact ⟨by rw [HE.out], rfl⟩
                          · have HE := Lib.hid (show md = n1 + n2' by rw [HMid.out, if_neg hff])
                            go_wp2_with fail
                            go_meet
                            case rel => exact ⟨by rw [HE.out], rfl⟩
                        case rest =>
                          obtain ⟨rfl, rfl⟩ := hcut
                          have H2 := Lib.hid ((rfrom_calls md w11 hmd.1 (by omega)).mono fun e w' q => q.can)
                          go_wp2_with fail
                          refine (H2.out).mono ?_
                          rintro e w12 ⟨ad12, n12, c12, rfl, f12, b12⟩
                          have l12 := f12.len_le 2 (Int.lt_of_lt_of_le hmd.2 (by decide))
                          have HM12 := Lib.hid (HM11.out.below b12)
                          have H3 := Lib.hid (rcmp2_calls ad3 ad12 n3 n12 c3 c12 M md p3 (f1 - 1) w12 HM12.out.num (f12.num hmd.1) hM0 hmd.1 lM.out (lt_limbs md 55 4096 (Int.lt_of_lt_of_le hmd.2 (by decide)) (by omega)) hlen3 (by omega) (by omega) (by omega))
                          generalize cmp2 M p3 md (f1 - 1) = C at *
                          go_wp2_with fail
                          refine (H3.out).mono ?_
                          rintro e w13 ⟨rfl, b13⟩
                          have b14 := below_trans HM12.out.bel b13
                          by_cases hC : 0 < C
                          · have HE := Lib.hid (show R = sg + (low + 1) by rw [HT.out, HF2.out, if_pos (.inl hC)])
                            go_wp2_with fail
                            go_ret
                            rw [HE.out]
                            exact ⟨rfl, b14⟩
                          · by_cases hC0 : C = 0
                            · subst hC0
                              by_cases hodd : low % 2 = 1
                              · have HE := Lib.hid (show R = sg + (low + 1) by rw [HT.out, HF2.out, if_pos (.inr ⟨rfl, hodd⟩)])
                                have Wn : low.tmod 2 = 1 := by rw [Int.tmod_eq_emod_of_nonneg hb.1]; exact hodd
                                go_wp2_with fail
                                go_ret
                                rw [HE.out]
                                exact ⟨rfl, b14⟩
                              · have HE := Lib.hid (show R = sg + low by rw [HT.out, HF2.out, if_neg (by rintro (h | h); exact hC h; exact hodd h.2)])
                                have hodd0 : low % 2 = 0 := by omega
                                have Wn : low.tmod 2 = 0 := by rw [Int.tmod_eq_emod_of_nonneg hb.1]; exact hodd0
                                clear hodd
                                go_wp2_with fail
                                go_ret
                                rw [HE.out]
                                exact ⟨rfl, b14⟩
                            · have hC1 : (C == 0) = false := by simpa using hC0
                              have HE := Lib.hid (show R = sg + low by rw [HT.out, HF2.out, if_neg (by rintro (h | h); exact hC h; exact hC0 h.1)])
                              clear hC0
                              go_wp2_with fail
                              go_ret
                              rw [HE.out]
                              exact ⟨rfl, b14⟩
end Go.Proofs.YtoimhjcpeifegaaGreatDoor
