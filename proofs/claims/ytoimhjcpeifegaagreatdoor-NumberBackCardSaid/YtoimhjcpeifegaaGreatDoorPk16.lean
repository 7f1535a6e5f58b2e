/- Contracts of functions, and plain facts, part 16. -/
import Derived.Deep.DeepCutAuto
import Derived.IntWalk
import Derived.Test.YtoimhjcpeifegaaGreatDoorPk1
import Derived.Test.YtoimhjcpeifegaaGreatDoorPk9
import Derived.Test.YtoimhjcpeifegaaGreatDoorPk13
import Derived.Test.YtoimhjcpeifegaaGreatDoorPk14
import Derived.Test.YtoimhjcpeifegaaGreatDoorPk15
set_option linter.unusedVariables false
set_option linter.unusedSimpArgs false
/- Printed by ieee3.py. -/
namespace Go.Proofs.YtoimhjcpeifegaaGreatDoor
open Go.RowKit

theorem or_sign_32 (z : Int) (hz : 0 ≤ z ∧ z < 2147483648) : bits .or .u64 z 2147483648 = 2147483648 + z := by
  obtain ⟨z, rfl⟩ := Int.eq_ofNat_of_zero_le hz.1
  have e : bits .or .u64 (z : Int) ((2147483648 : Nat) : Int) = ((z ||| 2147483648 : Nat) : Int) := Go.bits_or_u64_nat z _ (by omega) (by omega)
  have h := Nat.two_pow_add_eq_or_of_lt (show z < 2 ^ 31 by rw [show (2 : Nat) ^ 31 = 2147483648 from by decide]; omega) 1
  rw [Nat.mul_one, show (2 : Nat) ^ 31 = 2147483648 from by decide, Nat.or_comm] at h
  rw [← h] at e
  exact e.trans (by simp)

theorem signed_32 (w : World) (hS : Shapes w) (neg : Bool) (z : Int) (hz : 0 ≤ z ∧ z < 2147483648) : Calls Tryz.prog 97 #[.bool neg, .int .u64 z] w (fun e w' => e = .returned (.int .u32 ((if neg then sgnW 32 else 0) + z)) ∧ Below w.heap.size w w') := by
  have H1 := Lib.hid (of_32 w hS)
  have HO := or_sign_32 z hz
  rw [sgn32]
  cases neg
  · have W1 : IntKind.u32.wrap z = z := by rw [IntKind.wrap_u32]; omega
    have W2 : z % 4294967296 = z := by omega
    have W3 : 0 + z = z := by omega
    clear HO
    go_enter Tryz.func97, Tryz.ntmps97
    go_wp2
    go_ret
    exact ⟨by first | rfl | simp, Below.refl _ _⟩
  · have W1 : IntKind.u32.wrap (2147483648 + z) = 2147483648 + z := by rw [IntKind.wrap_u32]; omega
    have W2 : (2147483648 + z) % 4294967296 = 2147483648 + z := by omega
    go_enter Tryz.func97, Tryz.ntmps97
    go_wp2_with fail
    refine (H1.out).mono ?_
    rintro e w1 ⟨rfl, b1⟩
    go_wp2_with fail
    refine (shsign_32 w1).mono ?_
    rintro e w2 ⟨rfl, b2⟩
    go_wp2
    go_ret
    exact ⟨by first | rfl | simp, below_trans b1 b2⟩
end Go.Proofs.YtoimhjcpeifegaaGreatDoor


/- The nearest pattern: greater numbers, numbers that are patterns, the middle. Plain facts. -/
namespace Go.Proofs.YtoimhjcpeifegaaGreatDoor

theorem Nearest.mono {F I U X Y r s : Nat} (h : Nearest F I U X r) (k : Nearest F I U Y s) (hXY : X ≤ Y) : r ≤ s := by
  obtain ⟨a, a0, a1, a2, e⟩ := h
  obtain ⟨b, b0, b1, b2, e'⟩ := k
  have hab : a ≤ b := by
    rcases Nat.lt_or_ge b a with hlt | hge
    · exfalso
      have h2 := b2 (by omega)
      have m := Nat.mul_le_mul_right U (numN_mono F (show b + 1 ≤ a from hlt))
      omega
    · exact hge
  rcases Nat.lt_or_ge a b with hlt | hge
  · have h1 : r ≤ a + 1 := by rw [e]; split <;> (try split) <;> omega
    have h2 : b ≤ s := by rw [e']; split <;> (try split) <;> omega
    omega
  · obtain rfl : a = b := by omega
    rw [e, e']
    by_cases ha : a = I
    · rw [if_pos ha, if_pos ha]; exact Nat.le_refl _
    · rw [if_neg ha, if_neg ha]
      by_cases hu : (numN F a + numN F (a + 1)) * U < 2 * X ∨ (2 * X = (numN F a + numN F (a + 1)) * U ∧ a % 2 = 1)
      · rw [if_pos hu, if_pos (by omega)]; exact Nat.le_refl _
      · rw [if_neg hu]
        split <;> omega

/-- A number that is a pattern's. -/
theorem nearE_self {W : Nat} (hW : Wide W) (M z : Nat) (e : Int) (hz : z ≤ infN W) (h : rX (shL W) e M = numN (shF W) z * rU (shL W) e) : nearE W M e = z := by
  refine nearN_eq ⟨z, hz, Nat.le_of_eq h.symm, fun _ => by rw [h]; exact Nat.mul_lt_mul_of_pos_right (numN_lt_succ _ _) (rU_pos _ _), ?_⟩
  by_cases hI : z = infN W
  · rw [if_pos hI]; exact hI
  · rw [if_neg hI, if_neg]
    have h1 := Nat.mul_lt_mul_of_pos_right (numN_lt_succ (shF W) z) (rU_pos (shL W) e)
    rw [Nat.add_mul]
    omega

end Go.Proofs.YtoimhjcpeifegaaGreatDoor


/- whole: Add. (Printed by whole.py.) -/
namespace Go.Proofs.YtoimhjcpeifegaaGreatDoor
open Go.RowKit

end Go.Proofs.YtoimhjcpeifegaaGreatDoor


/- whole: Sub. (Printed by whole.py.) -/
namespace Go.Proofs.YtoimhjcpeifegaaGreatDoor
open Go.RowKit

end Go.Proofs.YtoimhjcpeifegaaGreatDoor


/- whole: Cmp. (Printed by whole.py.) -/
namespace Go.Proofs.YtoimhjcpeifegaaGreatDoor
open Go.RowKit

theorem cmp_signs (N M V U : Int) (hV : V = N.natAbs) (hU : U = M.natAbs) : (sgI N < sgI M → cmpI N M = -1) ∧ (sgI M < sgI N → cmpI N M = 1) ∧ (sgI N = sgI M → sgI N * cmpI V U = cmpI N M) := by
  have hs : ∀ K : Int, (K < 0 ∧ sgI K = -1) ∨ (K = 0 ∧ sgI K = 0) ∨ (0 < K ∧ sgI K = 1) := fun K => by unfold sgI; split <;> (try split) <;> omega
  rcases hs N with ⟨a, e1⟩ | ⟨a, e1⟩ | ⟨a, e1⟩ <;> rcases hs M with ⟨c, e2⟩ | ⟨c, e2⟩ | ⟨c, e2⟩ <;> rw [e1, e2]
  all_goals refine ⟨fun h => ?_, fun h => ?_, fun h => ?_⟩
  all_goals first | (exfalso; omega) | skip
  all_goals first | (rw [cmpI_lt (by omega)]; done) | (rw [cmpI_gt (by omega)]; done) | skip
  · rcases Int.lt_trichotomy N M with k | k | k
    · rw [cmpI_lt k, cmpI_gt (by omega)]; rfl
    · rw [cmpI_eq k, cmpI_eq (by omega)]; rfl
    · rw [cmpI_gt k, cmpI_lt (by omega)]; rfl
  · rw [cmpI_eq (show N = M by omega)]; simp
  · rcases Int.lt_trichotomy N M with k | k | k
    · rw [cmpI_lt k, cmpI_lt (by omega)]; rfl
    · rw [cmpI_eq k, cmpI_eq (by omega)]; rfl
    · rw [cmpI_gt k, cmpI_gt (by omega)]; rfl

set_option maxHeartbeats 1000000 in
theorem wcmp_calls (ng1 : Bool) (ad1 : Option Addr) (n1 c1 : Nat) (V1 : Int) (ng2 : Bool) (ad2 : Option Addr) (n2 c2 : Nat) (V2 : Int) (w : World) (h1 : Num w ad1 n1 c1 V1) (hn1 : n1 ≤ 70368744177662) (h2 : Num w ad2 n2 c2 V2) (hn2 : n2 ≤ 70368744177662) :
    Calls Tryz.prog 50 #[.agg #[.bool ng1, .slice ad1 n1 c1], .agg #[.bool ng2, .slice ad2 n2 c2]] w (RetIB (cmpI (sI ng1 V1) (sI ng2 V2)) w) := by
  have hV0 := h1.nonneg
  have hU0 := h2.nonneg
  have T1 := Lib.hid h1.lt
  have T2 := Lib.hid h2.lt
  have b0 := Below.refl w.heap.size w
  have l0 : Below w.heap.size w (w.alloc (.cells #[.bool ng1, .slice ad1 n1 c1] 34)) := (Below.refl _ _).alloc (Nat.le_refl _) _
  have b1 : Below w.heap.size w (w.alloc (.cells #[.bool ng1, .slice ad1 n1 c1] 34)) := below_trans b0 l0
  have k0 : Cel (w.alloc (.cells #[.bool ng1, .slice ad1 n1 c1] 34)) w.heap.size 34 [.bool ng1, .slice ad1 n1 c1] := Cel.made _ _ _ _ (by simp)
  have l1 : Below (w.alloc (.cells #[.bool ng1, .slice ad1 n1 c1] 34)).heap.size (w.alloc (.cells #[.bool ng1, .slice ad1 n1 c1] 34)) ((w.alloc (.cells #[.bool ng1, .slice ad1 n1 c1] 34)).alloc (.cells #[.bool ng2, .slice ad2 n2 c2] 34)) := (Below.refl _ _).alloc (Nat.le_refl _) _
  have b2 : Below w.heap.size w ((w.alloc (.cells #[.bool ng1, .slice ad1 n1 c1] 34)).alloc (.cells #[.bool ng2, .slice ad2 n2 c2] 34)) := below_trans b1 l1
  have k1 : Cel ((w.alloc (.cells #[.bool ng1, .slice ad1 n1 c1] 34)).alloc (.cells #[.bool ng2, .slice ad2 n2 c2] 34)) (w.heap.size + 1) 34 [.bool ng2, .slice ad2 n2 c2] := Cel.made _ _ _ _ (by simp)
  replace k0 := k0.next l1
  replace h1 := h1.below b2 (Nat.le_refl _)
  replace h2 := h2.below b2 (Nat.le_refl _)
  clear b0 b1 l0 l1
  have hg0 : w.heap.size ≤ w.heap.size := Nat.le_refl _
  have hg1 : w.heap.size ≤ w.heap.size + 1 := Nat.le_add_right _ _
  have hS := wsigned_calls ng1 ad1 n1 c1 V1 ((w.alloc (.cells #[.bool ng1, .slice ad1 n1 c1] 34)).alloc (.cells #[.bool ng2, .slice ad2 n2 c2] 34)) h1 (by omega)
  have hS2 : Hid (∀ w2 : World, Below (((w.alloc (.cells #[.bool ng1, .slice ad1 n1 c1] 34)).alloc (.cells #[.bool ng2, .slice ad2 n2 c2] 34))).heap.size (((w.alloc (.cells #[.bool ng1, .slice ad1 n1 c1] 34)).alloc (.cells #[.bool ng2, .slice ad2 n2 c2] 34))) w2 → Calls Tryz.prog 113 #[.agg #[.bool ng2, .slice ad2 n2 c2]] w2 (fun e w' => ∃ ad' n' c', e = .returned (.tuple #[.int .i8 (sgI (sI ng2 V2)), .slice ad' n' c']) ∧ Can w' ad' n' c' V2 ∧ Below w2.heap.size w2 w')) := Lib.hid fun w2 b2 => wsigned_calls ng2 ad2 n2 c2 V2 w2 (h2.below b2 (Nat.le_refl _)) (by omega)
  have hA1 := (sI_abs ng1 V1 hV0).symm
  have hA2 := (sI_abs ng2 V2 hU0).symm
  generalize sI ng1 V1 = N at *
  generalize sI ng2 V2 = M at *
  clear h1 h2
  obtain ⟨z1, z2, z3⟩ := cmp_signs N M V1 V2 hA1 hA2
  obtain ⟨res, hres⟩ : ∃ res, res = cmpI N M := ⟨_, rfl⟩
  rw [← hres] at z1 z2 z3
  rw [← hres]
  have hs1 := sg_bd N
  have hs2 := sg_bd M
  generalize sgI N = s1 at *
  generalize sgI M = s2 at *
  have Z1 := Lib.hid z1
  have Z2 := Lib.hid z2
  have Z3 := Lib.hid z3
  have HRES := Lib.hid hres
  clear z1 z2 z3 hres hA1 hA2
  go_enter Tryz.func50, Tryz.ntmps50
  have h := Lib.hid hS
  clear hS
  have e0a := k0.cell 0 _ rfl
  have e0b := k0.cell 1 _ rfl
  have e1a := k1.cell 0 _ rfl
  have e1b := k1.cell 1 _ rfl
  go_wp2_with fail
  with_reducible refine (h.out).mono ?_
  rintro e v1 ⟨xd, xn, xc, rfl, f1, b⟩
  have hS3 := hS2.out _ b
  clear h hS2
  clear e0a e0b e1a e1b
  replace k0 := k0.next b
  replace k1 := k1.next b
  have bb := below_trans b2 b
  clear b b2
  have b2 := bb
  clear bb
  have h := Lib.hid (hS3)
  have e0a := k0.cell 0 _ rfl
  have e0b := k0.cell 1 _ rfl
  have e1a := k1.cell 0 _ rfl
  have e1b := k1.cell 1 _ rfl
  go_wp2_with fail
  with_reducible refine (h.out).mono ?_
  rintro e v2 ⟨yd, yn, yc, rfl, f2, b⟩
  clear h
  clear e0a e0b e1a e1b
  replace k0 := k0.next b
  replace k1 := k1.next b
  replace f1 := f1.below b (Nat.le_refl _)
  have bb := below_trans b2 b
  clear b b2
  have b2 := bb
  clear bb
  clear hS3
  have hxn : xn ≤ n1 := f1.len_le n1 T1.out
  have hyn : yn ≤ n2 := f2.len_le n2 T2.out
  rcases Int.lt_trichotomy s1 s2 with h | h | h
  · obtain rfl := Z1.out h
    go_wp2_with fail
    go_ret
    exact ⟨rfl, b2⟩
  · have hz := Z3.out h
    subst h
    have hl1 : ¬ s1 < s1 := by omega
    have hcb : -1 ≤ cmpI V1 V2 ∧ cmpI V1 V2 ≤ 1 := by unfold cmpI; split <;> (try split) <;> omega
    have hC := num_cmp xd yd xn yn xc yc V1 V2 v2 (f1.num hV0) (f2.num hU0) (by omega) (by omega)
    generalize cmpI V1 V2 = cc at *
    have hrb : -1 ≤ res ∧ res ≤ 1 := by rw [← hz]; rcases (show s1 = -1 ∨ s1 = 0 ∨ s1 = 1 by omega) with rfl | rfl | rfl <;> omega
    have W1 : IntKind.i64.wrap (s1 * cc) = res := by rw [hz]; exact IntWalk.i64_in _ (by omega)
    have HZ := Lib.hid hz
    clear hz
    have h := Lib.hid (hC)
    have e0a := k0.cell 0 _ rfl
    have e0b := k0.cell 1 _ rfl
    have e1a := k1.cell 0 _ rfl
    have e1b := k1.cell 1 _ rfl
    go_wp2_with fail
    with_reducible refine (h.out).mono ?_
    rintro e w' ⟨rfl, q, rfl⟩
    clear h
    clear e0a e0b e1a e1b
    have b : Below (v2).heap.size (v2) (World.drewN (v2) q) := below_drewN (Below.refl _ _) q
    generalize World.drewN (v2) q = v3 at *
    replace k0 := k0.next b
    replace k1 := k1.next b
    replace f1 := f1.below b (Nat.le_refl _)
    replace f2 := f2.below b (Nat.le_refl _)
    have bb := below_trans b2 b
    clear b b2
    have b2 := bb
    clear bb
    clear hC
    go_wp2_with fail
    go_ret
    exact ⟨rfl, b2⟩
  · obtain rfl := Z2.out h
    have hl1 : ¬ s1 < s2 := by omega
    go_wp2_with fail
    go_ret
    exact ⟨rfl, b2⟩
end Go.Proofs.YtoimhjcpeifegaaGreatDoor


/- Printed by ieee3.py. -/
namespace Go.Proofs.YtoimhjcpeifegaaGreatDoor
open Go.RowKit

theorem low_64 (z : Int) (hz : 0 ≤ z ∧ z < 18446744073709551616) : bits .or .u64 (z % 4503599627370496) 4503599627370496 = 4503599627370496 + z % 4503599627370496 ∧ bits .and .u64 z 4503599627370495 = z % 4503599627370496 := by
  obtain ⟨z, rfl⟩ := Int.eq_ofNat_of_zero_le hz.1
  have e : bits .and .u64 (z : Int) ((4503599627370495 : Nat) : Int) = ((z &&& 4503599627370495 : Nat) : Int) := Go.bits_and_u64_nat z _ (by omega) (by omega)
  have h := Nat.and_two_pow_sub_one_eq_mod z 52
  rw [show (2 : Nat) ^ 52 = 4503599627370496 from by decide, show 4503599627370496 - 1 = 4503599627370495 from by decide] at h
  rw [h] at e
  have h3 : z % 4503599627370496 < 4503599627370496 := Nat.mod_lt _ (by omega)
  have e2 : bits .or .u64 ((z % 4503599627370496 : Nat) : Int) ((4503599627370496 : Nat) : Int) = ((z % 4503599627370496 ||| 4503599627370496 : Nat) : Int) := Go.bits_or_u64_nat _ _ (by omega) (by omega)
  have h2 := Nat.two_pow_add_eq_or_of_lt (show z % 4503599627370496 < 2 ^ 52 by rw [show (2 : Nat) ^ 52 = 4503599627370496 from by decide]; exact h3) 1
  rw [Nat.mul_one, show (2 : Nat) ^ 52 = 4503599627370496 from by decide, Nat.or_comm] at h2
  rw [← h2] at e2
  have e' : bits .and .u64 (z : Int) 4503599627370495 = ((z % 4503599627370496 : Nat) : Int) := e
  rw [e', show (z : Int) % 4503599627370496 = ((z % 4503599627370496 : Nat) : Int) by simp]
  exact ⟨e2.trans (by simp), rfl⟩

set_option maxRecDepth 20000 in
set_option maxHeartbeats 2000000 in
theorem parts_64 (w : World) (hS : Shapes w) (hT : Tab w) (x : Int) (hx : 0 ≤ x ∧ x < 18446744073709551616) : Calls Tryz.prog 64 #[.int .u64 x] w (fun e w' => e = .returned (.tuple #[.bool (pNeg 64 x), .int .u64 (pM 64 x), .int .i64 (pE 64 x), .bool (pOk 64 x)]) ∧ Below w.heap.size w w') := by
  have H1 := Lib.hid (of_64 w hS)
  have H2 := Lib.hid (fun (w : World) (hS : Shapes w) => split_64 w hS x hx)
  have hz := size_bounds (W := 64) (by unfold Wide; omega) x ⟨hx.1, by exact hx.2⟩
  rw [sgn64] at hz
  have HM := Lib.hid (show pM 64 x = if pOk 64 x && !decide (sizeW 64 x = 0) then oddI (rawM 64 x) else 0 from rfl)
  have HE := Lib.hid (show pE 64 x = if pOk 64 x && !decide (sizeW 64 x = 0) then rawE 64 x + tzI (rawM 64 x) else 0 from rfl)
  have HN := Lib.hid (show pNeg 64 x = (pOk 64 x && negW 64 x) from rfl)
  have HO := Lib.hid (show pOk 64 x = decide (sizeW 64 x < 9218868437227405312) by unfold pOk; rw [inf64])
  have HRM := Lib.hid (show rawM 64 x = (numM 52 (sizeW 64 x).toNat : Nat) from rfl)
  have HRE := Lib.hid (show rawE 64 x = -1074 + (numP 52 (sizeW 64 x).toNat : Nat) from rfl)
  generalize pM 64 x = m at *
  generalize pE 64 x = p at *
  generalize pNeg 64 x = ng at *
  generalize pOk 64 x = ok at *
  generalize rawM 64 x = rm at *
  generalize rawE 64 x = re at *
  generalize sizeW 64 x = z at *
  generalize negW 64 x = n at *
  by_cases t1 : 9218868437227405312 ≤ z
  · have E1 := Lib.hid (show ok = false by rw [HO.out]; simp; omega)
    have E2 := Lib.hid (show ng = false by rw [HN.out, E1.out]; rfl)
    have E3 := Lib.hid (show m = 0 by rw [HM.out, E1.out]; rfl)
    have E4 := Lib.hid (show p = 0 by rw [HE.out, E1.out]; rfl)
    clear HM HE HN HO HRM HRE
    go_enter Tryz.func64, Tryz.ntmps64
    go_wp2_with fail
    refine (H1.out).mono ?_
    rintro e w1 ⟨rfl, b1⟩
    have bA : Below w1.heap.size w1 (w1.alloc (.cells #[.int .i64 52, .int .i64 (-1074), .int .i64 11] 95)) := (Below.refl _ _).alloc (Nat.le_refl _) _
    have sh2 : ShAt 52 (-1074) 11 w1.heap.size (w1.alloc (.cells #[.int .i64 52, .int .i64 (-1074), .int .i64 11] 95)) := ShAt.made _ _ _ _
    have HS2 := Lib.hid (H2.out (w1.alloc (.cells #[.int .i64 52, .int .i64 (-1074), .int .i64 11] 95)) ((hS.below b1 (Nat.le_refl _)).below bA (Nat.le_refl _)))
    have hT2 := (hT.below b1 (Nat.le_refl _)).below bA (Nat.le_refl _)
    have b2 := below_trans b1 bA
    go_wp2_with fail
    refine (HS2.out).mono ?_
    rintro e w3 ⟨rfl, b3⟩
    have sh3 := sh2.below b3
    have hT3 := Lib.hid (hT2.below b3 (Nat.le_refl _))
    have b4 := below_trans b2 b3
    clear b3 sh2 hT2 b2 bA HS2
    generalize w1.heap.size = b at *
    obtain ⟨c0, c1, c2⟩ := sh3
    go_wp2_with fail
    refine (shinf_64 w3).mono ?_
    rintro e w5 ⟨rfl, b5⟩
    have sh5 := ShAt.below ⟨c0, c1, c2⟩ b5
    have hT5 := Lib.hid (hT3.out.below b5 (Nat.le_refl _))
    have b6 := below_trans b4 b5
    clear c0 c1 c2
    obtain ⟨c0, c1, c2⟩ := sh5
    go_wp2
    ((try simp only [Exit.inBlock, Exit.then]); refine bodyPost_ret (results_tmp4 rfl _ _ _) rfl ?_)
    rw [E1.out, E2.out, E3.out, E4.out]
    exact ⟨rfl, b6⟩
  · have E1 := Lib.hid (show ok = true by rw [HO.out]; simp; omega)
    have E2 := Lib.hid (show ng = n by rw [HN.out, E1.out]; rfl)
    by_cases t2 : z = 0
    · have E3 := Lib.hid (show m = 0 by rw [HM.out, t2]; simp)
      have E4 := Lib.hid (show p = 0 by rw [HE.out, t2]; simp)
      have t2' : (z == 0) = true := by simpa using t2
      clear HM HE HN HO HRM HRE t2
      go_enter Tryz.func64, Tryz.ntmps64
      go_wp2_with fail
      refine (H1.out).mono ?_
      rintro e w1 ⟨rfl, b1⟩
      have bA : Below w1.heap.size w1 (w1.alloc (.cells #[.int .i64 52, .int .i64 (-1074), .int .i64 11] 95)) := (Below.refl _ _).alloc (Nat.le_refl _) _
      have sh2 : ShAt 52 (-1074) 11 w1.heap.size (w1.alloc (.cells #[.int .i64 52, .int .i64 (-1074), .int .i64 11] 95)) := ShAt.made _ _ _ _
      have HS2 := Lib.hid (H2.out (w1.alloc (.cells #[.int .i64 52, .int .i64 (-1074), .int .i64 11] 95)) ((hS.below b1 (Nat.le_refl _)).below bA (Nat.le_refl _)))
      have hT2 := (hT.below b1 (Nat.le_refl _)).below bA (Nat.le_refl _)
      have b2 := below_trans b1 bA
      go_wp2_with fail
      refine (HS2.out).mono ?_
      rintro e w3 ⟨rfl, b3⟩
      have sh3 := sh2.below b3
      have hT3 := Lib.hid (hT2.below b3 (Nat.le_refl _))
      have b4 := below_trans b2 b3
      clear b3 sh2 hT2 b2 bA HS2
      generalize w1.heap.size = b at *
      obtain ⟨c0, c1, c2⟩ := sh3
      go_wp2_with fail
      refine (shinf_64 w3).mono ?_
      rintro e w5 ⟨rfl, b5⟩
      have sh5 := ShAt.below ⟨c0, c1, c2⟩ b5
      have hT5 := Lib.hid (hT3.out.below b5 (Nat.le_refl _))
      have b6 := below_trans b4 b5
      clear c0 c1 c2
      obtain ⟨c0, c1, c2⟩ := sh5
      go_wp2
      ((try simp only [Exit.inBlock, Exit.then]); refine bodyPost_ret (results_tmp4 rfl _ _ _) rfl ?_)
      rw [E1.out, E2.out, E3.out, E4.out]
      exact ⟨by first | rfl | simp, b6⟩
    · have t2' : (z == 0) = false := by simpa using t2
      have E3 := Lib.hid (show m = oddI rm by rw [HM.out, E1.out, decide_eq_false t2]; rfl)
      have E4 := Lib.hid (show p = re + tzI rm by rw [HE.out, E1.out, decide_eq_false t2]; rfl)
      have K1 : 0 < rm ∧ rm < 9007199254740992 := by
        rw [HRM.out]
        have h1 := numM_lt 52 z.toNat
        rw [show (2 : Nat) ^ (52 + 1) = 9007199254740992 from by decide] at h1
        unfold numM at h1 ⊢
        rw [show (2 : Nat) ^ 52 = 4503599627370496 from by decide] at h1 ⊢
        split at h1 <;> rename_i h2
        · rw [if_pos h2]; omega
        · rw [if_neg h2]; omega
      have K2 := odd_spec rm K1.1 (by omega)
      have K3 := Lib.hid (show oddI rm = rm / 2 ^ (tzI rm).toNat by unfold oddI tzI; rw [Int.toNat_natCast])
      have HL := low_64 z (by omega)
      have hre : -1074 ≤ re ∧ re ≤ 2048 := by
        rw [HRE.out]
        have h1 := numP_le (W := 64) (by unfold Wide; omega) z.toNat (by have := infW_eq (W := 64) (by unfold Wide; omega); rw [inf64] at this; omega)
        rw [show shF 64 = 52 from rfl, show (2 : Nat) ^ shE 64 = 2048 from by decide] at h1
        omega
      have HTZ := Lib.hid (fun w hT => tz_calls rm ⟨K1.1, by omega⟩ w hT)
      obtain ⟨hL1, hL2⟩ := HL
      have V1 : IntKind.u64.wrap (4503599627370496 + z % 4503599627370496) = 4503599627370496 + z % 4503599627370496 := by rw [IntKind.wrap_u64]; omega
      have V2 : IntKind.i64.wrap (z / 4503599627370496) = z / 4503599627370496 := IntWalk.i64_in _ (by omega)
      have V3 : IntKind.i64.wrap (z / 4503599627370496 - 1) = z / 4503599627370496 - 1 := IntWalk.i64_in _ (by omega)
      have V4 : IntKind.i64.wrap (-1074 + (z / 4503599627370496 - 1)) = -1074 + (z / 4503599627370496 - 1) := IntWalk.i64_in _ (by omega)
      have V5 : IntKind.i64.wrap (re + tzI rm) = re + tzI rm := IntWalk.i64_in _ (by omega)
      obtain ⟨tz, htz⟩ : ∃ tz, tz = tzI rm := ⟨_, rfl⟩
      rw [← htz] at HTZ E4 K2 K3 V5
      have K4 := Lib.hid K2.1
      have hk5 := K2.2.2.2
      clear K2 htz HM HE HN HO t2
      rw [K3.out] at E3
      clear K3
      go_enter Tryz.func64, Tryz.ntmps64
      go_wp2_with fail
      refine (H1.out).mono ?_
      rintro e w1 ⟨rfl, b1⟩
      have bA : Below w1.heap.size w1 (w1.alloc (.cells #[.int .i64 52, .int .i64 (-1074), .int .i64 11] 95)) := (Below.refl _ _).alloc (Nat.le_refl _) _
      have sh2 : ShAt 52 (-1074) 11 w1.heap.size (w1.alloc (.cells #[.int .i64 52, .int .i64 (-1074), .int .i64 11] 95)) := ShAt.made _ _ _ _
      have HS2 := Lib.hid (H2.out (w1.alloc (.cells #[.int .i64 52, .int .i64 (-1074), .int .i64 11] 95)) ((hS.below b1 (Nat.le_refl _)).below bA (Nat.le_refl _)))
      have hT2 := (hT.below b1 (Nat.le_refl _)).below bA (Nat.le_refl _)
      have b2 := below_trans b1 bA
      go_wp2_with fail
      refine (HS2.out).mono ?_
      rintro e w3 ⟨rfl, b3⟩
      have sh3 := sh2.below b3
      have hT3 := Lib.hid (hT2.below b3 (Nat.le_refl _))
      have b4 := below_trans b2 b3
      clear b3 sh2 hT2 b2 bA HS2
      generalize w1.heap.size = b at *
      obtain ⟨c0, c1, c2⟩ := sh3
      go_wp2_with fail
      refine (shinf_64 w3).mono ?_
      rintro e w5 ⟨rfl, b5⟩
      have sh5 := ShAt.below ⟨c0, c1, c2⟩ b5
      have hT5 := Lib.hid (hT3.out.below b5 (Nat.le_refl _))
      have b6 := below_trans b4 b5
      clear c0 c1 c2
      obtain ⟨c0, c1, c2⟩ := sh5
      go_upto_region 7 with (fail)
      go_cut [3, 4] (fun s3 s4 wx => s3 = .int .u64 z ∧ s4 = .int .i64 (-1074) ∧ ∃ q, wx = w5.drewN q)
      case first =>
        go_quiet (fail)
        go_wp2_with fail
        go_meet
        case rel => exact ⟨rfl, rfl, _, rfl⟩
      case rest =>
        obtain ⟨rfl, rfl, q, rfl⟩ := hcut
        go_upto_if 33 with (fail)
        go_cut [3, 4] (fun s3 s4 wx => s3 = .int .u64 rm ∧ s4 = .int .i64 re ∧ ∃ q, wx = w5.drewN q)
        case first =>
          by_cases hk : z < 4503599627370496
          · have hk1 : z / 4503599627370496 = 0 := by omega
            have E5 := Lib.hid (show rm = z by rw [HRM.out]; unfold numM; rw [if_pos (by rw [show (2 : Nat) ^ 52 = 4503599627370496 from by decide]; omega)]; omega)
            have E6 := Lib.hid (show re = -1074 by rw [HRE.out]; unfold numP; rw [if_pos (by rw [show (2 : Nat) ^ 52 = 4503599627370496 from by decide]; omega)]; rfl)
            go_wp2_with fail
            go_meet
            case rel => exact ⟨by rw [E5.out], by rw [E6.out], _, rfl⟩
          · have hk1 : 0 < z / 4503599627370496 := by omega
            have E5 := Lib.hid (show rm = 4503599627370496 + z % 4503599627370496 by rw [HRM.out]; unfold numM; rw [if_neg (by rw [show (2 : Nat) ^ 52 = 4503599627370496 from by decide]; omega), show (2 : Nat) ^ 52 = 4503599627370496 from by decide]; omega)
            have E6 := Lib.hid (show re = -1074 + (z / 4503599627370496 - 1) by rw [HRE.out]; unfold numP; rw [if_neg (by rw [show (2 : Nat) ^ 52 = 4503599627370496 from by decide]; omega), show (2 : Nat) ^ 52 = 4503599627370496 from by decide]; omega)
            go_wp2_with fail
            go_quiet (fail)
            go_wp2_with fail
            go_meet
            case rel => exact ⟨by first | (rw [E5.out]; done) | (rw [E5.out]; simp), by rw [E6.out], _, by first | rfl | exact World.drewN_drewN ..⟩
        case rest =>
          obtain ⟨rfl, rfl, q', rfl⟩ := hcut
          have HTZ2 := Lib.hid (HTZ.out (w5.drewN q') (hT5.out.below (below_drewN (Below.refl w5.heap.size w5) q') (Nat.le_refl _)))
          go_wp2_with fail
          refine (HTZ2.out).mono ?_
          rintro e w' ⟨rfl, rfl⟩
          go_wp2_with fail
          go_quiet (fail)
          go_wp2_with fail
          ((try simp only [Exit.inBlock, Exit.then]); refine bodyPost_ret (results_tmp4 rfl _ _ _) rfl ?_)
          rw [E1.out, E2.out, E3.out, E4.out]
          exact ⟨by first | rfl | simp, below_drewN (below_drewN b6 _) _⟩
end Go.Proofs.YtoimhjcpeifegaaGreatDoor

