/- Contracts of functions, and plain facts, part 12. -/
import Derived.Deep.DeepCutAuto
import Derived.Test.YtoimhjcpeifegaaGreatDoorPk2
import Derived.Test.YtoimhjcpeifegaaGreatDoorPk4
import Derived.Test.YtoimhjcpeifegaaGreatDoorPk5
import Derived.Test.YtoimhjcpeifegaaGreatDoorPk6
import Derived.Test.YtoimhjcpeifegaaGreatDoorPk7
import Derived.Test.YtoimhjcpeifegaaGreatDoorPk8
import Derived.Test.YtoimhjcpeifegaaGreatDoorPk9
import Derived.Test.YtoimhjcpeifegaaGreatDoorPk10
import Derived.Test.YtoimhjcpeifegaaGreatDoorPk11
set_option linter.unusedVariables false
set_option linter.unusedSimpArgs false
/- A pattern's number by its parts, and the middle between two beside each other: plain. -/
namespace Go.Proofs.YtoimhjcpeifegaaGreatDoor

theorem size_low {W : Nat} (z : Int) (h : z < sgnW W) : sizeW W z = z := by unfold sizeW; rw [if_neg (by omega)]

/-- The parts of a size below the infinite one. -/
theorem parts_num {W : Nat} (hW : Wide W) (z : Int) (h0 : 0 ≤ z) (h1 : z < infW W) :
    shL W ≤ pE W z ∧ pM W z * 2 ^ (pE W z - shL W).toNat = (numN (shF W) z.toNat : Nat) ∧ pOk W z = true ∧ (z = 0 → pM W z = 0) ∧ (0 < z → 0 < pM W z ∧ pM W z % 2 = 1) := by
  have hs := infN_lt hW
  have hI := infW_eq hW
  have e1 : sizeW W z = z := size_low z (by omega)
  have e2 : pOk W z = true := by unfold pOk; rw [e1]; exact decide_eq_true h1
  have hL : shL W ≤ 0 := by rcases hW with rfl | rfl | rfl <;> decide
  unfold pM pE
  rw [e2, e1]
  by_cases hz : z = 0
  · subst hz
    simp only [decide_true, Bool.not_true, Bool.and_false, Bool.false_eq_true, if_false]
    refine ⟨hL, ?_, trivial, fun _ => trivial, fun h => by omega⟩
    rw [Int.zero_mul, show (0 : Int).toNat = 0 from rfl, numN_zero]; rfl
  · have hpos : 0 < rawM W z := raw_pos z (by rw [e1]; omega)
    have hlt := raw_lt hW z
    obtain ⟨k1, k2, k3, k4, k5, k6⟩ := odd_spec (rawM W z) hpos (by omega)
    rw [decide_eq_false hz]
    simp only [Bool.not_false, Bool.and_true, if_true]
    have hE : rawE W z = shL W + (numP (shF W) z.toNat : Nat) := by unfold rawE; rw [e1]
    have hM : rawM W z = (numM (shF W) z.toNat : Nat) := by unfold rawM; rw [e1]
    refine ⟨by omega, ?_, trivial, fun h => absurd h hz, fun _ => ⟨k3, k2⟩⟩
    rw [hE, show (shL W + ((numP (shF W) z.toNat : Nat) : Int) + tzI (rawM W z) - shL W).toNat = (tzI (rawM W z)).toNat + numP (shF W) z.toNat by omega, Int.pow_add, ← Int.mul_assoc, ← k1, hM, numN_parts]
    simp

end Go.Proofs.YtoimhjcpeifegaaGreatDoor


/- Parts of whole numbers; natural numbers as words on values; the contracts of crucibleref01 by them. -/
namespace Go.Proofs.YtoimhjcpeifegaaGreatDoor
open Go Go.RowKit

def PM (V : Int) (v : Value) (w : World) (B : Bx) : Prop := ∃ ad n c, v = .slice ad n c ∧ Num w ad n c V ∧ n ≤ LIM
/-- A list of worth V. -/
def IsM (V : Int) : VP := ⟨PM V, fun v w B w' B' h hp => by
  obtain ⟨ad, n, c, e, k, l⟩ := hp
  obtain ⟨xs, h1, h2, h3⟩ := k.row
  exact ⟨ad, n, c, e, ⟨k.le, xs, h1.mv h (.inl rfl), h2, h3⟩, l⟩⟩
def PC (V : Int) (v : Value) (w : World) (B : Bx) : Prop := ∃ ad n c, v = .slice ad n c ∧ Can w ad n c V ∧ n ≤ LIM ∧ 0 ≤ V
/-- The list of the number V. -/
def IsC (V : Int) : VP := ⟨PC V, fun v w B w' B' h hp => by
  obtain ⟨ad, n, c, e, k, l, hV⟩ := hp
  exact ⟨ad, n, c, e, ⟨k.le, k.rds.mv h (.inl rfl)⟩, l, hV⟩⟩
/-- A bool that is the sign of X, where X is not 0. -/
def IsSg (X : Int) : VP := ⟨fun v _ _ => ∃ ng : Bool, v = .bool ng ∧ X = sI ng (X.natAbs : Int), fun _ _ _ _ _ _ h => h⟩
theorem weakCM {V : Int} (v : Value) (w : World) (B : Bx) (h : (IsC V).p v w B) : (IsM V).p v w B := by
  obtain ⟨ad, n, c, e, k, l, hV⟩ := h
  exact ⟨ad, n, c, e, k.num hV, l⟩
theorem weakZN (v : Value) (w : World) (B : Bx) (h : Zero2.p v w B) : (IsN 0).p v w B := by
  obtain rfl := h
  exact weakIN _ _ _ (zero_isI w B)
theorem PM.nonneg {V : Int} {v : Value} {w : World} {B : Bx} (h : (IsM V).p v w B) : 0 ≤ V := by
  obtain ⟨ad, n, c, e, k, l⟩ := h
  exact k.nonneg
section
variable {need : List (Tmp × FD)} {d : Option Tmp} {ty : TypeId} {pos : String} {af : Array Edge} {g : Option (Nat × Bool)} {x : Operand} {D : VP}
set_option maxRecDepth 50000 in
theorem ok_addrI0 (h : Opd need x (.box 34 2 D)) : OpOk Tryz.prog ⟨d, .fieldAddr 34 x 0, ty, pos, af, g⟩ need (.ptr 34 2 D 0) false :=
  ok_fieldAddr 0 0 Tryz.underlying34 rfl rfl (fun w => ⟨1, by go_simp, by decide⟩) h
set_option maxRecDepth 50000 in
theorem ok_addrI1 (h : Opd need x (.box 34 2 D)) : OpOk Tryz.prog ⟨d, .fieldAddr 34 x 1, ty, pos, af, g⟩ need (.ptr 34 2 D 1) false :=
  ok_fieldAddr 1 1 Tryz.underlying34 rfl rfl (fun w => ⟨1, by go_simp, by decide⟩) h
theorem aggBool (w : World) : (isAgg 4).run Tryz.prog w = .ok false w := by go_simp
theorem aggNat (w : World) : (isAgg 32).run Tryz.prog w = .ok false w := by go_simp
theorem ok_loadNegN {N : Int} (h : Opd need x (.ptr 34 2 (IsN N) 0)) : OpOk Tryz.prog ⟨d, .load 4 x, ty, pos, af, g⟩ need (.val (IsSg N)) false :=
  ok_loadPtr1 aggBool h (by decide) fun cs v w B ⟨ng, ad, n, c, V, e, k, l, hN⟩ hv => by
    injection e with e
    subst e
    simp at hv
    exact ⟨ng, hv.symm, by rw [hN, sI_abs ng V k.nonneg]⟩
theorem ok_loadMagN {N : Int} (h : Opd need x (.ptr 34 2 (IsN N) 1)) : OpOk Tryz.prog ⟨d, .load 32 x, ty, pos, af, g⟩ need (.val (IsM (N.natAbs : Int))) false :=
  ok_loadPtr1 aggNat h (by decide) fun cs v w B ⟨ng, ad, n, c, V, e, k, l, hN⟩ hv => by
    injection e with e
    subst e
    simp at hv
    exact ⟨ad, n, c, hv.symm, by rw [hN, sI_abs ng V k.nonneg]; exact k, l⟩
set_option maxRecDepth 50000 in
theorem run_build0 (w : World) : (Instr.build 34 #[]).run Tryz.prog w = .ok (.agg #[.bool false, .slice none 0 0]) w := by go_simp
set_option maxRecDepth 50000 in
theorem run_build2 (b : Bool) (ad : Option Addr) (n c : Nat) (w : World) : (Instr.build 34 #[(0, .bool b), (1, .slice ad n c)]).run Tryz.prog w = .ok (.agg #[.bool b, .slice ad n c]) w := by go_simp
set_option maxRecDepth 50000 in
theorem run_build1 (ad : Option Addr) (n c : Nat) (w : World) : (Instr.build 34 #[(1, .slice ad n c)]).run Tryz.prog w = .ok (.agg #[.bool false, .slice ad n c]) w := by go_simp
set_option maxRecDepth 50000 in
theorem ok_build0 : OpOk Tryz.prog ⟨d, .build 34 #[], ty, pos, af, g⟩ need (.val Zero2) false :=
  OpOk.value fun a w B hF => ⟨.agg #[.bool false, .slice none 0 0], by simp [execOp, Sem.run_bind, run_build0], rfl⟩

set_option maxRecDepth 50000 in
theorem ok_buildSN {y : Operand} {N : Int} (h : Opd need x (.val (IsSg N))) (h' : Opd need y (.val (IsM (N.natAbs : Int)))) : OpOk Tryz.prog ⟨d, .build 34 #[(0, x), (1, y)], ty, pos, af, g⟩ need (.val (IsN N)) false :=
  ok_via2 h h' fun ρ w B v u ⟨ng, e1, hN⟩ ⟨ad, n, c, e2, k, l⟩ h1 h2 => by
    refine ⟨.agg #[.bool ng, .slice ad n c], ?_, ng, ad, n, c, _, rfl, k, l, hN⟩
    have := run_build2 ng ad n c w
    simp [execOp, h1, h2, e1, e2, this]
set_option maxRecDepth 50000 in
theorem ok_buildBN {y : Operand} {b : Bool} {V : Int} (h : Opd need x (.val (IsB b))) (h' : Opd need y (.val (IsM V))) : OpOk Tryz.prog ⟨d, .build 34 #[(0, x), (1, y)], ty, pos, af, g⟩ need (.val (IsN (sI b V))) false :=
  ok_via2 h h' fun ρ w B v u e1 ⟨ad, n, c, e2, k, l⟩ h1 h2 => by
    refine ⟨.agg #[.bool b, .slice ad n c], ?_, b, ad, n, c, _, rfl, k, l, rfl⟩
    have := run_build2 b ad n c w
    have e1 : v = .bool b := e1
    simp [execOp, h1, h2, e1, e2, this]
set_option maxRecDepth 50000 in
theorem ok_buildI1 {V : Int} (h : Opd need x (.val (IsC V))) : OpOk Tryz.prog ⟨d, .build 34 #[(1, x)], ty, pos, af, g⟩ need (.val (IsI V)) false :=
  ok_via h fun ρ w B v ⟨ad, n, c, e2, k, l, hV⟩ h1 => by
    refine ⟨.agg #[.bool false, .slice ad n c], ?_, ad, n, c, by rw [decide_eq_false (by omega)], by rw [show ((V.natAbs : Nat) : Int) = V by omega]; exact k, l⟩
    have := run_build1 ad n c w
    simp [execOp, h1, e2, this]
end

theorem FitK.sI {k : Nat} {V : Int} {b : Bool} (h : FitK k V) : FitK k (sI b V) := by
  cases b
  · exact h
  · exact h.neg

theorem RetC.con {V : Int} {w : World} {B : Bx} {e : Ending} {w' : World} (hV : 0 ≤ V) (hN : Fits V) (h : RetC V w e w') : ∃ v, e = .returned v ∧ (IsC V).p v w' B ∧ Below w.heap.size w w' := by
  obtain ⟨ad, n, c, rfl, k, hb⟩ := h
  obtain ⟨q, hq, hf⟩ := hN
  unfold FitK at hf
  exact ⟨_, rfl, ⟨ad, n, c, rfl, k, Nat.le_trans (k.len_le q (by omega)) hq, hV⟩, hb⟩
end Go.Proofs.YtoimhjcpeifegaaGreatDoor


/- Printed by ieee3.py. -/
namespace Go.Proofs.YtoimhjcpeifegaaGreatDoor
open Go.RowKit

set_option maxRecDepth 20000 in
set_option maxHeartbeats 2000000 in
theorem from_64 (w : World) (hS : Shapes w) (hT : Tab w) (ng : Bool) (ad : Option Addr) (n c : Nat) (V : Int) (h : Num w ad n c V) (hn : n ≤ 1099511627776) : Calls Tryz.prog 246 #[.agg #[.bool ng, .slice ad n c]] w (fun e w' => e = .returned (.tuple #[.int .u64 (fromW 64 (sI ng V)).1, .bool (fromW 64 (sI ng V)).2]) ∧ Below w.heap.size w w') := by
  have hV := h.nonneg
  have hlt := Lib.hid h.lt
  have b0 : Below w.heap.size w (w.alloc (.cells #[.bool ng, .slice ad n c] 34)) := (Below.refl _ _).alloc (Nat.le_refl _) _
  have k0 : Cel (w.alloc (.cells #[.bool ng, .slice ad n c] 34)) w.heap.size 34 [.bool ng, .slice ad n c] := Cel.made _ _ _ _ rfl
  have hw0 : w.heap.size < (w.alloc (.cells #[.bool ng, .slice ad n c] 34)).heap.size := by simp
  have HNm := Lib.hid (wnorm_calls ng ad n c V _ (h.below b0 (Nat.le_refl _)) (by omega))
  have HA := Lib.hid (sI_abs ng V hV)
  generalize sI ng V = N at *
  have HF := Lib.hid (show fromW 64 N = (roundW 64 (decide (N < 0)) N.natAbs 0 false, intOk 64 (roundW 64 (decide (N < 0)) N.natAbs 0 false) && decide ((intN 64 (roundW 64 (decide (N < 0)) N.natAbs 0 false)).natAbs = N.natAbs)) from rfl)
  have hy := roundW_bd (W := 64) (by unfold Wide; omega) (decide (N < 0)) N.natAbs 0 false
  rw [show (2 : Int) ^ 64 = 18446744073709551616 from by decide] at hy
  have HI := Lib.hid (fun (w : World) (hS : Shapes w) (hT : Tab w) => iint_64 w hS hT (roundW 64 (decide (N < 0)) N.natAbs 0 false) hy)
  have HRd := Lib.hid (fun (w : World) (hS : Shapes w) (ad : Option Addr) (n c : Nat) (h : Num w ad n c N.natAbs) (hn : n ≤ 1099511627776) => round_64 w hS (decide (N < 0)) ad n c N.natAbs 0 false h hn (by omega))
  have HA2 := Lib.hid (show 0 ≤ (N.natAbs : Int) by omega)
  generalize fromW 64 N = R at *
  generalize roundW 64 (decide (N < 0)) N.natAbs 0 false = y at *
  have HZ := Lib.hid (intN_bd (W := 64) (by unfold Wide; omega) y)
  generalize intOk 64 y = iok at *
  generalize intN 64 y = Z at *
  have hz0 : w.heap.size ≤ w.heap.size := Nat.le_refl _
  go_enter Tryz.func246, Tryz.ntmps246
  go_wp2_with fail
  refine (HNm.out).mono ?_
  rintro e w1 ⟨ad1, n1, d1, rfl, f1, b1⟩
  have k1 := k0.next b1
  have l1 := f1.len_le n (by rw [HA.out]; exact hlt.out)
  have a1 := below_trans b0 b1
  have c0 := k1.cell 0 _ rfl
  have c1 := k1.cell 1 _ rfl
  have g0 := k1.free 0
  have g1 := k1.free 1
  have f2 := f1.poke2 k1 (.bool (decide (N < 0))) (.slice ad1 n1 d1)
  have k2 := (k1.set 0 (.bool (decide (N < 0)))).set 1 (.slice ad1 n1 d1)
  have a2 := below_set (below_set a1 w.heap.size 0 (.bool (decide (N < 0))) (Nat.le_refl _)) w.heap.size 1 (.slice ad1 n1 d1) (Nat.le_refl _)
  have hb : w.heap.size < w1.heap.size := k1.lt
  generalize hdn : decide (N < 0) = dn at *
  clear hdn
  go_upto_region 2 with (fail)
  clear c0 c1 g0 g1
  generalize (w1.setCell ⟨w.heap.size, 0, none⟩ (.bool dn)).setCell ⟨w.heap.size, 1, none⟩ (.slice ad1 n1 d1) = w2 at *
  have c0 := k2.cell 0 _ rfl
  have c1 := k2.cell 1 _ rfl
  have HR1 := Lib.hid (HRd.out w2 (hS.below a2 (Nat.le_refl _)) ad1 n1 d1 (f2.num HA2.out) (by omega))
  go_wp2_with fail
  refine (HR1.out).mono ?_
  rintro e w3 ⟨rfl, b3⟩
  have a3 := below_trans a2 b3
  have k3 := k2.next b3
  have f3 := f2.below b3 (Nat.le_refl _)
  clear c0 c1
  have HI1 := Lib.hid (HI.out w3 (hS.below a3 (Nat.le_refl _)) (hT.below a3 (Nat.le_refl _)))
  go_wp2_with fail
  refine (HI1.out).mono ?_
  rintro e w4 ⟨ad4, n4, d4, rfl, f4, b4⟩
  have a4 := below_trans a3 b4
  have k4 := k3.next b4
  have f5 := f3.below b4 (Nat.le_refl _)
  have l4 := f4.len_le (2 + 4097) HZ.out
  have bA : Below w4.heap.size w4 (w4.alloc (.cells #[.bool (decide (Z < 0)), .slice ad4 n4 d4] 34)) := (Below.refl _ _).alloc (Nat.le_refl _) _
  have a5 := below_trans a4 bA
  have k5 := k4.next bA
  have kz : Cel (w4.alloc (.cells #[.bool (decide (Z < 0)), .slice ad4 n4 d4] 34)) w4.heap.size 34 [.bool (decide (Z < 0)), .slice ad4 n4 d4] := Cel.made _ _ _ _ rfl
  have z1 := kz.cell 1 _ rfl
  have c1 := k5.cell 1 _ rfl
  have HCm := Lib.hid (num_cmp ad4 ad1 n4 n1 d4 d1 Z.natAbs N.natAbs _ ((f4.num (by omega)).below bA (Nat.le_refl _)) ((f5.num HA2.out).below bA (Nat.le_refl _)) (by omega) (by omega))
  cases iok
  · have HR := Lib.hid (show R = (y, false) by rw [HF.out]; rfl)
    clear HF HCm
    go_wp2
    go_ret2
    rw [HR.out]
    exact ⟨rfl, a5⟩
  · by_cases hzn : Z.natAbs = N.natAbs
    · have HR := Lib.hid (show R = (y, true) by rw [HF.out, decide_eq_true hzn]; rfl)
      rw [cmpI_eq (by rw [hzn])] at HCm
      clear HF hzn
      go_wp2_with fail
      refine (HCm.out).mono ?_
      rintro e w' ⟨rfl, q, rfl⟩
      go_wp2
      go_ret2
      rw [HR.out]
      exact ⟨rfl, below_drewN a5 _⟩
    · have HR := Lib.hid (show R = (y, false) by rw [HF.out, decide_eq_false hzn]; rfl)
      have hc : cmpI (Z.natAbs : Int) N.natAbs ≠ 0 := by
        unfold cmpI
        split
        · omega
        · split <;> omega
      generalize cmpI (Z.natAbs : Int) N.natAbs = C at *
      have hc2 : (C == 0) = false := by simpa using hc
      clear HF hzn hc
      go_wp2_with fail
      refine (HCm.out).mono ?_
      rintro e w' ⟨rfl, q, rfl⟩
      go_wp2
      go_ret2
      rw [HR.out]
      exact ⟨rfl, below_drewN a5 _⟩
end Go.Proofs.YtoimhjcpeifegaaGreatDoor


/- Patterns there and back: by their parts, in another width, as whole numbers. Plain. -/
namespace Go.Proofs.YtoimhjcpeifegaaGreatDoor

theorem size_idem {W : Nat} (hW : Wide W) (x : Int) (hx : 0 ≤ x ∧ x < 2 ^ W) : sizeW W (sizeW W x) = sizeW W x := by
  have := size_bounds hW x hx
  exact size_low _ this.2

/-- The parts hang on the size alone. -/
theorem parts_size {W : Nat} (hW : Wide W) (x : Int) (hx : 0 ≤ x ∧ x < 2 ^ W) : pM W (sizeW W x) = pM W x ∧ pE W (sizeW W x) = pE W x ∧ pOk W (sizeW W x) = pOk W x := by
  have e := size_idem hW x hx
  unfold pM pE pOk rawM rawE
  rw [e]
  exact ⟨rfl, rfl, rfl⟩

/-- Numbers of few digits that are not too great are patterns' numbers. -/
theorem num_of (F E M t : Nat) (hM : M < 2 ^ (F + 1)) : ∃ z, numN F z = M * 2 ^ t := by
  by_cases h0 : M = 0
  · exact ⟨0, by rw [h0, numN_zero, Nat.zero_mul]⟩
  · have b1 := blen_ge M h0
    have b2 := blen_lt M
    have hb : blen M ≤ F + 1 := by
      have := Nat.lt_of_le_of_lt b1 hM
      have := (Nat.pow_lt_pow_iff_right (show 1 < 2 by omega)).1 this
      omega
    have hb0 := blen_pos M h0
    by_cases hs : blen M + t ≤ F + 1
    · have hlt : M * 2 ^ t < 2 ^ (F + 1) := by
        have h1 : M * 2 ^ t < 2 ^ blen M * 2 ^ t := Nat.mul_lt_mul_of_pos_right b2 (Nat.two_pow_pos t)
        rw [← Nat.pow_add] at h1
        exact Nat.lt_of_lt_of_le h1 (Nat.pow_le_pow_right (by omega) hs)
      refine ⟨M * 2 ^ t, ?_⟩
      have := numN_at F 0 (M * 2 ^ t) (.inl rfl) (by omega)
      rw [Nat.zero_mul, Nat.zero_add, Nat.pow_zero, Nat.mul_one] at this
      exact this
    · have hk1 : 2 ^ F ≤ M * 2 ^ (F + 1 - blen M) := by
        refine Nat.le_trans ?_ (Nat.mul_le_mul_right _ b1)
        rw [← Nat.pow_add]
        exact Nat.pow_le_pow_right (by omega) (by omega)
      have hk2 : M * 2 ^ (F + 1 - blen M) ≤ 2 ^ (F + 1) := by
        have h1 : M * 2 ^ (F + 1 - blen M) ≤ 2 ^ blen M * 2 ^ (F + 1 - blen M) := Nat.mul_le_mul_right _ (Nat.le_of_lt b2)
        rw [← Nat.pow_add] at h1
        rwa [show blen M + (F + 1 - blen M) = F + 1 by omega] at h1
      refine ⟨(blen M + t - (F + 1)) * 2 ^ F + M * 2 ^ (F + 1 - blen M), ?_⟩
      rw [numN_at F _ _ (.inr hk1) hk2, Nat.mul_assoc, ← Nat.pow_add]
      congr 2
      omega

theorem numN_lt_iff (F a b : Nat) : numN F a < numN F b ↔ a < b := by
  constructor
  · intro h
    rcases Nat.lt_or_ge a b with h1 | h1
    · exact h1
    · have := numN_mono F h1; omega
  · intro h
    exact Nat.lt_of_lt_of_le (numN_lt_succ F a) (numN_mono F h)

theorem numN_inj (F a b : Nat) (h : numN F a = numN F b) : a = b := by
  have h1 := numN_lt_iff F a b
  have h2 := numN_lt_iff F b a
  omega

/-- One number, one pair of parts. -/
theorem odd_unique (m n : Int) (e f L : Int) (he : L ≤ e) (hf : L ≤ f) (hm : m % 2 = 1) (hn : n % 2 = 1) (h : m * 2 ^ (e - L).toNat = n * 2 ^ (f - L).toNat) (hm0 : 0 < m) (hn0 : 0 < n) : m = n ∧ e = f := by
  obtain ⟨a, rfl⟩ := Int.eq_ofNat_of_zero_le (Int.le_of_lt hm0)
  obtain ⟨b, rfl⟩ := Int.eq_ofNat_of_zero_le (Int.le_of_lt hn0)
  have h2 : 2 ^ (e - L).toNat * (2 * (a / 2) + 1) = 2 ^ (f - L).toNat * (2 * (b / 2) + 1) := by
    rw [show 2 * (a / 2) + 1 = a by omega, show 2 * (b / 2) + 1 = b by omega, Nat.mul_comm, Nat.mul_comm (2 ^ (f - L).toNat)]
    have : ((a * 2 ^ (e - L).toNat : Nat) : Int) = ((b * 2 ^ (f - L).toNat : Nat) : Int) := by simpa using h
    omega
  obtain ⟨k1, k2⟩ := two_split h2
  omega

/-- x of width V has its number in width W too, if W is no narrower. -/
theorem embed {V W : Nat} (hV : Wide V) (hW : Wide W) (hle : V ≤ W) (y : Int) (hy : 0 ≤ y ∧ y < 2 ^ V) (h : pOk V y = true) :
    let z := roundW W (pNeg V y) (pM V y) (pE V y) false
    pOk W z = true ∧ pM W z = pM V y ∧ pE W z = pE V y ∧ pNeg W z = pNeg V y := by
  intro z
  have hlt : sizeW V y < infW V := of_decide_eq_true h
  have hs := size_bounds hV y hy
  obtain ⟨k1, k2, -, k4, k5⟩ := parts_num hV (sizeW V y) hs.1 hlt
  obtain ⟨e1, e2, -⟩ := parts_size hV y hy
  rw [e1] at k2 k4 k5
  rw [e2] at k1 k2
  have hm := pM_bd hV y
  have hL : shL W ≤ shL V ∧ shF V ≤ shF W ∧ (topP V : Int) + shL V ≤ topP W + shL W := by
    rcases hV with rfl | rfl | rfl <;> rcases hW with rfl | rfl | rfl <;> first | decide | omega
  have hIV := infW_eq hV
  have hIW := infW_eq hW
  -- the number in steps of W
  have hraw := numN_parts (shF V) (sizeW V y).toNat
  have hmlt := numM_lt (shF V) (sizeW V y).toNat
  obtain ⟨zz, hzz⟩ := num_of (shF W) 0 (numM (shF V) (sizeW V y).toNat) (numP (shF V) (sizeW V y).toNat + (shL V - shL W).toNat) (Nat.lt_of_lt_of_le hmlt (Nat.pow_le_pow_right (by omega) (by omega)))
  rw [Nat.pow_add, ← Nat.mul_assoc, ← hraw] at hzz
  have hzI : zz < infN W := by
    rw [← numN_lt_iff (shF W), hzz, numN_inf hW]
    have h1 : numN (shF V) (sizeW V y).toNat < 2 ^ topP V := by
      rw [← numN_inf hV]
      exact (numN_lt_iff _ _ _).2 (by omega)
    have h2 : numN (shF V) (sizeW V y).toNat * 2 ^ (shL V - shL W).toNat < 2 ^ topP V * 2 ^ (shL V - shL W).toNat := Nat.mul_lt_mul_of_pos_right h1 (Nat.two_pow_pos _)
    rw [← Nat.pow_add] at h2
    exact Nat.lt_of_lt_of_le h2 (Nat.pow_le_pow_right (by omega) (by omega))
  -- M 2^e in steps of W
  have hX : (pM V y).toNat * 2 ^ (pE V y - shL W).toNat = numN (shF W) zz := by
    have c1 : (pM V y).toNat * 2 ^ (pE V y - shL V).toNat = numN (shF V) (sizeW V y).toNat := by
      have : (((pM V y).toNat * 2 ^ (pE V y - shL V).toNat : Nat) : Int) = (numN (shF V) (sizeW V y).toNat : Nat) := by
        rw [← k2, Int.natCast_mul, Int.toNat_of_nonneg hm.1]
        simp
      omega
    rw [hzz, ← c1, Nat.mul_assoc, ← Nat.pow_add]
    congr 2
    omega
  have hnear : nearE W (pM V y).toNat (pE V y) = zz := by
    refine nearE_self hW _ _ _ (by omega) ?_
    unfold rX rU
    rw [show (shL W - pE V y).toNat = 0 by omega, Nat.pow_zero, Nat.mul_one, hX]
  have hz : z = (if pNeg V y then sgnW W else 0) + (zz : Int) := by
    show roundW W (pNeg V y) (pM V y) (pE V y) false = _
    unfold roundW
    show (if pNeg V y = true then sgnW W else 0) + ((nearE W (pM V y).toNat (pE V y) : Nat) : Int) = _
    rw [hnear]
  have hSI := infN_lt hW
  have hzs : sizeW W z = zz ∧ negW W z = pNeg V y := by
    rw [hz]
    unfold sizeW negW
    cases pNeg V y
    · simp; omega
    · simp; omega
  have hok : pOk W z = true := by unfold pOk; rw [hzs.1]; exact decide_eq_true (by omega)
  have hzb : 0 ≤ z ∧ z < 2 ^ W := roundW_bd hW _ _ _ _
  obtain ⟨q1, q2, -, q4, q5⟩ := parts_num hW (sizeW W z) (by rw [hzs.1]; omega) (by rw [hzs.1]; omega)
  obtain ⟨g1, g2, -⟩ := parts_size hW z hzb
  rw [g1] at q2 q4 q5
  rw [g2] at q1 q2
  rw [hzs.1, Int.toNat_natCast] at q2
  have hng : pNeg W z = pNeg V y := by unfold pNeg at *; rw [hok, Bool.true_and]; exact hzs.2
  refine ⟨hok, ?_, ?_, hng⟩ <;> by_cases h0 : sizeW V y = 0
  · have hz0 : zz = 0 := numN_inj (shF W) zz 0 (by rw [hzz, h0, numN_zero, show (0 : Int).toNat = 0 from rfl, numN_zero, Nat.zero_mul])
    rw [q4 (by rw [hzs.1, hz0]; rfl), k4 h0]
  · have hz0 : 0 < zz := by
      rcases Nat.eq_zero_or_pos zz with h1 | h1
      · rw [h1, numN_zero] at hzz
        have h2 := (numN_lt_iff (shF V) 0 (sizeW V y).toNat).2 (by omega)
        rw [numN_zero] at h2
        have := Nat.mul_pos h2 (Nat.two_pow_pos (shL V - shL W).toNat)
        omega
      · exact h1
    have o1 := q5 (by rw [hzs.1]; omega)
    have o2 := k5 (by omega)
    have hX2 : pM V y * 2 ^ (pE V y - shL W).toNat = (numN (shF W) zz : Nat) := by
      rw [← hX, Int.natCast_mul, Int.toNat_of_nonneg hm.1]; simp
    exact (odd_unique _ _ _ _ (shL W) q1 (by omega) o1.2 o2.2 (q2.trans hX2.symm) o1.1 o2.1).1
  · have hz0 : zz = 0 := numN_inj (shF W) zz 0 (by rw [hzz, h0, numN_zero, show (0 : Int).toNat = 0 from rfl, numN_zero, Nat.zero_mul])
    have a1 : pE W z = 0 := by unfold pE; rw [hzs.1, hz0, hok]; rfl
    have a2 : pE V y = 0 := by unfold pE; rw [h0, h]; rfl
    rw [a1, a2]
  · have hz0 : 0 < zz := by
      rcases Nat.eq_zero_or_pos zz with h1 | h1
      · rw [h1, numN_zero] at hzz
        have h2 := (numN_lt_iff (shF V) 0 (sizeW V y).toNat).2 (by omega)
        rw [numN_zero] at h2
        have := Nat.mul_pos h2 (Nat.two_pow_pos (shL V - shL W).toNat)
        omega
      · exact h1
    have o1 := q5 (by rw [hzs.1]; omega)
    have o2 := k5 (by omega)
    have hX2 : pM V y * 2 ^ (pE V y - shL W).toNat = (numN (shF W) zz : Nat) := by
      rw [← hX, Int.natCast_mul, Int.toNat_of_nonneg hm.1]; simp
    exact (odd_unique _ _ _ _ (shL W) q1 (by omega) o1.2 o2.2 (q2.trans hX2.symm) o1.1 o2.1).2

/-- A pattern that is no finite one, in another width. -/
theorem inf_facts {V : Nat} (hV : Wide V) (b : Bool) : let y := (if b then sgnW V else 0) + infW V
    sizeW V y = infW V ∧ negW V y = b ∧ pOk V y = false ∧ isNaN V y = false := by
  have h := inf_fits hV
  have hp := pow_wide hV
  intro y
  have e : sizeW V y = infW V ∧ negW V y = b := by
    show sizeW V ((if b then sgnW V else 0) + infW V) = _ ∧ negW V ((if b then sgnW V else 0) + infW V) = _
    unfold sizeW negW
    cases b
    · simp; omega
    · simp; omega
  refine ⟨e.1, e.2, ?_, ?_⟩
  · unfold pOk; rw [e.1]; exact decide_eq_false (Int.lt_irrefl _)
  · unfold isNaN; rw [e.1]; exact decide_eq_false (Int.lt_irrefl _)

end Go.Proofs.YtoimhjcpeifegaaGreatDoor


/- Functions that read the laid variables shapes and deBruijn64tab. -/
namespace Go.Proofs.YtoimhjcpeifegaaGreatDoor
open Go Go.RowKit

structure EnvP (w : World) (B : Bx) : Prop where
  sh : Shapes w
  tab : Tab w
  no : ¬ B 2
theorem cell_mv {w w' : World} {B B' : Bx} (h : Mv w B w' B') {a : Addr} {v : Value} (hc : w.cell? a = some v) (hn : ¬ B a.block ∨ ¬ Plain w a.block) : w'.cell? a = some v := by
  have hl := World.block_lt_of_cell? w a hc
  rcases h.same _ hl with h1 | ⟨h1, h2⟩
  · rw [← hc]; exact World.cell?_of_block h1
  · rcases hn with h3 | h3
    · exact absurd h1 h3
    · exact absurd h2 h3
theorem EnvP.mv {w w' : World} {B B' : Bx} (h : Mv w B w' B') (e : EnvP w B) : EnvP w' B' := by
  obtain ⟨⟨c0, c1, c2, c3, c4, c5, c6, c7, c8⟩, ht, hn⟩ := e
  have k : ∀ {j : Nat} {v : Value}, w.cell? ⟨2, j, none⟩ = some v → w'.cell? ⟨2, j, none⟩ = some v := fun hc => cell_mv h hc (.inl hn)
  refine ⟨⟨k c0, k c1, k c2, k c3, k c4, k c5, k c6, k c7, k c8⟩, fun j hj => cell_mv h (ht j hj) (.inr fun hp => hp _ .u8 _ rfl (.inr rfl) (ht j hj)), fun hb => hn (h.box _ (World.block_lt_of_cell? w _ c0) hb)⟩
def EnvV : VP := ⟨fun _ w B => EnvP w B, fun _ _ _ _ _ h e => e.mv h⟩
structure ConE (P : Program) (f : FuncId) (Ds : List VP) (R : VP) : Prop where
  enters : ∀ (vs : Array Value) (w : World), (callFunc f vs).run P w = .ok (.enter f vs) w
  calls : ∀ (vs : List Value) (w : World) (B : Bx), Own1 B w → EnvP w B → VAll vs Ds w B → Calls P f vs.toArray w (fun e w' => ∃ v, e = .returned v ∧ R.p v w' B ∧ Below w.heap.size w w')
theorem ConE.weak {P : Program} {f : FuncId} {Ds : List VP} {R R' : VP} (h : ConE P f Ds R) (hw : ∀ v w B, R.p v w B → R'.p v w B) : ConE P f Ds R' :=
  ⟨h.enters, fun vs w B hB hE hV => (h.calls vs w B hB hE hV).mono fun e w' ⟨v, e1, h1, h2⟩ => ⟨v, e1, hw _ _ _ h1, h2⟩⟩
section
variable {P : Program} {need : List (Tmp × FD)} {d : Option Tmp} {ty : TypeId} {pos : String} {af : Array Edge} {g : Option (Nat × Bool)}
theorem ok_callE {f : FuncId} {args : List Operand} {ts : Array TypeId} {Ds : List VP} {R : VP} (C : ConE P f Ds R) (k : Nat) {s : Tmp} (hk : need[k]? = some (s, .val EnvV)) (h : Opds need args Ds) : OpOk P ⟨d, .call { callee := .value (.func f), args := args.toArray, argTypes := ts }, ty, pos, af, g⟩ need (.val R) false := by
  intro Q K a w B hB hF hK
  have hr : (execOp a.eval ⟨d, .call { callee := .value (.func f), args := args.toArray, argTypes := ts }, ty, pos, af, g⟩).run P w = .ok (.enter f (args.map a.eval).toArray) w := by
    simp [execOp, resolve, Act.eval, Deferred.ofValue, invoke, Sem.run_bind, C.enters]
  unfold Oper.wp
  rw [hr]
  have hE : EnvP w B := hF.get k hk
  refine (C.calls (args.map a.eval) w B hB hE (h.all hF)).mono ?_
  rintro e w' ⟨v, rfl, h1, h2⟩
  have hbl := Bl.of_below B h2
  exact hK v w' B h1 hbl h2 (fun k hk => Nat.lt_of_lt_of_le (hB k hk) h2.size) (by simp)
end
theorem f_enterE {P : Program} {f : FuncId} {fn : Func} {c : Code} {Ds : List VP} {R : VP} {N : Nat} (hN : fn.ntmps = N) (he : ∀ (vs : Array Value) (w : World), (callFunc f vs).run P w = .ok (.enter f vs) w) (hf : P.funcs[f]? = some fn) (hb : fn.body = some c) (hn : Ds.length ≤ N)
    (h : ∀ (a : Act) (w : World) (B : Bx), St N w B a w B (Ds.zipIdx.map (fun x => (x.2, .val x.1)) ++ [(N, .val EnvV)]) [] → c.wp P (bodyPost P fn fun e w' => ∃ v, e = .returned v ∧ R.p v w' B ∧ Below w.heap.size w w') a w) : ConE P f Ds R := by
  refine ⟨he, fun vs w B hB hE hV => calls_of_wp hf hb (h _ w B ⟨rfl, ?_, Fct.of_all fun x hx => ?_, by simp, by simp, Below.refl _ _, hB, fun _ h => h⟩)⟩
  · have hl : vs.length = Ds.length := by
      clear hn h hB hE
      induction vs generalizing Ds with
      | nil => cases Ds with
        | nil => rfl
        | cons D Ds => exact hV.elim
      | cons v vs ih => cases Ds with
        | nil => exact hV.elim
        | cons D Ds => simp [ih hV.2]
    simp [hN]; omega
  · rcases List.mem_append.1 hx with hx | hx
    · obtain ⟨y, hy, rfl⟩ := List.mem_map.1 hx
      have h1 := List.mem_zipIdx_iff_getElem?.1 hy
      obtain ⟨v, h2, h3⟩ := hV.get y.2 y.1 h1
      have hlt : y.2 < vs.length := (List.getElem?_eq_some_iff.1 h2).1
      have e : (vs.toArray ++ Array.replicate (fn.ntmps - vs.toArray.size) undef).getD y.2 undef = v := by
        rw [Array.getD_eq_getD_getElem?, Array.getElem?_append_left (by simpa using hlt)]
        simp [h2]
      show y.1.p _ w B
      rw [e]
      exact h3
    · rw [List.mem_singleton] at hx
      subst hx
      exact hE
end Go.Proofs.YtoimhjcpeifegaaGreatDoor


/- R3cmp. (Printed by flowfn.py.) -/
namespace Go.Proofs.YtoimhjcpeifegaaGreatDoor
open Go Go.RowKit

end Go.Proofs.YtoimhjcpeifegaaGreatDoor


/- Values in the kit: what a variable of type Value holds, its fields; numbers as interface values. -/
set_option maxRecDepth 50000
namespace Go.Proofs.YtoimhjcpeifegaaGreatDoor
open Go Go.RowKit

/-- An empty list of values. -/
def K0 : VP := ⟨fun v _ _ => ∃ ad c, v = .slice ad 0 c, fun _ _ _ _ _ _ h => h⟩
def PVal (k N : Int) (I : VP) (b x : Int) (t : ByteArray) (K : VP) (v : Value) (w : World) (B : Bx) : Prop :=
  ∃ p q kd, v = .agg #[.int .i8 k, .int .u64 N, p, q, .int .u64 b, .int .i8 x, .string t, kd] ∧ I.p (.agg #[p, q]) w B ∧ K.p kd w B
def IsVal (k N : Int) (I : VP) (b x : Int) (t : ByteArray) (K : VP) : VP := ⟨PVal k N I b x t K, fun v w B w' B' h ⟨p, q, kd, e, h1, h2⟩ => ⟨p, q, kd, e, I.st _ _ _ _ _ h h1, K.st _ _ _ _ _ h h2⟩⟩
def OneC (K : VP) : Prop := ∀ v w B, K.p v w B → v.oneCell' = true ∧ ∀ (ik : IntKind) (x : Int), v ≠ .int ik x
theorem oneK0 : OneC K0 := fun v w B ⟨ad, c, e⟩ => by subst e; exact ⟨rfl, fun _ _ h => by cases h⟩
theorem shape_Val {k N : Int} {I : VP} {b x : Int} {t : ByteArray} {K : VP} (hI : Shape 2 I) (hK : OneC K) : Shape 8 (IsVal k N I b x t K) := fun v w B ⟨p, q, kd, e, h1, h2⟩ => by
  obtain ⟨cs, e1, _, h3, h4⟩ := hI _ _ _ h1
  injection e1 with e1
  subst e1
  obtain ⟨h5, h6⟩ := hK _ _ _ h2
  refine ⟨_, e, rfl, ?_, fun j ik x hk => ?_⟩
  · simp only [List.all_toArray, List.all_cons, List.all_nil, Bool.and_true, Bool.and_eq_true] at h3 ⊢
    exact ⟨rfl, rfl, h3.1, h3.2, rfl, rfl, rfl, h5⟩
  · have g0 := h4 0 ik x hk
    have g1 := h4 1 ik x hk
    have g7 := h6 ik x
    rcases j with _ | _ | _ | _ | _ | _ | _ | _ | j <;> simp at g0 g1 g7 ⊢ <;> first | assumption | (rintro rfl; rcases hk with hk | hk <;> cases hk) | skip
section
variable {need : List (Tmp × FD)} {d : Option Tmp} {ty : TypeId} {pos : String} {af : Array Edge} {g : Option (Nat × Bool)} {x : Operand} {D : VP}
theorem tyV : TyOk Tryz.prog 37 8 := ⟨⟨_, Tryz.underlying37, rfl⟩, by kernel_rfl⟩
theorem zeroVal : (Tryz.prog.info? 37).map (·.zero) = some (some (.agg #[.int .i8 0, .int .u64 0, .bool false, .slice none 0 0, .int .u64 0, .int .i8 0, .string ⟨#[]⟩, .slice none 0 0])) := by kernel_rfl
theorem ok_allocV : OpOk Tryz.prog ⟨d, .alloc 37, ty, pos, af, g⟩ need (.box 37 8 (IsVal 0 0 (IsI 0) 0 0 ⟨#[]⟩ K0)) true :=
  ok_alloc zeroVal rfl fun w B => ⟨_, _, _, rfl, zero_isI w B, none, 0, rfl⟩
theorem ok_addrV0 (h : Opd need x (.box 37 8 D)) : OpOk Tryz.prog ⟨d, .fieldAddr 37 x 0, ty, pos, af, g⟩ need (.ptr 37 8 D 0) false := ok_fieldAddr 0 0 Tryz.underlying37 rfl rfl (fun w => ⟨1, by go_simp, by decide⟩) h
theorem ok_addrV2 (h : Opd need x (.box 37 8 D)) : OpOk Tryz.prog ⟨d, .fieldAddr 37 x 2, ty, pos, af, g⟩ need (.ptr 37 8 D 2) false := ok_fieldAddr 2 2 Tryz.underlying37 rfl rfl (fun w => ⟨2, by go_simp, by decide⟩) h
theorem ok_addrV3 (h : Opd need x (.box 37 8 D)) : OpOk Tryz.prog ⟨d, .fieldAddr 37 x 3, ty, pos, af, g⟩ need (.ptr 37 8 D 4) false := ok_fieldAddr 3 4 Tryz.underlying37 rfl rfl (fun w => ⟨1, by go_simp, by decide⟩) h
theorem aggKind (w : World) : (isAgg 30).run Tryz.prog w = .ok false w := by go_simp
theorem aggU64 (w : World) : (isAgg 24).run Tryz.prog w = .ok false w := by go_simp
theorem aggStr (w : World) : (isAgg 9).run Tryz.prog w = .ok false w := by go_simp
theorem aggVals (w : World) : (isAgg 35).run Tryz.prog w = .ok false w := by go_simp
variable {k N b e : Int} {I K : VP} {t : ByteArray}
theorem ok_loadV0 (h : Opd need x (.ptr 37 8 (IsVal k N I b e t K) 0)) : OpOk Tryz.prog ⟨d, .load 30 x, ty, pos, af, g⟩ need (.val (Lit (.int .i8 k))) false :=
  ok_loadPtr1 aggKind h (by decide) fun cs v w B ⟨p, q, kd, e, _⟩ hv => by
    injection e with e
    subst e
    simp at hv
    exact hv.symm
theorem ok_loadV2 (h : Opd need x (.ptr 37 8 (IsVal k N I b e t K) 2)) : OpOk Tryz.prog ⟨d, .load 34 x, ty, pos, af, g⟩ need (.val I) false :=
  ok_loadPtrA tyI h (by decide) fun cs w B ⟨p, q, kd, e, h1, _⟩ => by
    injection e with e
    subst e
    exact h1
theorem ok_loadV3 (h : Opd need x (.ptr 37 8 (IsVal k N I b e t K) 4)) : OpOk Tryz.prog ⟨d, .load 24 x, ty, pos, af, g⟩ need (.val (Lit (.int .u64 b))) false :=
  ok_loadPtr1 aggU64 h (by decide) fun cs v w B ⟨p, q, kd, e, _⟩ hv => by
    injection e with e
    subst e
    simp at hv
    exact hv.symm
theorem run_buildVI (k : Int) (p q : Value) (w : World) : (Instr.build 37 #[(0, .int .i8 k), (2, .agg #[p, q])]).run Tryz.prog w = .ok (.agg #[.int .i8 k, .int .u64 0, p, q, .int .u64 0, .int .i8 0, .string ⟨#[]⟩, .slice none 0 0]) w := by go_simp
theorem run_buildVF (k b : Int) (w : World) : (Instr.build 37 #[(0, .int .i8 k), (3, .int .u64 b)]).run Tryz.prog w = .ok (.agg #[.int .i8 k, .int .u64 0, .bool false, .slice none 0 0, .int .u64 b, .int .i8 0, .string ⟨#[]⟩, .slice none 0 0]) w := by go_simp
theorem ok_buildVI {y : Operand} (h : Opd need x (.val (Lit (.int .i8 k)))) (h' : Opd need y (.val I)) (hI : Shape 2 I) : OpOk Tryz.prog ⟨d, .build 37 #[(0, x), (2, y)], ty, pos, af, g⟩ need (.val (IsVal k 0 I 0 0 ⟨#[]⟩ K0)) false :=
  ok_via2 h h' fun ρ w B v u e1 e2 h1 h2 => by
    obtain ⟨cs, e3, hn, _⟩ := hI _ _ _ e2
    obtain ⟨p, q, rfl⟩ : ∃ p q, cs = #[p, q] := by
      rcases cs with ⟨l⟩
      rcases l with _ | ⟨p, _ | ⟨q, _ | ⟨r, l⟩⟩⟩ <;> simp at hn
      exact ⟨p, q, rfl⟩
    have e1 : v = .int .i8 k := e1
    refine ⟨_, ?_, p, q, .slice none 0 0, rfl, e3 ▸ e2, none, 0, rfl⟩
    have := run_buildVI k p q w
    simp [execOp, h1, h2, e1, e3, this]
theorem ok_buildVF {y : Operand} (h : Opd need x (.val (Lit (.int .i8 k)))) (h' : Opd need y (.val (Lit (.int .u64 b)))) : OpOk Tryz.prog ⟨d, .build 37 #[(0, x), (3, y)], ty, pos, af, g⟩ need (.val (IsVal k 0 (IsI 0) b 0 ⟨#[]⟩ K0)) false :=
  ok_via2 h h' fun ρ w B v u e1 e2 h1 h2 => by
    have e1 : v = .int .i8 k := e1
    have e2 : u = .int .u64 b := e2
    refine ⟨_, ?_, .bool false, .slice none 0 0, .slice none 0 0, rfl, zero_isI w B, none, 0, rfl⟩
    have := run_buildVF k b w
    simp [execOp, h1, h2, e1, e2, this]
end

/-- A number as a value. -/
inductive NV where
  | int (X : Int)
  | flt (b : Int)
deriving DecidableEq
def NV.k : NV → Int
  | .int _ => 3
  | .flt _ => 4
def NV.i : NV → Int
  | .int X => X
  | .flt _ => 0
def NV.b : NV → Int
  | .int _ => 0
  | .flt b => b
abbrev IsNum (z : NV) : VP := IsVal z.k 0 (IsI z.i) z.b 0 ⟨#[]⟩ K0
theorem shape_Num {z : NV} : Shape 8 (IsNum z) := shape_Val shape_I oneK0
/-- What a value is as a number. -/
inductive One where
  | none
  | exact (X : Int)
  | broken (b : Int)
  | endless (b : Int)
  | nothing (b : Int)
def POne (o : One) (v : Value) (w : World) (B : Bx) : Prop := match o with
  | .none => v = .nilIface
  | .exact X => ∃ p q, v = .iface 166 (.agg #[p, q]) ∧ (IsI X).p (.agg #[p, q]) w B
  | .broken b => v = .iface 167 (.agg #[.int .u64 b])
  | .endless b => v = .iface 124 (.agg #[.int .u64 b])
  | .nothing b => v = .iface 123 (.agg #[.int .u64 b])
def IsOne (o : One) : VP := ⟨POne o, fun v w B w' B' h hp => by
  cases o with
  | exact X =>
    obtain ⟨p, q, e, h1⟩ := hp
    exact ⟨p, q, e, (IsI X).st _ _ _ _ _ h h1⟩
  | _ => exact hp⟩
def One.isNone : One → Bool
  | .none => true
  | _ => false
/-- An error that is none, or one. -/
def IsErr (ok : Bool) : VP := ⟨fun v _ _ => if ok then v = .nilIface else ∃ t u, v = .iface t u, fun _ _ _ _ _ _ h => h⟩
def IsEx (X : Int) : VP := ⟨fun v w B => ∃ p q, v = .agg #[p, q] ∧ (IsI X).p (.agg #[p, q]) w B, fun v w B w' B' h ⟨p, q, e, h1⟩ => ⟨p, q, e, (IsI X).st _ _ _ _ _ h h1⟩⟩
section
variable {need : List (Tmp × FD)} {d : Option Tmp} {ty : TypeId} {pos : String} {af : Array Edge} {g : Option (Nat × Bool)} {x : Operand}
theorem ok_nilIface : Opd need (.const .nilIface) (.val (IsOne .none)) := fun a w B _ => rfl
theorem run_eqNil1 (ρ : Operand → Value) (w : World) (h1 : ρ x = .nilIface) (hc : ρ (.const .nilIface) = .nilIface) : (execOp ρ ⟨d, .binOp .eql 115 x (.const .nilIface) 115, ty, pos, af, g⟩).run Tryz.prog w = .ok (.value (.bool true)) w := by
  unfold execOp
  simp only [h1, hc]
  go_simp
theorem run_eqNil2 (ρ : Operand → Value) (w : World) (t : TypeId) (u : Value) (h1 : ρ x = .iface t u) (hc : ρ (.const .nilIface) = .nilIface) : (execOp ρ ⟨d, .binOp .eql 115 x (.const .nilIface) 115, ty, pos, af, g⟩).run Tryz.prog w = .ok (.value (.bool false)) w := by
  unfold execOp
  simp only [h1, hc]
  go_simp
theorem ok_eqNil {o : One} {c : Bool} (h : Opd need x (.val (IsOne o))) (hc : c = o.isNone) : OpOk Tryz.prog ⟨d, .binOp .eql 115 x (.const .nilIface) 115, ty, pos, af, g⟩ need (.val (IsB c)) false :=
  ok_via2 h .lit fun ρ w B v u hv hu h1 h2 => by
    obtain rfl := hu
    subst hc
    cases o with
    | none =>
      obtain rfl := hv
      exact ⟨_, run_eqNil1 ρ w h1 h2, rfl⟩
    | exact X =>
      obtain ⟨p, q, rfl, _⟩ := hv
      exact ⟨_, run_eqNil2 ρ w _ _ h1 h2, rfl⟩
    | broken b =>
      obtain rfl := hv
      exact ⟨_, run_eqNil2 ρ w _ _ h1 h2, rfl⟩
    | endless b =>
      obtain rfl := hv
      exact ⟨_, run_eqNil2 ρ w _ _ h1 h2, rfl⟩
    | nothing b =>
      obtain rfl := hv
      exact ⟨_, run_eqNil2 ρ w _ _ h1 h2, rfl⟩
theorem run_neErr1 (ρ : Operand → Value) (w : World) (h1 : ρ x = .nilIface) (hc : ρ (.const .nilIface) = .nilIface) : (execOp ρ ⟨d, .binOp .neq 67 x (.const .nilIface) 67, ty, pos, af, g⟩).run Tryz.prog w = .ok (.value (.bool false)) w := by
  unfold execOp
  simp only [h1, hc]
  go_simp
theorem run_neErr2 (ρ : Operand → Value) (w : World) (t : TypeId) (u : Value) (h1 : ρ x = .iface t u) (hc : ρ (.const .nilIface) = .nilIface) : (execOp ρ ⟨d, .binOp .neq 67 x (.const .nilIface) 67, ty, pos, af, g⟩).run Tryz.prog w = .ok (.value (.bool true)) w := by
  unfold execOp
  simp only [h1, hc]
  go_simp
theorem ok_neErr {b : Bool} (h : Opd need x (.val (IsErr b))) : OpOk Tryz.prog ⟨d, .binOp .neq 67 x (.const .nilIface) 67, ty, pos, af, g⟩ need (.val (IsB (!b))) false :=
  ok_via2 h .lit fun ρ w B v u hv hu h1 h2 => by
    obtain rfl := hu
    cases b with
    | true =>
      have hv : v = .nilIface := hv
      subst hv
      exact ⟨_, run_neErr1 ρ w h1 h2, rfl⟩
    | false =>
      have hv : ∃ t u, v = .iface t u := hv
      obtain ⟨t, u, rfl⟩ := hv
      exact ⟨_, run_neErr2 ρ w _ _ h1 h2, rfl⟩
abbrev U1 (b : Int) : VP := Lit (.agg #[.int .u64 b])
theorem shape_U1 {b : Int} : Shape 1 (U1 b) := fun v w B h => ⟨_, h, rfl, by simp [Value.oneCell'], fun j ik x hk => by rcases j with _ | j <;> simp; rintro rfl; rcases hk with hk | hk <;> cases hk⟩
theorem shape_Ex {X : Int} : Shape 2 (IsEx X) := fun v w B ⟨p, q, e, h⟩ => by
  obtain ⟨cs, e1, h3⟩ := shape_I _ _ _ h
  exact ⟨cs, e.trans e1, h3⟩
theorem run_buildEx (p q : Value) (w : World) : (Instr.build 166 #[(0, .agg #[p, q])]).run Tryz.prog w = .ok (.agg #[p, q]) w := by go_simp
theorem run_buildB (b : Int) (w : World) : (Instr.build 167 #[(0, .int .u64 b)]).run Tryz.prog w = .ok (.agg #[.int .u64 b]) w := by go_simp
theorem run_buildE (b : Int) (w : World) : (Instr.build 124 #[(0, .int .u64 b)]).run Tryz.prog w = .ok (.agg #[.int .u64 b]) w := by go_simp
theorem run_buildN (b : Int) (w : World) : (Instr.build 123 #[(0, .int .u64 b)]).run Tryz.prog w = .ok (.agg #[.int .u64 b]) w := by go_simp
theorem ok_buildEx {X : Int} (h : Opd need x (.val (IsI X))) : OpOk Tryz.prog ⟨d, .build 166 #[(0, x)], ty, pos, af, g⟩ need (.val (IsEx X)) false :=
  ok_via h fun ρ w B v hv h1 => by
    have hv2 := hv
    obtain ⟨ad, n, c, rfl, _⟩ := hv2
    refine ⟨_, ?_, _, _, rfl, hv⟩
    have := run_buildEx (.bool (decide (X < 0))) (.slice ad n c) w
    simp [execOp, h1, this]
theorem ok_buildB {b : Int} (h : Opd need x (.val (Lit (.int .u64 b)))) : OpOk Tryz.prog ⟨d, .build 167 #[(0, x)], ty, pos, af, g⟩ need (.val (U1 b)) false :=
  ok_lit1 h fun ρ w e1 => by have := run_buildB b w; simp [execOp, e1, this]
theorem ok_buildE {b : Int} (h : Opd need x (.val (Lit (.int .u64 b)))) : OpOk Tryz.prog ⟨d, .build 124 #[(0, x)], ty, pos, af, g⟩ need (.val (U1 b)) false :=
  ok_lit1 h fun ρ w e1 => by have := run_buildE b w; simp [execOp, e1, this]
theorem ok_buildN {b : Int} (h : Opd need x (.val (Lit (.int .u64 b)))) : OpOk Tryz.prog ⟨d, .build 123 #[(0, x)], ty, pos, af, g⟩ need (.val (U1 b)) false :=
  ok_lit1 h fun ρ w e1 => by have := run_buildN b w; simp [execOp, e1, this]
theorem run_mkI (t : TypeId) (v : Value) (w : World) (ht : t = 166 ∨ t = 167 ∨ t = 124 ∨ t = 123) : (Instr.makeInterface t v).run Tryz.prog w = .ok (.iface t v) w := by
  rcases ht with rfl | rfl | rfl | rfl <;> go_simp
theorem ok_mkEx {X : Int} (h : Opd need x (.val (IsEx X))) : OpOk Tryz.prog ⟨d, .makeInterface 166 x, ty, pos, af, g⟩ need (.val (IsOne (.exact X))) false :=
  ok_via h fun ρ w B v ⟨p, q, e, hI⟩ h1 => by
    subst e
    refine ⟨_, ?_, p, q, rfl, hI⟩
    have := run_mkI 166 (.agg #[p, q]) w (.inl rfl)
    simp [execOp, h1, this]
theorem ok_mkB {b : Int} (h : Opd need x (.val (U1 b))) : OpOk Tryz.prog ⟨d, .makeInterface 167 x, ty, pos, af, g⟩ need (.val (IsOne (.broken b))) false :=
  ok_via h fun ρ w B v e h1 => by
    obtain rfl := e
    refine ⟨_, ?_, rfl⟩
    have := run_mkI 167 (.agg #[.int .u64 b]) w (.inr (.inl rfl))
    simp [execOp, h1, this]
theorem ok_mkE {b : Int} (h : Opd need x (.val (U1 b))) : OpOk Tryz.prog ⟨d, .makeInterface 124 x, ty, pos, af, g⟩ need (.val (IsOne (.endless b))) false :=
  ok_via h fun ρ w B v e h1 => by
    obtain rfl := e
    refine ⟨_, ?_, rfl⟩
    have := run_mkI 124 (.agg #[.int .u64 b]) w (.inr (.inr (.inl rfl)))
    simp [execOp, h1, this]
theorem ok_mkN {b : Int} (h : Opd need x (.val (U1 b))) : OpOk Tryz.prog ⟨d, .makeInterface 123 x, ty, pos, af, g⟩ need (.val (IsOne (.nothing b))) false :=
  ok_via h fun ρ w B v e h1 => by
    obtain rfl := e
    refine ⟨_, ?_, rfl⟩
    have := run_mkI 123 (.agg #[.int .u64 b]) w (.inr (.inr (.inr rfl)))
    simp [execOp, h1, this]
theorem ok_addrEx {D : VP} (h : Opd need x (.box 166 2 D)) : OpOk Tryz.prog ⟨d, .fieldAddr 166 x 0, ty, pos, af, g⟩ need (.ptr 166 2 D 0) false := ok_fieldAddr 0 0 Tryz.underlying166 rfl rfl (fun w => ⟨2, by go_simp, by decide⟩) h
theorem ok_addrBr {D : VP} (h : Opd need x (.box 167 1 D)) : OpOk Tryz.prog ⟨d, .fieldAddr 167 x 0, ty, pos, af, g⟩ need (.ptr 167 1 D 0) false := ok_fieldAddr 0 0 Tryz.underlying167 rfl rfl (fun w => ⟨1, by go_simp, by decide⟩) h
theorem ok_addrEn {D : VP} (h : Opd need x (.box 124 1 D)) : OpOk Tryz.prog ⟨d, .fieldAddr 124 x 0, ty, pos, af, g⟩ need (.ptr 124 1 D 0) false := ok_fieldAddr 0 0 Tryz.underlying124 rfl rfl (fun w => ⟨1, by go_simp, by decide⟩) h
theorem ok_addrNo {D : VP} (h : Opd need x (.box 123 1 D)) : OpOk Tryz.prog ⟨d, .fieldAddr 123 x 0, ty, pos, af, g⟩ need (.ptr 123 1 D 0) false := ok_fieldAddr 0 0 Tryz.underlying123 rfl rfl (fun w => ⟨1, by go_simp, by decide⟩) h
theorem ok_loadU1 {t : TypeId} {b : Int} (h : Opd need x (.ptr t 1 (U1 b) 0)) : OpOk Tryz.prog ⟨d, .load 24 x, ty, pos, af, g⟩ need (.val (Lit (.int .u64 b))) false :=
  ok_loadPtr1 aggU64 h (by decide) fun cs v w B e hv => by
    injection e with e
    subst e
    simp at hv
    exact hv.symm
theorem ok_loadEx {t : TypeId} {X : Int} (h : Opd need x (.ptr t 2 (IsEx X) 0)) : OpOk Tryz.prog ⟨d, .load 34 x, ty, pos, af, g⟩ need (.val (IsI X)) false :=
  ok_loadPtrA tyI h (by decide) fun cs w B ⟨p, q, e, h1⟩ => by
    injection e with e
    subst e
    exact h1
theorem tyEx : TyOk Tryz.prog 166 2 := ⟨⟨_, Tryz.underlying166, rfl⟩, by kernel_rfl⟩
theorem tyBr : TyOk Tryz.prog 167 1 := ⟨⟨_, Tryz.underlying167, rfl⟩, by kernel_rfl⟩
theorem zeroEx : (Tryz.prog.info? 166).map (·.zero) = some (some (.agg #[.bool false, .slice none 0 0])) := by kernel_rfl
theorem zeroBr : (Tryz.prog.info? 167).map (·.zero) = some (some (.agg #[.int .u64 0])) := by kernel_rfl
theorem ok_allocEx : OpOk Tryz.prog ⟨d, .alloc 166, ty, pos, af, g⟩ need (.box 166 2 (IsEx 0)) true := ok_alloc zeroEx rfl fun w B => ⟨_, _, rfl, zero_isI w B⟩
theorem ok_allocBr : OpOk Tryz.prog ⟨d, .alloc 167, ty, pos, af, g⟩ need (.box 167 1 (U1 0)) true := ok_alloc zeroBr rfl fun w B => rfl
/-- Is it of the kind? -/
theorem run_ta1 (t : TypeId) (v : Value) (w : World) (ht : t = 166 ∨ t = 167 ∨ t = 124 ∨ t = 123) : (Instr.typeAssert (.iface t v) 115 t true).run Tryz.prog w = .ok (.tuple #[v, .bool true]) w := by
  rcases ht with rfl | rfl | rfl | rfl
  · simp [Instr.typeAssert, Sem.run_bind, run_underlying Tryz.underlying166]
  · simp [Instr.typeAssert, Sem.run_bind, run_underlying Tryz.underlying167]
  · simp [Instr.typeAssert, Sem.run_bind, run_underlying Tryz.underlying124]
  · simp [Instr.typeAssert, Sem.run_bind, run_underlying Tryz.underlying123]
theorem run_ta0 (t t2 : TypeId) (v : Value) (w : World) (ht2 : t2 = 166 ∨ t2 = 167 ∨ t2 = 124 ∨ t2 = 123) (hne : t ≠ t2) : ∃ z, (Instr.typeAssert (.iface t v) 115 t2 true).run Tryz.prog w = .ok (.tuple #[z, .bool false]) w := by
  have hz : ∃ z, (zeroValue t2).run Tryz.prog w = .ok z w := by
    rcases ht2 with rfl | rfl | rfl | rfl <;> exact ⟨_, by go_simp; rfl⟩
  obtain ⟨z, hz⟩ := hz
  refine ⟨z, ?_⟩
  rcases ht2 with rfl | rfl | rfl | rfl
  · simp [Instr.typeAssert, Sem.run_bind, run_underlying Tryz.underlying166, hne, hz]
  · simp [Instr.typeAssert, Sem.run_bind, run_underlying Tryz.underlying167, hne, hz]
  · simp [Instr.typeAssert, Sem.run_bind, run_underlying Tryz.underlying124, hne, hz]
  · simp [Instr.typeAssert, Sem.run_bind, run_underlying Tryz.underlying123, hne, hz]
def One.tid : One → TypeId
  | .none => 0
  | .exact _ => 166
  | .broken _ => 167
  | .endless _ => 124
  | .nothing _ => 123
def One.pay : One → VP
  | .exact X => IsEx X
  | .broken b => U1 b
  | .endless b => U1 b
  | .nothing b => U1 b
  | .none => VP.top
theorem POne.open {o : One} {v : Value} {w : World} {B : Bx} (h : (IsOne o).p v w B) (ho : o.isNone = false) : ∃ u, v = .iface o.tid u ∧ o.pay.p u w B := by
  cases o with
  | none => cases ho
  | exact X =>
    obtain ⟨p, q, e, hI⟩ := h
    exact ⟨_, e, p, q, rfl, hI⟩
  | broken b => exact ⟨_, h, rfl⟩
  | endless b => exact ⟨_, h, rfl⟩
  | nothing b => exact ⟨_, h, rfl⟩
theorem One.tys {o : One} (ho : o.isNone = false) : o.tid = 166 ∨ o.tid = 167 ∨ o.tid = 124 ∨ o.tid = 123 := by
  cases o with
  | none => cases ho
  | exact X => exact .inl rfl
  | broken b => exact .inr (.inl rfl)
  | endless b => exact .inr (.inr (.inl rfl))
  | nothing b => exact .inr (.inr (.inr rfl))
theorem ok_ta1 {o : One} {t : TypeId} {D : VP} (h : Opd need x (.val (IsOne o))) (ho : o.isNone = false) (ht : o.tid = t) (hD : o.pay = D) : OpOk Tryz.prog ⟨d, .typeAssert x 115 t true, ty, pos, af, g⟩ need (.val (Tup [D, IsB true])) false :=
  ok_via h fun ρ w B v hv h1 => by
    subst ht hD
    obtain ⟨u, rfl, hp⟩ := POne.open hv ho
    refine ⟨.tuple #[u, .bool true], ?_, [u, .bool true], rfl, hp, rfl, trivial⟩
    have := run_ta1 o.tid u w (One.tys ho)
    simp [execOp, h1, this]
theorem ok_ta0 {o : One} {t : TypeId} (h : Opd need x (.val (IsOne o))) (ho : o.isNone = false) (ht2 : t = 166 ∨ t = 167 ∨ t = 124 ∨ t = 123) (ht : o.tid ≠ t) : OpOk Tryz.prog ⟨d, .typeAssert x 115 t true, ty, pos, af, g⟩ need (.val (Tup [VP.top, IsB false])) false :=
  ok_via h fun ρ w B v hv h1 => by
    obtain ⟨u, rfl, hp⟩ := POne.open hv ho
    obtain ⟨z, hz⟩ := run_ta0 o.tid t u w ht2 ht
    refine ⟨.tuple #[z, .bool false], ?_, [z, .bool false], rfl, trivial, rfl, trivial⟩
    simp [execOp, h1, hz]
end
end Go.Proofs.YtoimhjcpeifegaaGreatDoor


/- Lists that are read, and rows of a call's own that are written upon. -/
namespace Go.Proofs.YtoimhjcpeifegaaGreatDoor
open Go Go.RowKit

def Kd (k : IntKind) : Prop := k = .u32 ∨ k = .u8
/-- The heap has at least m blocks. -/
def Sz (m : Nat) : VP := ⟨fun _ w _ => m ≤ w.heap.size, fun v w B w' B' h hp => Nat.le_trans hp h.size⟩
def PL (k : IntKind) (xs : List Int) (v : Value) (w : World) (B : Bx) : Prop := Kd k ∧ ∃ ad n c, v = .slice ad n c ∧ Rds w k ad n xs
/-- A list that may be read. -/
def IsL (k : IntKind) (xs : List Int) : VP := ⟨PL k xs, fun v w B w' B' h ⟨hk, ad, n, c, e, r⟩ => ⟨hk, ad, n, c, e, r.mv h hk⟩⟩
def PLb (m : Nat) (k : IntKind) (xs : List Int) (v : Value) (w : World) (B : Bx) : Prop := Kd k ∧ ∃ ad n c, v = .slice ad n c ∧ Rds w k ad n xs ∧ (0 < n → ∀ b, blkOf ad = some b → b < m)
/-- ... that lies below block m. -/
def IsLb (m : Nat) (k : IntKind) (xs : List Int) : VP := ⟨PLb m k xs, fun v w B w' B' h ⟨hk, ad, n, c, e, r, hb⟩ => ⟨hk, ad, n, c, e, r.mv h hk, hb⟩⟩
def PApp (g : Option Nat) (m : Nat) (e : TypeId) (k : IntKind) (xs : List Int) (v : Value) (w : World) (B : Bx) : Prop := Kd k ∧ (∀ b, g = some b → ¬ B b) ∧ ∃ ad c, v = .slice ad xs.length c ∧ App m w e k ad xs.length c xs ∧ blkOf ad = g
theorem PApp.st {g : Option Nat} {m : Nat} {e : TypeId} {k : IntKind} {xs : List Int} (v : Value) (w : World) (B : Bx) (w' : World) (B' : Bx) (h : Mv w B w' B') (hp : PApp g m e k xs v w B) : PApp g m e k xs v w' B' := by
  obtain ⟨hk, hb, ad, c, e1, ha, hg⟩ := hp
  have hlt : ∀ b, g = some b → b < w.heap.size := fun b hb2 => (ha.lt b (hg.trans hb2)).2
  refine ⟨hk, fun b hb2 h3 => hb b hb2 (h.box b (hlt b hb2) h3), ad, c, e1, ha.kept fun b hb2 => ?_, hg⟩
  have h3 : g = some b := hg.symm.trans hb2
  exact (h.same b (hlt b h3)).resolve_right fun h4 => hb b h3 h4.1
/-- A row of one's own (block g; at least m) that reads as xs. -/
def IsApp (g : Option Nat) (m : Nat) (e : TypeId) (k : IntKind) (xs : List Int) : VP := ⟨PApp g m e k xs, PApp.st⟩
/-- ... in some block. -/
def IsNew (m : Nat) (e : TypeId) (k : IntKind) (xs : List Int) : VP := ⟨fun v w B => ∃ g, PApp g m e k xs v w B, fun v w B w' B' h ⟨g, hp⟩ => ⟨g, PApp.st v w B w' B' h hp⟩⟩
theorem weakLbL {m : Nat} {k : IntKind} {xs : List Int} (v : Value) (w : World) (B : Bx) (h : (IsLb m k xs).p v w B) : (IsL k xs).p v w B := by
  obtain ⟨hk, ad, n, c, e, r, _⟩ := h
  exact ⟨hk, ad, n, c, e, r⟩
section
variable {P : Program} {need : List (Tmp × FD)} {d : Option Tmp} {ty : TypeId} {pos : String} {af : Array Edge} {g : Option (Nat × Bool)} {x y : Operand}
theorem ok_lenL {t e : TypeId} {k : IntKind} {xs : List Int} (hs : P.underlying t = some (.slice e)) (h : Opd need x (.val (IsL k xs))) : OpOk P ⟨d, .call { callee := .builtin .len, args := #[x], argTypes := #[t] }, ty, pos, af, g⟩ need (.val (Lit (.int .i64 (xs.length : Int)))) false :=
  ok_via h fun ρ w B v ⟨hk, ad, n, c, e1, r⟩ h1 => by
    refine ⟨_, ?_, rfl⟩
    rw [r.len]
    have hl : (Builtin.len_ #[t] ty #[.slice ad n c]).run P w = .ok (.int .i64 n) w := by
      simp [Builtin.len_, Sem.run_bind, run_underlying hs, goInt]
    simp [execOp, h1, e1, resolve, invoke, builtin, Sem.run_bind, hl]
end

section
variable {P : Program} {need : List (Tmp × FD)} {d : Option Tmp} {ty : TypeId} {pos : String} {af : Array Edge} {g : Option (Nat × Bool)} {x y : Operand}
theorem below_own1 {w w' : World} {B : Bx} (hB : Own1 B w) (hb : Below w.heap.size w w') : Own1 B w' := fun k hk => Nat.lt_of_lt_of_le (hB k hk) hb.size
end

section
variable {P : Program} {Q : Exit → Act → World → Prop} {N : Nat} {w0 : World} {B0 : Bx} {a : Act} {w : World} {B : Bx} {l : List (Tmp × FD)} {bxs : List Tmp}
/-- What is known of the heap's size stands upon slot s; lists that are at hand lie below. -/
theorem St.mark (H : St N w0 B0 a w B l bxs) (s : Tmp) : ∃ m, w0.heap.size ≤ m ∧ w.heap.size ≤ m ∧ (∀ k xs v, (IsL k xs).p v w B → (IsLb m k xs).p v w B) ∧ St N w0 B0 a w B ((s, .val (Sz m)) :: l) bxs := by
  refine ⟨w.heap.size, H.bel.size, Nat.le_refl _, fun k xs v ⟨hk, ad, n, c, e, r⟩ => ⟨hk, ad, n, c, e, r, fun hn b hb => ?_⟩, H.df, H.sz, ⟨Nat.le_refl _, H.fc⟩, H.bx, H.ap, H.bel, H.own, H.own0⟩
  obtain ⟨a1, rfl, hc⟩ := r.cell 0 hn
  have h2 := World.block_lt_of_cell? w _ hc
  have e2 : (a1.add 0).block = a1.block := by unfold Addr.add; split <;> rfl
  have hb3 : a1.block = b := by injection hb
  rw [e2] at h2
  omega
/-- Another word on a slot, in this world. -/
theorem St.setw (H : St N w0 B0 a w B l bxs) (k : Nat) {s : Tmp} {D D' : VP} (hk : l[k]? = some (s, .val D)) (hw : ∀ v, D.p v w B → D'.p v w B) {l' : List (Tmp × FD)} (hl : l.set k (s, .val D') = l') : St N w0 B0 a w B l' bxs := by
  refine ⟨H.df, H.sz, Fct.of_all fun x hx => ?_, H.bx, H.ap, H.bel, H.own, H.own0⟩
  rw [← hl] at hx
  rcases List.mem_or_eq_of_mem_set hx with h | h
  · exact H.fc.all x h
  · subst h; exact hw _ (H.fc.get k hk)
theorem St.name (H : St N w0 B0 a w B l bxs) (i : Nat) {s : Tmp} {m : Nat} {e : TypeId} {k : IntKind} {xs : List Int} (hi : l[i]? = some (s, .val (IsNew m e k xs))) : ∃ g, (∀ b, g = some b → m ≤ b ∧ b < w.heap.size) ∧ St N w0 B0 a w B (l.set i (s, .val (IsApp g m e k xs))) bxs := by
  obtain ⟨g, hp⟩ := H.fc.get i hi
  refine ⟨g, fun b hb => ?_, H.df, H.sz, Fct.of_all fun x hx => ?_, H.bx, H.ap, H.bel, H.own, H.own0⟩
  · obtain ⟨_, _, ad, c, _, ha, hg⟩ := hp
    exact ha.lt b (hg.trans hb)
  · rcases List.mem_or_eq_of_mem_set hx with h | h
    · exact H.fc.all x h
    · subst h; exact hp
end

/-- What is not of row g stays. -/
def Kept (g : Option Nat) (m : Nat) (f : FD) : Prop := ∀ (v : Value) (w w' : World) (B : Bx), w.heap.size ≤ w'.heap.size → (∀ i, i < w.heap.size → g ≠ some i → w'.heap[i]? = w.heap[i]?) → (∀ b, g = some b → m ≤ b ∧ ¬ B b) → f.p v w B → f.p v w' B
theorem kept_lit {g : Option Nat} {m : Nat} {u : Value} : Kept g m (.val (Lit u)) := fun _ _ _ _ _ _ _ h => h
theorem kept_sz {g : Option Nat} {m q : Nat} : Kept g m (.val (Sz q)) := fun _ _ _ _ hs _ _ h => Nat.le_trans h hs
inductive KeepAll (g : Option Nat) (m : Nat) : List (Tmp × FD) → Prop where
  | nil : KeepAll g m []
  | cons {s : Tmp} {f : FD} {l : List (Tmp × FD)} (h : Kept g m f) (t : KeepAll g m l) : KeepAll g m ((s, f) :: l)
theorem KeepAll.all {g : Option Nat} {m : Nat} {l : List (Tmp × FD)} (h : KeepAll g m l) : ∀ x ∈ l, Kept g m x.2 := by
  induction h with
  | nil => intro x hx; cases hx
  | cons h t ih =>
    intro x hx
    rcases List.mem_cons.1 hx with rfl | hx
    · exact h
    · exact ih x hx

section
variable {P : Program} {ops : Array Oper} {Q : Exit → Act → World → Prop} {N : Nat} {w0 : World} {B0 : Bx} {a : Act} {w : World} {B : Bx} {l : List (Tmp × FD)} {bxs : List Tmp}
/-- The state behind a writing: ks are the facts that stay, rs are told anew. -/
theorem St.wrote {w' : World} {g : Option Nat} {m : Nat} (H : St N w0 B0 a w B l bxs) (hm : w0.heap.size ≤ m) (hs : w.heap.size ≤ w'.heap.size) (hb : ∀ i, i < w.heap.size → g ≠ some i → w'.heap[i]? = w.heap[i]?) (hg : ∀ b, g = some b → m ≤ b ∧ ¬ B b)
    (ho : w'.os = w.os) (ht : w'.tape = w.tape) (hp : w'.output = w.output) {ks rs : List (Tmp × FD)} (hk : KeepAll g m ks) (hsub : ∀ x ∈ ks, x ∈ l) (hr : ∀ x ∈ rs, x.2.p (a.tmps.getD x.1 undef) w' B) : St N w0 B0 a w' B (rs ++ ks) bxs := by
  refine ⟨H.df, H.sz, Fct.of_all fun x hx => ?_, fun s hs2 => ?_, H.ap, ?_, fun k hk => Nat.lt_of_lt_of_le (H.own k hk) hs, H.own0⟩
  · rcases List.mem_append.1 hx with h | h
    · exact hr x h
    · exact hk.all x h _ _ _ _ hs hb hg (H.fc.all x (hsub x h))
  · obtain ⟨b, h1, h2, h3⟩ := H.bx s hs2
    exact ⟨b, h1, Nat.lt_of_lt_of_le h2 hs, h3⟩
  · refine ⟨ho.trans H.bel.os, ht.trans H.bel.tape, hp.trans H.bel.output, Nat.le_trans H.bel.size hs, fun i hi => ?_⟩
    rw [hb i (Nat.lt_of_lt_of_le hi H.bel.size) fun e => by have := (hg i e).1; omega]
    exact H.bel.block i hi
end
end Go.Proofs.YtoimhjcpeifegaaGreatDoor

