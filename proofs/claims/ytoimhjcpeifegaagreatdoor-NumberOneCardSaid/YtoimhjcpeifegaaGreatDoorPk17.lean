/- Contracts of functions, and plain facts, part 17. -/
import Derived.Deep.DeepCutAuto
import Derived.Test.YtoimhjcpeifegaaGreatDoorPk5
import Derived.Test.YtoimhjcpeifegaaGreatDoorPk6
import Derived.Test.YtoimhjcpeifegaaGreatDoorPk7
import Derived.Test.YtoimhjcpeifegaaGreatDoorPk8
import Derived.Test.YtoimhjcpeifegaaGreatDoorPk9
import Derived.Test.YtoimhjcpeifegaaGreatDoorPk10
import Derived.Test.YtoimhjcpeifegaaGreatDoorPk11
import Derived.Test.YtoimhjcpeifegaaGreatDoorPk12
import Derived.Test.YtoimhjcpeifegaaGreatDoorPk13
import Derived.Test.YtoimhjcpeifegaaGreatDoorPk15
import Derived.Test.YtoimhjcpeifegaaGreatDoorPk16
set_option linter.unusedVariables false
set_option linter.unusedSimpArgs false
/- A pattern's number by its parts, and the middle between two beside each other: plain. -/
namespace Go.Proofs.YtoimhjcpeifegaaGreatDoor

theorem size_low {W : Nat} (z : Int) (h : z < sgnW W) : sizeW W z = z := by unfold sizeW; rw [if_neg (by omega)]

/-- The parts of a size below the infinite one. -/
theorem parts_num {W : Nat} (hW : Wide W) (z : Int) (h0 : 0 ≤ z) (h1 : z < infW W) :
    shL W ≤ pE W z ∧ pM W z * 2 ^ (pE W z - shL W).toNat = (numN (shF W) z.toNat : Nat) ∧ pOk W z = true ∧ (z = 0 → pM W z = 0) ∧ (0 < z → 0 < pM W z ∧ pM W z % 2 = 1) := by
  have hs := infN_lt hW
  have hI := infW_eq hW
  have e1 : sizeW W z = z := size_low z (by omega)
  have e2 : pOk W z = true := by unfold pOk; rw [e1]; exact decide_eq_true h1
  have hL : shL W ≤ 0 := by rcases hW with rfl | rfl | rfl <;> decide
  unfold pM pE
  rw [e2, e1]
  by_cases hz : z = 0
  · subst hz
    simp only [decide_true, Bool.not_true, Bool.and_false, Bool.false_eq_true, if_false]
    refine ⟨hL, ?_, trivial, fun _ => trivial, fun h => by omega⟩
    rw [Int.zero_mul, show (0 : Int).toNat = 0 from rfl, numN_zero]; rfl
  · have hpos : 0 < rawM W z := raw_pos z (by rw [e1]; omega)
    have hlt := raw_lt hW z
    obtain ⟨k1, k2, k3, k4, k5, k6⟩ := odd_spec (rawM W z) hpos (by omega)
    rw [decide_eq_false hz]
    simp only [Bool.not_false, Bool.and_true, if_true]
    have hE : rawE W z = shL W + (numP (shF W) z.toNat : Nat) := by unfold rawE; rw [e1]
    have hM : rawM W z = (numM (shF W) z.toNat : Nat) := by unfold rawM; rw [e1]
    refine ⟨by omega, ?_, trivial, fun h => absurd h hz, fun _ => ⟨k3, k2⟩⟩
    rw [hE, show (shL W + ((numP (shF W) z.toNat : Nat) : Int) + tzI (rawM W z) - shL W).toNat = (tzI (rawM W z)).toNat + numP (shF W) z.toNat by omega, Int.pow_add, ← Int.mul_assoc, ← k1, hM, numN_parts]
    simp

end Go.Proofs.YtoimhjcpeifegaaGreatDoor


/- Parts of whole numbers; natural numbers as words on values; the contracts of crucibleref01 by them. -/
namespace Go.Proofs.YtoimhjcpeifegaaGreatDoor
open Go Go.RowKit

def PM (V : Int) (v : Value) (w : World) (B : Bx) : Prop := ∃ ad n c, v = .slice ad n c ∧ Num w ad n c V ∧ n ≤ LIM
/-- A list of worth V. -/
def IsM (V : Int) : VP := ⟨PM V, fun v w B w' B' h hp => by
  obtain ⟨ad, n, c, e, k, l⟩ := hp
  obtain ⟨xs, h1, h2, h3⟩ := k.row
  exact ⟨ad, n, c, e, ⟨k.le, xs, h1.mv h (.inl rfl), h2, h3⟩, l⟩⟩
def PC (V : Int) (v : Value) (w : World) (B : Bx) : Prop := ∃ ad n c, v = .slice ad n c ∧ Can w ad n c V ∧ n ≤ LIM ∧ 0 ≤ V
/-- The list of the number V. -/
def IsC (V : Int) : VP := ⟨PC V, fun v w B w' B' h hp => by
  obtain ⟨ad, n, c, e, k, l, hV⟩ := hp
  exact ⟨ad, n, c, e, ⟨k.le, k.rds.mv h (.inl rfl)⟩, l, hV⟩⟩
/-- A bool that is the sign of X, where X is not 0. -/
def IsSg (X : Int) : VP := ⟨fun v _ _ => ∃ ng : Bool, v = .bool ng ∧ X = sI ng (X.natAbs : Int), fun _ _ _ _ _ _ h => h⟩
theorem weakCM {V : Int} (v : Value) (w : World) (B : Bx) (h : (IsC V).p v w B) : (IsM V).p v w B := by
  obtain ⟨ad, n, c, e, k, l, hV⟩ := h
  exact ⟨ad, n, c, e, k.num hV, l⟩
theorem weakZN (v : Value) (w : World) (B : Bx) (h : Zero2.p v w B) : (IsN 0).p v w B := by
  obtain rfl := h
  exact weakIN _ _ _ (zero_isI w B)
theorem PM.nonneg {V : Int} {v : Value} {w : World} {B : Bx} (h : (IsM V).p v w B) : 0 ≤ V := by
  obtain ⟨ad, n, c, e, k, l⟩ := h
  exact k.nonneg
section
variable {need : List (Tmp × FD)} {d : Option Tmp} {ty : TypeId} {pos : String} {af : Array Edge} {g : Option (Nat × Bool)} {x : Operand} {D : VP}
set_option maxRecDepth 50000 in
theorem ok_addrI0 (h : Opd need x (.box 34 2 D)) : OpOk Tryz.prog ⟨d, .fieldAddr 34 x 0, ty, pos, af, g⟩ need (.ptr 34 2 D 0) false :=
  ok_fieldAddr 0 0 Tryz.underlying34 rfl rfl (fun w => ⟨1, by go_simp, by decide⟩) h
set_option maxRecDepth 50000 in
theorem ok_addrI1 (h : Opd need x (.box 34 2 D)) : OpOk Tryz.prog ⟨d, .fieldAddr 34 x 1, ty, pos, af, g⟩ need (.ptr 34 2 D 1) false :=
  ok_fieldAddr 1 1 Tryz.underlying34 rfl rfl (fun w => ⟨1, by go_simp, by decide⟩) h
theorem aggBool (w : World) : (isAgg 4).run Tryz.prog w = .ok false w := by go_simp
theorem aggNat (w : World) : (isAgg 32).run Tryz.prog w = .ok false w := by go_simp
theorem ok_loadNegN {N : Int} (h : Opd need x (.ptr 34 2 (IsN N) 0)) : OpOk Tryz.prog ⟨d, .load 4 x, ty, pos, af, g⟩ need (.val (IsSg N)) false :=
  ok_loadPtr1 aggBool h (by decide) fun cs v w B ⟨ng, ad, n, c, V, e, k, l, hN⟩ hv => by
    injection e with e
    subst e
    simp at hv
    exact ⟨ng, hv.symm, by rw [hN, sI_abs ng V k.nonneg]⟩
theorem ok_loadMagN {N : Int} (h : Opd need x (.ptr 34 2 (IsN N) 1)) : OpOk Tryz.prog ⟨d, .load 32 x, ty, pos, af, g⟩ need (.val (IsM (N.natAbs : Int))) false :=
  ok_loadPtr1 aggNat h (by decide) fun cs v w B ⟨ng, ad, n, c, V, e, k, l, hN⟩ hv => by
    injection e with e
    subst e
    simp at hv
    exact ⟨ad, n, c, hv.symm, by rw [hN, sI_abs ng V k.nonneg]; exact k, l⟩
set_option maxRecDepth 50000 in
theorem run_build0 (w : World) : (Instr.build 34 #[]).run Tryz.prog w = .ok (.agg #[.bool false, .slice none 0 0]) w := by go_simp
set_option maxRecDepth 50000 in
theorem run_build2 (b : Bool) (ad : Option Addr) (n c : Nat) (w : World) : (Instr.build 34 #[(0, .bool b), (1, .slice ad n c)]).run Tryz.prog w = .ok (.agg #[.bool b, .slice ad n c]) w := by go_simp
set_option maxRecDepth 50000 in
theorem run_build1 (ad : Option Addr) (n c : Nat) (w : World) : (Instr.build 34 #[(1, .slice ad n c)]).run Tryz.prog w = .ok (.agg #[.bool false, .slice ad n c]) w := by go_simp
set_option maxRecDepth 50000 in
theorem ok_build0 : OpOk Tryz.prog ⟨d, .build 34 #[], ty, pos, af, g⟩ need (.val Zero2) false :=
  OpOk.value fun a w B hF => ⟨.agg #[.bool false, .slice none 0 0], by simp [execOp, Sem.run_bind, run_build0], rfl⟩

set_option maxRecDepth 50000 in
theorem ok_buildSN {y : Operand} {N : Int} (h : Opd need x (.val (IsSg N))) (h' : Opd need y (.val (IsM (N.natAbs : Int)))) : OpOk Tryz.prog ⟨d, .build 34 #[(0, x), (1, y)], ty, pos, af, g⟩ need (.val (IsN N)) false :=
  ok_via2 h h' fun ρ w B v u ⟨ng, e1, hN⟩ ⟨ad, n, c, e2, k, l⟩ h1 h2 => by
    refine ⟨.agg #[.bool ng, .slice ad n c], ?_, ng, ad, n, c, _, rfl, k, l, hN⟩
    have := run_build2 ng ad n c w
    simp [execOp, h1, h2, e1, e2, this]
set_option maxRecDepth 50000 in
theorem ok_buildBN {y : Operand} {b : Bool} {V : Int} (h : Opd need x (.val (IsB b))) (h' : Opd need y (.val (IsM V))) : OpOk Tryz.prog ⟨d, .build 34 #[(0, x), (1, y)], ty, pos, af, g⟩ need (.val (IsN (sI b V))) false :=
  ok_via2 h h' fun ρ w B v u e1 ⟨ad, n, c, e2, k, l⟩ h1 h2 => by
    refine ⟨.agg #[.bool b, .slice ad n c], ?_, b, ad, n, c, _, rfl, k, l, rfl⟩
    have := run_build2 b ad n c w
    have e1 : v = .bool b := e1
    simp [execOp, h1, h2, e1, e2, this]
set_option maxRecDepth 50000 in
theorem ok_buildI1 {V : Int} (h : Opd need x (.val (IsC V))) : OpOk Tryz.prog ⟨d, .build 34 #[(1, x)], ty, pos, af, g⟩ need (.val (IsI V)) false :=
  ok_via h fun ρ w B v ⟨ad, n, c, e2, k, l, hV⟩ h1 => by
    refine ⟨.agg #[.bool false, .slice ad n c], ?_, ad, n, c, by rw [decide_eq_false (by omega)], by rw [show ((V.natAbs : Nat) : Int) = V by omega]; exact k, l⟩
    have := run_build1 ad n c w
    simp [execOp, h1, e2, this]
end

theorem FitK.sI {k : Nat} {V : Int} {b : Bool} (h : FitK k V) : FitK k (sI b V) := by
  cases b
  · exact h
  · exact h.neg

theorem RetC.con {V : Int} {w : World} {B : Bx} {e : Ending} {w' : World} (hV : 0 ≤ V) (hN : Fits V) (h : RetC V w e w') : ∃ v, e = .returned v ∧ (IsC V).p v w' B ∧ Below w.heap.size w w' := by
  obtain ⟨ad, n, c, rfl, k, hb⟩ := h
  obtain ⟨q, hq, hf⟩ := hN
  unfold FitK at hf
  exact ⟨_, rfl, ⟨ad, n, c, rfl, k, Nat.le_trans (k.len_le q (by omega)) hq, hV⟩, hb⟩
end Go.Proofs.YtoimhjcpeifegaaGreatDoor


/- Printed by ieee3.py. -/
namespace Go.Proofs.YtoimhjcpeifegaaGreatDoor
open Go.RowKit

set_option maxRecDepth 20000 in
set_option maxHeartbeats 2000000 in
theorem from_64 (w : World) (hS : Shapes w) (hT : Tab w) (ng : Bool) (ad : Option Addr) (n c : Nat) (V : Int) (h : Num w ad n c V) (hn : n ≤ 1099511627776) : Calls Tryz.prog 246 #[.agg #[.bool ng, .slice ad n c]] w (fun e w' => e = .returned (.tuple #[.int .u64 (fromW 64 (sI ng V)).1, .bool (fromW 64 (sI ng V)).2]) ∧ Below w.heap.size w w') := by
  have hV := h.nonneg
  have hlt := Lib.hid h.lt
  have b0 : Below w.heap.size w (w.alloc (.cells #[.bool ng, .slice ad n c] 34)) := (Below.refl _ _).alloc (Nat.le_refl _) _
  have k0 : Cel (w.alloc (.cells #[.bool ng, .slice ad n c] 34)) w.heap.size 34 [.bool ng, .slice ad n c] := Cel.made _ _ _ _ rfl
  have hw0 : w.heap.size < (w.alloc (.cells #[.bool ng, .slice ad n c] 34)).heap.size := by simp
  have HNm := Lib.hid (wnorm_calls ng ad n c V _ (h.below b0 (Nat.le_refl _)) (by omega))
  have HA := Lib.hid (sI_abs ng V hV)
  generalize sI ng V = N at *
  have HF := Lib.hid (show fromW 64 N = (roundW 64 (decide (N < 0)) N.natAbs 0 false, intOk 64 (roundW 64 (decide (N < 0)) N.natAbs 0 false) && decide ((intN 64 (roundW 64 (decide (N < 0)) N.natAbs 0 false)).natAbs = N.natAbs)) from rfl)
  have hy := roundW_bd (W := 64) (by unfold Wide; omega) (decide (N < 0)) N.natAbs 0 false
  rw [show (2 : Int) ^ 64 = 18446744073709551616 from by decide] at hy
  have HI := Lib.hid (fun (w : World) (hS : Shapes w) (hT : Tab w) => iint_64 w hS hT (roundW 64 (decide (N < 0)) N.natAbs 0 false) hy)
  have HRd := Lib.hid (fun (w : World) (hS : Shapes w) (ad : Option Addr) (n c : Nat) (h : Num w ad n c N.natAbs) (hn : n ≤ 1099511627776) => round_64 w hS (decide (N < 0)) ad n c N.natAbs 0 false h hn (by omega))
  have HA2 := Lib.hid (show 0 ≤ (N.natAbs : Int) by omega)
  generalize fromW 64 N = R at *
  generalize roundW 64 (decide (N < 0)) N.natAbs 0 false = y at *
  have HZ := Lib.hid (intN_bd (W := 64) (by unfold Wide; omega) y)
  generalize intOk 64 y = iok at *
  generalize intN 64 y = Z at *
  have hz0 : w.heap.size ≤ w.heap.size := Nat.le_refl _
  go_enter Tryz.func246, Tryz.ntmps246
  go_wp2_with fail
  refine (HNm.out).mono ?_
  rintro e w1 ⟨ad1, n1, d1, rfl, f1, b1⟩
  have k1 := k0.next b1
  have l1 := f1.len_le n (by rw [HA.out]; exact hlt.out)
  have a1 := below_trans b0 b1
  have c0 := k1.cell 0 _ rfl
  have c1 := k1.cell 1 _ rfl
  have g0 := k1.free 0
  have g1 := k1.free 1
  have f2 := f1.poke2 k1 (.bool (decide (N < 0))) (.slice ad1 n1 d1)
  have k2 := (k1.set 0 (.bool (decide (N < 0)))).set 1 (.slice ad1 n1 d1)
  have a2 := below_set (below_set a1 w.heap.size 0 (.bool (decide (N < 0))) (Nat.le_refl _)) w.heap.size 1 (.slice ad1 n1 d1) (Nat.le_refl _)
  have hb : w.heap.size < w1.heap.size := k1.lt
  generalize hdn : decide (N < 0) = dn at *
  clear hdn
  go_upto_region 2 with (fail)
  clear c0 c1 g0 g1
  generalize (w1.setCell ⟨w.heap.size, 0, none⟩ (.bool dn)).setCell ⟨w.heap.size, 1, none⟩ (.slice ad1 n1 d1) = w2 at *
  have c0 := k2.cell 0 _ rfl
  have c1 := k2.cell 1 _ rfl
  have HR1 := Lib.hid (HRd.out w2 (hS.below a2 (Nat.le_refl _)) ad1 n1 d1 (f2.num HA2.out) (by omega))
  go_wp2_with fail
  refine (HR1.out).mono ?_
  rintro e w3 ⟨rfl, b3⟩
  have a3 := below_trans a2 b3
  have k3 := k2.next b3
  have f3 := f2.below b3 (Nat.le_refl _)
  clear c0 c1
  have HI1 := Lib.hid (HI.out w3 (hS.below a3 (Nat.le_refl _)) (hT.below a3 (Nat.le_refl _)))
  go_wp2_with fail
  refine (HI1.out).mono ?_
  rintro e w4 ⟨ad4, n4, d4, rfl, f4, b4⟩
  have a4 := below_trans a3 b4
  have k4 := k3.next b4
  have f5 := f3.below b4 (Nat.le_refl _)
  have l4 := f4.len_le (2 + 4097) HZ.out
  have bA : Below w4.heap.size w4 (w4.alloc (.cells #[.bool (decide (Z < 0)), .slice ad4 n4 d4] 34)) := (Below.refl _ _).alloc (Nat.le_refl _) _
  have a5 := below_trans a4 bA
  have k5 := k4.next bA
  have kz : Cel (w4.alloc (.cells #[.bool (decide (Z < 0)), .slice ad4 n4 d4] 34)) w4.heap.size 34 [.bool (decide (Z < 0)), .slice ad4 n4 d4] := Cel.made _ _ _ _ rfl
  have z1 := kz.cell 1 _ rfl
  have c1 := k5.cell 1 _ rfl
  have HCm := Lib.hid (num_cmp ad4 ad1 n4 n1 d4 d1 Z.natAbs N.natAbs _ ((f4.num (by omega)).below bA (Nat.le_refl _)) ((f5.num HA2.out).below bA (Nat.le_refl _)) (by omega) (by omega))
  cases iok
  · have HR := Lib.hid (show R = (y, false) by rw [HF.out]; rfl)
    clear HF HCm
    go_wp2
    go_ret2
    rw [HR.out]
    exact ⟨rfl, a5⟩
  · by_cases hzn : Z.natAbs = N.natAbs
    · have HR := Lib.hid (show R = (y, true) by rw [HF.out, decide_eq_true hzn]; rfl)
      rw [cmpI_eq (by rw [hzn])] at HCm
      clear HF hzn
      go_wp2_with fail
      refine (HCm.out).mono ?_
      rintro e w' ⟨rfl, q, rfl⟩
      go_wp2
      go_ret2
      rw [HR.out]
      exact ⟨rfl, below_drewN a5 _⟩
    · have HR := Lib.hid (show R = (y, false) by rw [HF.out, decide_eq_false hzn]; rfl)
      have hc : cmpI (Z.natAbs : Int) N.natAbs ≠ 0 := by
        unfold cmpI
        split
        · omega
        · split <;> omega
      generalize cmpI (Z.natAbs : Int) N.natAbs = C at *
      have hc2 : (C == 0) = false := by simpa using hc
      clear HF hzn hc
      go_wp2_with fail
      refine (HCm.out).mono ?_
      rintro e w' ⟨rfl, q, rfl⟩
      go_wp2
      go_ret2
      rw [HR.out]
      exact ⟨rfl, below_drewN a5 _⟩
end Go.Proofs.YtoimhjcpeifegaaGreatDoor


/- Patterns there and back: by their parts, in another width, as whole numbers. Plain. -/
namespace Go.Proofs.YtoimhjcpeifegaaGreatDoor

theorem size_idem {W : Nat} (hW : Wide W) (x : Int) (hx : 0 ≤ x ∧ x < 2 ^ W) : sizeW W (sizeW W x) = sizeW W x := by
  have := size_bounds hW x hx
  exact size_low _ this.2

/-- The parts hang on the size alone. -/
theorem parts_size {W : Nat} (hW : Wide W) (x : Int) (hx : 0 ≤ x ∧ x < 2 ^ W) : pM W (sizeW W x) = pM W x ∧ pE W (sizeW W x) = pE W x ∧ pOk W (sizeW W x) = pOk W x := by
  have e := size_idem hW x hx
  unfold pM pE pOk rawM rawE
  rw [e]
  exact ⟨rfl, rfl, rfl⟩

theorem near_parts {W : Nat} (hW : Wide W) (x : Int) (hx : 0 ≤ x ∧ x < 2 ^ W) (h : pOk W x = true) : (nearE W (pM W x).toNat (pE W x) : Int) = sizeW W x := by
  have hs := size_bounds hW x hx
  have hI := infW_eq hW
  have hlt : sizeW W x < infW W := of_decide_eq_true h
  obtain ⟨k1, k2, -, -, -⟩ := parts_num hW (sizeW W x) hs.1 hlt
  obtain ⟨e1, e2, -⟩ := parts_size hW x hx
  rw [e1, e2] at k2
  rw [e2] at k1
  have hm := pM_bd hW x
  have h2 : nearE W (pM W x).toNat (pE W x) = (sizeW W x).toNat := by
    refine nearE_self hW _ _ _ (by omega) ?_
    unfold rX rU
    rw [show (shL W - pE W x).toNat = 0 by omega, Nat.pow_zero, Nat.mul_one]
    have : (((pM W x).toNat * 2 ^ (pE W x - shL W).toNat : Nat) : Int) = (numN (shF W) (sizeW W x).toNat : Nat) := by
      rw [← k2, Int.natCast_mul, Int.toNat_of_nonneg hm.1]
      simp
    omega
  rw [h2]
  omega

theorem round_parts {W : Nat} (hW : Wide W) (x : Int) (hx : 0 ≤ x ∧ x < 2 ^ W) (h : pOk W x = true) : roundW W (pNeg W x) (pM W x) (pE W x) false = x := by
  have e := near_parts hW x hx h
  unfold roundW
  show (if pNeg W x = true then sgnW W else 0) + ((nearE W (pM W x).toNat (pE W x) : Nat) : Int) = x
  rw [e]
  have hn : pNeg W x = negW W x := by unfold pNeg; rw [h]; rfl
  rw [hn]
  unfold negW sizeW
  by_cases hs : sgnW W ≤ x
  · rw [decide_eq_true hs, if_pos rfl, if_pos hs]; omega
  · rw [decide_eq_false hs, if_neg (by decide), if_neg hs]; omega

/-- Numbers of few digits that are not too great are patterns' numbers. -/
theorem num_of (F E M t : Nat) (hM : M < 2 ^ (F + 1)) : ∃ z, numN F z = M * 2 ^ t := by
  by_cases h0 : M = 0
  · exact ⟨0, by rw [h0, numN_zero, Nat.zero_mul]⟩
  · have b1 := blen_ge M h0
    have b2 := blen_lt M
    have hb : blen M ≤ F + 1 := by
      have := Nat.lt_of_le_of_lt b1 hM
      have := (Nat.pow_lt_pow_iff_right (show 1 < 2 by omega)).1 this
      omega
    have hb0 := blen_pos M h0
    by_cases hs : blen M + t ≤ F + 1
    · have hlt : M * 2 ^ t < 2 ^ (F + 1) := by
        have h1 : M * 2 ^ t < 2 ^ blen M * 2 ^ t := Nat.mul_lt_mul_of_pos_right b2 (Nat.two_pow_pos t)
        rw [← Nat.pow_add] at h1
        exact Nat.lt_of_lt_of_le h1 (Nat.pow_le_pow_right (by omega) hs)
      refine ⟨M * 2 ^ t, ?_⟩
      have := numN_at F 0 (M * 2 ^ t) (.inl rfl) (by omega)
      rw [Nat.zero_mul, Nat.zero_add, Nat.pow_zero, Nat.mul_one] at this
      exact this
    · have hk1 : 2 ^ F ≤ M * 2 ^ (F + 1 - blen M) := by
        refine Nat.le_trans ?_ (Nat.mul_le_mul_right _ b1)
        rw [← Nat.pow_add]
        exact Nat.pow_le_pow_right (by omega) (by omega)
      have hk2 : M * 2 ^ (F + 1 - blen M) ≤ 2 ^ (F + 1) := by
        have h1 : M * 2 ^ (F + 1 - blen M) ≤ 2 ^ blen M * 2 ^ (F + 1 - blen M) := Nat.mul_le_mul_right _ (Nat.le_of_lt b2)
        rw [← Nat.pow_add] at h1
        rwa [show blen M + (F + 1 - blen M) = F + 1 by omega] at h1
      refine ⟨(blen M + t - (F + 1)) * 2 ^ F + M * 2 ^ (F + 1 - blen M), ?_⟩
      rw [numN_at F _ _ (.inr hk1) hk2, Nat.mul_assoc, ← Nat.pow_add]
      congr 2
      omega

theorem numN_lt_iff (F a b : Nat) : numN F a < numN F b ↔ a < b := by
  constructor
  · intro h
    rcases Nat.lt_or_ge a b with h1 | h1
    · exact h1
    · have := numN_mono F h1; omega
  · intro h
    exact Nat.lt_of_lt_of_le (numN_lt_succ F a) (numN_mono F h)

theorem numN_inj (F a b : Nat) (h : numN F a = numN F b) : a = b := by
  have h1 := numN_lt_iff F a b
  have h2 := numN_lt_iff F b a
  omega

/-- One number, one pair of parts. -/
theorem odd_unique (m n : Int) (e f L : Int) (he : L ≤ e) (hf : L ≤ f) (hm : m % 2 = 1) (hn : n % 2 = 1) (h : m * 2 ^ (e - L).toNat = n * 2 ^ (f - L).toNat) (hm0 : 0 < m) (hn0 : 0 < n) : m = n ∧ e = f := by
  obtain ⟨a, rfl⟩ := Int.eq_ofNat_of_zero_le (Int.le_of_lt hm0)
  obtain ⟨b, rfl⟩ := Int.eq_ofNat_of_zero_le (Int.le_of_lt hn0)
  have h2 : 2 ^ (e - L).toNat * (2 * (a / 2) + 1) = 2 ^ (f - L).toNat * (2 * (b / 2) + 1) := by
    rw [show 2 * (a / 2) + 1 = a by omega, show 2 * (b / 2) + 1 = b by omega, Nat.mul_comm, Nat.mul_comm (2 ^ (f - L).toNat)]
    have : ((a * 2 ^ (e - L).toNat : Nat) : Int) = ((b * 2 ^ (f - L).toNat : Nat) : Int) := by simpa using h
    omega
  obtain ⟨k1, k2⟩ := two_split h2
  omega

/-- x of width V has its number in width W too, if W is no narrower. -/
theorem embed {V W : Nat} (hV : Wide V) (hW : Wide W) (hle : V ≤ W) (y : Int) (hy : 0 ≤ y ∧ y < 2 ^ V) (h : pOk V y = true) :
    let z := roundW W (pNeg V y) (pM V y) (pE V y) false
    pOk W z = true ∧ pM W z = pM V y ∧ pE W z = pE V y ∧ pNeg W z = pNeg V y := by
  intro z
  have hlt : sizeW V y < infW V := of_decide_eq_true h
  have hs := size_bounds hV y hy
  obtain ⟨k1, k2, -, k4, k5⟩ := parts_num hV (sizeW V y) hs.1 hlt
  obtain ⟨e1, e2, -⟩ := parts_size hV y hy
  rw [e1] at k2 k4 k5
  rw [e2] at k1 k2
  have hm := pM_bd hV y
  have hL : shL W ≤ shL V ∧ shF V ≤ shF W ∧ (topP V : Int) + shL V ≤ topP W + shL W := by
    rcases hV with rfl | rfl | rfl <;> rcases hW with rfl | rfl | rfl <;> first | decide | omega
  have hIV := infW_eq hV
  have hIW := infW_eq hW
  -- the number in steps of W
  have hraw := numN_parts (shF V) (sizeW V y).toNat
  have hmlt := numM_lt (shF V) (sizeW V y).toNat
  obtain ⟨zz, hzz⟩ := num_of (shF W) 0 (numM (shF V) (sizeW V y).toNat) (numP (shF V) (sizeW V y).toNat + (shL V - shL W).toNat) (Nat.lt_of_lt_of_le hmlt (Nat.pow_le_pow_right (by omega) (by omega)))
  rw [Nat.pow_add, ← Nat.mul_assoc, ← hraw] at hzz
  have hzI : zz < infN W := by
    rw [← numN_lt_iff (shF W), hzz, numN_inf hW]
    have h1 : numN (shF V) (sizeW V y).toNat < 2 ^ topP V := by
      rw [← numN_inf hV]
      exact (numN_lt_iff _ _ _).2 (by omega)
    have h2 : numN (shF V) (sizeW V y).toNat * 2 ^ (shL V - shL W).toNat < 2 ^ topP V * 2 ^ (shL V - shL W).toNat := Nat.mul_lt_mul_of_pos_right h1 (Nat.two_pow_pos _)
    rw [← Nat.pow_add] at h2
    exact Nat.lt_of_lt_of_le h2 (Nat.pow_le_pow_right (by omega) (by omega))
  -- M 2^e in steps of W
  have hX : (pM V y).toNat * 2 ^ (pE V y - shL W).toNat = numN (shF W) zz := by
    have c1 : (pM V y).toNat * 2 ^ (pE V y - shL V).toNat = numN (shF V) (sizeW V y).toNat := by
      have : (((pM V y).toNat * 2 ^ (pE V y - shL V).toNat : Nat) : Int) = (numN (shF V) (sizeW V y).toNat : Nat) := by
        rw [← k2, Int.natCast_mul, Int.toNat_of_nonneg hm.1]
        simp
      omega
    rw [hzz, ← c1, Nat.mul_assoc, ← Nat.pow_add]
    congr 2
    omega
  have hnear : nearE W (pM V y).toNat (pE V y) = zz := by
    refine nearE_self hW _ _ _ (by omega) ?_
    unfold rX rU
    rw [show (shL W - pE V y).toNat = 0 by omega, Nat.pow_zero, Nat.mul_one, hX]
  have hz : z = (if pNeg V y then sgnW W else 0) + (zz : Int) := by
    show roundW W (pNeg V y) (pM V y) (pE V y) false = _
    unfold roundW
    show (if pNeg V y = true then sgnW W else 0) + ((nearE W (pM V y).toNat (pE V y) : Nat) : Int) = _
    rw [hnear]
  have hSI := infN_lt hW
  have hzs : sizeW W z = zz ∧ negW W z = pNeg V y := by
    rw [hz]
    unfold sizeW negW
    cases pNeg V y
    · simp; omega
    · simp; omega
  have hok : pOk W z = true := by unfold pOk; rw [hzs.1]; exact decide_eq_true (by omega)
  have hzb : 0 ≤ z ∧ z < 2 ^ W := roundW_bd hW _ _ _ _
  obtain ⟨q1, q2, -, q4, q5⟩ := parts_num hW (sizeW W z) (by rw [hzs.1]; omega) (by rw [hzs.1]; omega)
  obtain ⟨g1, g2, -⟩ := parts_size hW z hzb
  rw [g1] at q2 q4 q5
  rw [g2] at q1 q2
  rw [hzs.1, Int.toNat_natCast] at q2
  have hng : pNeg W z = pNeg V y := by unfold pNeg at *; rw [hok, Bool.true_and]; exact hzs.2
  refine ⟨hok, ?_, ?_, hng⟩ <;> by_cases h0 : sizeW V y = 0
  · have hz0 : zz = 0 := numN_inj (shF W) zz 0 (by rw [hzz, h0, numN_zero, show (0 : Int).toNat = 0 from rfl, numN_zero, Nat.zero_mul])
    rw [q4 (by rw [hzs.1, hz0]; rfl), k4 h0]
  · have hz0 : 0 < zz := by
      rcases Nat.eq_zero_or_pos zz with h1 | h1
      · rw [h1, numN_zero] at hzz
        have h2 := (numN_lt_iff (shF V) 0 (sizeW V y).toNat).2 (by omega)
        rw [numN_zero] at h2
        have := Nat.mul_pos h2 (Nat.two_pow_pos (shL V - shL W).toNat)
        omega
      · exact h1
    have o1 := q5 (by rw [hzs.1]; omega)
    have o2 := k5 (by omega)
    have hX2 : pM V y * 2 ^ (pE V y - shL W).toNat = (numN (shF W) zz : Nat) := by
      rw [← hX, Int.natCast_mul, Int.toNat_of_nonneg hm.1]; simp
    exact (odd_unique _ _ _ _ (shL W) q1 (by omega) o1.2 o2.2 (q2.trans hX2.symm) o1.1 o2.1).1
  · have hz0 : zz = 0 := numN_inj (shF W) zz 0 (by rw [hzz, h0, numN_zero, show (0 : Int).toNat = 0 from rfl, numN_zero, Nat.zero_mul])
    have a1 : pE W z = 0 := by unfold pE; rw [hzs.1, hz0, hok]; rfl
    have a2 : pE V y = 0 := by unfold pE; rw [h0, h]; rfl
    rw [a1, a2]
  · have hz0 : 0 < zz := by
      rcases Nat.eq_zero_or_pos zz with h1 | h1
      · rw [h1, numN_zero] at hzz
        have h2 := (numN_lt_iff (shF V) 0 (sizeW V y).toNat).2 (by omega)
        rw [numN_zero] at h2
        have := Nat.mul_pos h2 (Nat.two_pow_pos (shL V - shL W).toNat)
        omega
      · exact h1
    have o1 := q5 (by rw [hzs.1]; omega)
    have o2 := k5 (by omega)
    have hX2 : pM V y * 2 ^ (pE V y - shL W).toNat = (numN (shF W) zz : Nat) := by
      rw [← hX, Int.natCast_mul, Int.toNat_of_nonneg hm.1]; simp
    exact (odd_unique _ _ _ _ (shL W) q1 (by omega) o1.2 o2.2 (q2.trans hX2.symm) o1.1 o2.1).2

theorem pNeg_of {W : Nat} (x : Int) (h : pOk W x = true) : pNeg W x = negW W x := by unfold pNeg; rw [h]; rfl

/-- A pattern that is no finite one, in another width. -/
theorem inf_facts {V : Nat} (hV : Wide V) (b : Bool) : let y := (if b then sgnW V else 0) + infW V
    sizeW V y = infW V ∧ negW V y = b ∧ pOk V y = false ∧ isNaN V y = false := by
  have h := inf_fits hV
  have hp := pow_wide hV
  intro y
  have e : sizeW V y = infW V ∧ negW V y = b := by
    show sizeW V ((if b then sgnW V else 0) + infW V) = _ ∧ negW V ((if b then sgnW V else 0) + infW V) = _
    unfold sizeW negW
    cases b
    · simp; omega
    · simp; omega
  refine ⟨e.1, e.2, ?_, ?_⟩
  · unfold pOk; rw [e.1]; exact decide_eq_false (Int.lt_irrefl _)
  · unfold isNaN; rw [e.1]; exact decide_eq_false (Int.lt_irrefl _)

theorem not_nan {W : Nat} (x : Int) (h : pOk W x = true) : isNaN W x = false ∧ sizeW W x ≠ infW W := by
  have h1 : sizeW W x < infW W := of_decide_eq_true h
  unfold isNaN
  exact ⟨decide_eq_false (by omega), by omega⟩

/-- A whole number that a pattern is, and back. -/
theorem int_back {W : Nat} (hW : Wide W) (x : Int) (hx : 0 ≤ x ∧ x < 2 ^ W) (h : intOk W x = true) :
    (fromW W (intN W x)).2 = true ∧ ((fromW W (intN W x)).1 = x ∨ (x = sgnW W ∧ (fromW W (intN W x)).1 = 0)) := by
  have hsp : pOk W x = true ∧ 0 ≤ pE W x := by
    unfold intOk at h
    simp only [Bool.and_eq_true, decide_eq_true_eq] at h
    exact h
  have hm := pM_bd hW x
  have hV : intV W x = pM W x * 2 ^ (pE W x).toNat := by unfold intV; rw [h, if_pos rfl]
  have hp : (0 : Int) < 2 ^ (pE W x).toNat := Int.pow_pos (by omega)
  have hV0 : 0 ≤ intV W x := by rw [hV]; exact Int.mul_nonneg hm.1 (Int.le_of_lt hp)
  have hA : ((intN W x).natAbs : Int) = intV W x := by unfold intN; split <;> omega
  have hnear : nearE W (intN W x).natAbs 0 = nearE W (pM W x).toNat (pE W x) := by
    have h1 := nearE_shift W (pM W x).toNat (pE W x).toNat (pE W x)
    rw [show pE W x - ((pE W x).toNat : Int) = 0 by omega] at h1
    rw [← h1]
    congr 1
    have : (((pM W x).toNat * 2 ^ (pE W x).toNat : Nat) : Int) = intV W x := by
      rw [hV, Int.natCast_mul, Int.toNat_of_nonneg hm.1]; simp
    omega
  have hnp := near_parts hW x hx hsp.1
  have hrd : ∀ b, roundW W b (intN W x).natAbs 0 false = (if b then sgnW W else 0) + sizeW W x := fun b => by
    unfold roundW
    show (if b = true then sgnW W else 0) + ((nearE W ((intN W x).natAbs : Int).toNat 0 : Nat) : Int) = _
    rw [Int.toNat_natCast, hnear, hnp]
  have hf : fromW W (intN W x) = ((if decide (intN W x < 0) then sgnW W else 0) + sizeW W x, intOk W ((if decide (intN W x < 0) then sgnW W else 0) + sizeW W x) && decide ((intN W ((if decide (intN W x < 0) then sgnW W else 0) + sizeW W x)).natAbs = (intN W x).natAbs)) := by
    unfold fromW
    rw [hrd]
  have hb := size_bounds hW x hx
  have hpw := pow_wide hW
  by_cases hz : sizeW W x = 0
  · have hv0 : intV W x = 0 := by
      rw [hV]
      have : pM W x = 0 := by unfold pM; rw [hz]; simp
      rw [this, Int.zero_mul]
    have hN0 : intN W x = 0 := by omega
    rw [hf, hN0, hz]
    have e1 : (if decide ((0 : Int) < 0) = true then sgnW W else 0) + 0 = 0 := by simp
    rw [e1]
    have e2 : intOk W 0 = true ∧ intN W 0 = 0 := by rcases hW with rfl | rfl | rfl <;> decide
    refine ⟨by show (intOk W 0 && decide ((intN W 0).natAbs = (0 : Int).natAbs)) = true; rw [e2.1, e2.2]; rfl, ?_⟩
    rcases neg_size (W := W) x with ⟨n1, s1, -⟩ | ⟨n1, s1, -⟩
    · right; exact ⟨by omega, rfl⟩
    · left; show (0 : Int) = x; omega
  · have hpm : 0 < pM W x := by
      obtain ⟨-, -, -, -, k5⟩ := parts_num hW (sizeW W x) hb.1 (of_decide_eq_true hsp.1)
      rw [(parts_size hW x hx).1] at k5
      exact (k5 (by omega)).1
    have hvp : 0 < intV W x := by rw [hV]; exact Int.mul_pos hpm hp
    have hng : decide (intN W x < 0) = negW W x := by
      rw [← pNeg_of x hsp.1]
      unfold intN
      cases pNeg W x
      · simp; omega
      · simp; omega
    have hback : (if decide (intN W x < 0) = true then sgnW W else 0) + sizeW W x = x := by
      rw [hng]
      rcases neg_size (W := W) x with ⟨n1, s1, -⟩ | ⟨n1, s1, -⟩ <;> rw [n1, s1] <;> simp <;> omega
    rw [hf, hback]
    exact ⟨by show (intOk W x && decide ((intN W x).natAbs = (intN W x).natAbs)) = true; rw [h]; simp, .inl rfl⟩
end Go.Proofs.YtoimhjcpeifegaaGreatDoor


/- Functions that read the laid variables shapes and deBruijn64tab. -/
namespace Go.Proofs.YtoimhjcpeifegaaGreatDoor
open Go Go.RowKit

structure EnvP (w : World) (B : Bx) : Prop where
  sh : Shapes w
  tab : Tab w
  no : ¬ B 2
theorem cell_mv {w w' : World} {B B' : Bx} (h : Mv w B w' B') {a : Addr} {v : Value} (hc : w.cell? a = some v) (hn : ¬ B a.block ∨ ¬ Plain w a.block) : w'.cell? a = some v := by
  have hl := World.block_lt_of_cell? w a hc
  rcases h.same _ hl with h1 | ⟨h1, h2⟩
  · rw [← hc]; exact World.cell?_of_block h1
  · rcases hn with h3 | h3
    · exact absurd h1 h3
    · exact absurd h2 h3
theorem EnvP.mv {w w' : World} {B B' : Bx} (h : Mv w B w' B') (e : EnvP w B) : EnvP w' B' := by
  obtain ⟨⟨c0, c1, c2, c3, c4, c5, c6, c7, c8⟩, ht, hn⟩ := e
  have k : ∀ {j : Nat} {v : Value}, w.cell? ⟨2, j, none⟩ = some v → w'.cell? ⟨2, j, none⟩ = some v := fun hc => cell_mv h hc (.inl hn)
  refine ⟨⟨k c0, k c1, k c2, k c3, k c4, k c5, k c6, k c7, k c8⟩, fun j hj => cell_mv h (ht j hj) (.inr fun hp => hp _ .u8 _ rfl (.inr rfl) (ht j hj)), fun hb => hn (h.box _ (World.block_lt_of_cell? w _ c0) hb)⟩
def EnvV : VP := ⟨fun _ w B => EnvP w B, fun _ _ _ _ _ h e => e.mv h⟩
structure ConE (P : Program) (f : FuncId) (Ds : List VP) (R : VP) : Prop where
  enters : ∀ (vs : Array Value) (w : World), (callFunc f vs).run P w = .ok (.enter f vs) w
  calls : ∀ (vs : List Value) (w : World) (B : Bx), Own1 B w → EnvP w B → VAll vs Ds w B → Calls P f vs.toArray w (fun e w' => ∃ v, e = .returned v ∧ R.p v w' B ∧ Below w.heap.size w w')
theorem ConE.weak {P : Program} {f : FuncId} {Ds : List VP} {R R' : VP} (h : ConE P f Ds R) (hw : ∀ v w B, R.p v w B → R'.p v w B) : ConE P f Ds R' :=
  ⟨h.enters, fun vs w B hB hE hV => (h.calls vs w B hB hE hV).mono fun e w' ⟨v, e1, h1, h2⟩ => ⟨v, e1, hw _ _ _ h1, h2⟩⟩
section
variable {P : Program} {need : List (Tmp × FD)} {d : Option Tmp} {ty : TypeId} {pos : String} {af : Array Edge} {g : Option (Nat × Bool)}
theorem ok_callE {f : FuncId} {args : List Operand} {ts : Array TypeId} {Ds : List VP} {R : VP} (C : ConE P f Ds R) (k : Nat) {s : Tmp} (hk : need[k]? = some (s, .val EnvV)) (h : Opds need args Ds) : OpOk P ⟨d, .call { callee := .value (.func f), args := args.toArray, argTypes := ts }, ty, pos, af, g⟩ need (.val R) false := by
  intro Q K a w B hB hF hK
  have hr : (execOp a.eval ⟨d, .call { callee := .value (.func f), args := args.toArray, argTypes := ts }, ty, pos, af, g⟩).run P w = .ok (.enter f (args.map a.eval).toArray) w := by
    simp [execOp, resolve, Act.eval, Deferred.ofValue, invoke, Sem.run_bind, C.enters]
  unfold Oper.wp
  rw [hr]
  have hE : EnvP w B := hF.get k hk
  refine (C.calls (args.map a.eval) w B hB hE (h.all hF)).mono ?_
  rintro e w' ⟨v, rfl, h1, h2⟩
  have hbl := Bl.of_below B h2
  exact hK v w' B h1 hbl h2 (fun k hk => Nat.lt_of_lt_of_le (hB k hk) h2.size) (by simp)
end
theorem f_enterE {P : Program} {f : FuncId} {fn : Func} {c : Code} {Ds : List VP} {R : VP} {N : Nat} (hN : fn.ntmps = N) (he : ∀ (vs : Array Value) (w : World), (callFunc f vs).run P w = .ok (.enter f vs) w) (hf : P.funcs[f]? = some fn) (hb : fn.body = some c) (hn : Ds.length ≤ N)
    (h : ∀ (a : Act) (w : World) (B : Bx), St N w B a w B (Ds.zipIdx.map (fun x => (x.2, .val x.1)) ++ [(N, .val EnvV)]) [] → c.wp P (bodyPost P fn fun e w' => ∃ v, e = .returned v ∧ R.p v w' B ∧ Below w.heap.size w w') a w) : ConE P f Ds R := by
  refine ⟨he, fun vs w B hB hE hV => calls_of_wp hf hb (h _ w B ⟨rfl, ?_, Fct.of_all fun x hx => ?_, by simp, by simp, Below.refl _ _, hB, fun _ h => h⟩)⟩
  · have hl : vs.length = Ds.length := by
      clear hn h hB hE
      induction vs generalizing Ds with
      | nil => cases Ds with
        | nil => rfl
        | cons D Ds => exact hV.elim
      | cons v vs ih => cases Ds with
        | nil => exact hV.elim
        | cons D Ds => simp [ih hV.2]
    simp [hN]; omega
  · rcases List.mem_append.1 hx with hx | hx
    · obtain ⟨y, hy, rfl⟩ := List.mem_map.1 hx
      have h1 := List.mem_zipIdx_iff_getElem?.1 hy
      obtain ⟨v, h2, h3⟩ := hV.get y.2 y.1 h1
      have hlt : y.2 < vs.length := (List.getElem?_eq_some_iff.1 h2).1
      have e : (vs.toArray ++ Array.replicate (fn.ntmps - vs.toArray.size) undef).getD y.2 undef = v := by
        rw [Array.getD_eq_getD_getElem?, Array.getElem?_append_left (by simpa using hlt)]
        simp [h2]
      show y.1.p _ w B
      rw [e]
      exact h3
    · rw [List.mem_singleton] at hx
      subst hx
      exact hE
end Go.Proofs.YtoimhjcpeifegaaGreatDoor


/- R3cmp. (Printed by flowfn.py.) -/
namespace Go.Proofs.YtoimhjcpeifegaaGreatDoor
open Go Go.RowKit

end Go.Proofs.YtoimhjcpeifegaaGreatDoor

