/- Contracts of functions, and plain facts, part 26. -/
import Derived.Deep.DeepCutAuto
import Derived.Test.YtoimhjcpeifegaaGreatDoorPk9
import Derived.Test.YtoimhjcpeifegaaGreatDoorPk12
import Derived.Test.YtoimhjcpeifegaaGreatDoorPk13
import Derived.Test.YtoimhjcpeifegaaGreatDoorPk15
import Derived.Test.YtoimhjcpeifegaaGreatDoorPk18
import Derived.Test.YtoimhjcpeifegaaGreatDoorPk19
import Derived.Test.YtoimhjcpeifegaaGreatDoorPk23
import Derived.Test.YtoimhjcpeifegaaGreatDoorPk25
set_option linter.unusedVariables false
set_option linter.unusedSimpArgs false
/- Parts of whole numbers; natural numbers as words on values; the contracts of crucibleref01 by them. -/
namespace Go.Proofs.YtoimhjcpeifegaaGreatDoor
open Go Go.RowKit

def PM (V : Int) (v : Value) (w : World) (B : Bx) : Prop := ∃ ad n c, v = .slice ad n c ∧ Num w ad n c V ∧ n ≤ LIM
/-- A list of worth V. -/
def IsM (V : Int) : VP := ⟨PM V, fun v w B w' B' h hp => by
  obtain ⟨ad, n, c, e, k, l⟩ := hp
  obtain ⟨xs, h1, h2, h3⟩ := k.row
  exact ⟨ad, n, c, e, ⟨k.le, xs, h1.mv h (.inl rfl), h2, h3⟩, l⟩⟩
def PC (V : Int) (v : Value) (w : World) (B : Bx) : Prop := ∃ ad n c, v = .slice ad n c ∧ Can w ad n c V ∧ n ≤ LIM ∧ 0 ≤ V
/-- The list of the number V. -/
def IsC (V : Int) : VP := ⟨PC V, fun v w B w' B' h hp => by
  obtain ⟨ad, n, c, e, k, l, hV⟩ := hp
  exact ⟨ad, n, c, e, ⟨k.le, k.rds.mv h (.inl rfl)⟩, l, hV⟩⟩
/-- A bool that is the sign of X, where X is not 0. -/
def IsSg (X : Int) : VP := ⟨fun v _ _ => ∃ ng : Bool, v = .bool ng ∧ X = sI ng (X.natAbs : Int), fun _ _ _ _ _ _ h => h⟩
theorem weakCM {V : Int} (v : Value) (w : World) (B : Bx) (h : (IsC V).p v w B) : (IsM V).p v w B := by
  obtain ⟨ad, n, c, e, k, l, hV⟩ := h
  exact ⟨ad, n, c, e, k.num hV, l⟩
theorem weakZN (v : Value) (w : World) (B : Bx) (h : Zero2.p v w B) : (IsN 0).p v w B := by
  obtain rfl := h
  exact weakIN _ _ _ (zero_isI w B)
theorem PM.nonneg {V : Int} {v : Value} {w : World} {B : Bx} (h : (IsM V).p v w B) : 0 ≤ V := by
  obtain ⟨ad, n, c, e, k, l⟩ := h
  exact k.nonneg
section
variable {need : List (Tmp × FD)} {d : Option Tmp} {ty : TypeId} {pos : String} {af : Array Edge} {g : Option (Nat × Bool)} {x : Operand} {D : VP}
set_option maxRecDepth 50000 in
theorem ok_addrI0 (h : Opd need x (.box 34 2 D)) : OpOk Tryz.prog ⟨d, .fieldAddr 34 x 0, ty, pos, af, g⟩ need (.ptr 34 2 D 0) false :=
  ok_fieldAddr 0 0 Tryz.underlying34 rfl rfl (fun w => ⟨1, by go_simp, by decide⟩) h
set_option maxRecDepth 50000 in
theorem ok_addrI1 (h : Opd need x (.box 34 2 D)) : OpOk Tryz.prog ⟨d, .fieldAddr 34 x 1, ty, pos, af, g⟩ need (.ptr 34 2 D 1) false :=
  ok_fieldAddr 1 1 Tryz.underlying34 rfl rfl (fun w => ⟨1, by go_simp, by decide⟩) h
theorem aggBool (w : World) : (isAgg 4).run Tryz.prog w = .ok false w := by go_simp
theorem aggNat (w : World) : (isAgg 32).run Tryz.prog w = .ok false w := by go_simp
theorem ok_loadNegN {N : Int} (h : Opd need x (.ptr 34 2 (IsN N) 0)) : OpOk Tryz.prog ⟨d, .load 4 x, ty, pos, af, g⟩ need (.val (IsSg N)) false :=
  ok_loadPtr1 aggBool h (by decide) fun cs v w B ⟨ng, ad, n, c, V, e, k, l, hN⟩ hv => by
    injection e with e
    subst e
    simp at hv
    exact ⟨ng, hv.symm, by rw [hN, sI_abs ng V k.nonneg]⟩
theorem ok_loadMagN {N : Int} (h : Opd need x (.ptr 34 2 (IsN N) 1)) : OpOk Tryz.prog ⟨d, .load 32 x, ty, pos, af, g⟩ need (.val (IsM (N.natAbs : Int))) false :=
  ok_loadPtr1 aggNat h (by decide) fun cs v w B ⟨ng, ad, n, c, V, e, k, l, hN⟩ hv => by
    injection e with e
    subst e
    simp at hv
    exact ⟨ad, n, c, hv.symm, by rw [hN, sI_abs ng V k.nonneg]; exact k, l⟩
set_option maxRecDepth 50000 in
theorem run_build0 (w : World) : (Instr.build 34 #[]).run Tryz.prog w = .ok (.agg #[.bool false, .slice none 0 0]) w := by go_simp
set_option maxRecDepth 50000 in
theorem run_build2 (b : Bool) (ad : Option Addr) (n c : Nat) (w : World) : (Instr.build 34 #[(0, .bool b), (1, .slice ad n c)]).run Tryz.prog w = .ok (.agg #[.bool b, .slice ad n c]) w := by go_simp
set_option maxRecDepth 50000 in
theorem run_build1 (ad : Option Addr) (n c : Nat) (w : World) : (Instr.build 34 #[(1, .slice ad n c)]).run Tryz.prog w = .ok (.agg #[.bool false, .slice ad n c]) w := by go_simp
set_option maxRecDepth 50000 in
theorem ok_build0 : OpOk Tryz.prog ⟨d, .build 34 #[], ty, pos, af, g⟩ need (.val Zero2) false :=
  OpOk.value fun a w B hF => ⟨.agg #[.bool false, .slice none 0 0], by simp [execOp, Sem.run_bind, run_build0], rfl⟩

set_option maxRecDepth 50000 in
theorem ok_buildSN {y : Operand} {N : Int} (h : Opd need x (.val (IsSg N))) (h' : Opd need y (.val (IsM (N.natAbs : Int)))) : OpOk Tryz.prog ⟨d, .build 34 #[(0, x), (1, y)], ty, pos, af, g⟩ need (.val (IsN N)) false :=
  ok_via2 h h' fun ρ w B v u ⟨ng, e1, hN⟩ ⟨ad, n, c, e2, k, l⟩ h1 h2 => by
    refine ⟨.agg #[.bool ng, .slice ad n c], ?_, ng, ad, n, c, _, rfl, k, l, hN⟩
    have := run_build2 ng ad n c w
    simp [execOp, h1, h2, e1, e2, this]
set_option maxRecDepth 50000 in
theorem ok_buildBN {y : Operand} {b : Bool} {V : Int} (h : Opd need x (.val (IsB b))) (h' : Opd need y (.val (IsM V))) : OpOk Tryz.prog ⟨d, .build 34 #[(0, x), (1, y)], ty, pos, af, g⟩ need (.val (IsN (sI b V))) false :=
  ok_via2 h h' fun ρ w B v u e1 ⟨ad, n, c, e2, k, l⟩ h1 h2 => by
    refine ⟨.agg #[.bool b, .slice ad n c], ?_, b, ad, n, c, _, rfl, k, l, rfl⟩
    have := run_build2 b ad n c w
    have e1 : v = .bool b := e1
    simp [execOp, h1, h2, e1, e2, this]
set_option maxRecDepth 50000 in
theorem ok_buildI1 {V : Int} (h : Opd need x (.val (IsC V))) : OpOk Tryz.prog ⟨d, .build 34 #[(1, x)], ty, pos, af, g⟩ need (.val (IsI V)) false :=
  ok_via h fun ρ w B v ⟨ad, n, c, e2, k, l, hV⟩ h1 => by
    refine ⟨.agg #[.bool false, .slice ad n c], ?_, ad, n, c, by rw [decide_eq_false (by omega)], by rw [show ((V.natAbs : Nat) : Int) = V by omega]; exact k, l⟩
    have := run_build1 ad n c w
    simp [execOp, h1, e2, this]
end

theorem FitK.sI {k : Nat} {V : Int} {b : Bool} (h : FitK k V) : FitK k (sI b V) := by
  cases b
  · exact h
  · exact h.neg

theorem RetC.con {V : Int} {w : World} {B : Bx} {e : Ending} {w' : World} (hV : 0 ≤ V) (hN : Fits V) (h : RetC V w e w') : ∃ v, e = .returned v ∧ (IsC V).p v w' B ∧ Below w.heap.size w w' := by
  obtain ⟨ad, n, c, rfl, k, hb⟩ := h
  obtain ⟨q, hq, hf⟩ := hN
  unfold FitK at hf
  exact ⟨_, rfl, ⟨ad, n, c, rfl, k, Nat.le_trans (k.len_le q (by omega)) hq, hV⟩, hb⟩
end Go.Proofs.YtoimhjcpeifegaaGreatDoor


/- Printed by ieee3.py. -/
namespace Go.Proofs.YtoimhjcpeifegaaGreatDoor
open Go.RowKit

set_option maxRecDepth 20000 in
set_option maxHeartbeats 2000000 in
theorem from_64 (w : World) (hS : Shapes w) (hT : Tab w) (ng : Bool) (ad : Option Addr) (n c : Nat) (V : Int) (h : Num w ad n c V) (hn : n ≤ 1099511627776) : Calls Tryz.prog 246 #[.agg #[.bool ng, .slice ad n c]] w (fun e w' => e = .returned (.tuple #[.int .u64 (fromW 64 (sI ng V)).1, .bool (fromW 64 (sI ng V)).2]) ∧ Below w.heap.size w w') := by
  have hV := h.nonneg
  have hlt := Lib.hid h.lt
  have b0 : Below w.heap.size w (w.alloc (.cells #[.bool ng, .slice ad n c] 34)) := (Below.refl _ _).alloc (Nat.le_refl _) _
  have k0 : Cel (w.alloc (.cells #[.bool ng, .slice ad n c] 34)) w.heap.size 34 [.bool ng, .slice ad n c] := Cel.made _ _ _ _ rfl
  have hw0 : w.heap.size < (w.alloc (.cells #[.bool ng, .slice ad n c] 34)).heap.size := by simp
  have HNm := Lib.hid (wnorm_calls ng ad n c V _ (h.below b0 (Nat.le_refl _)) (by omega))
  have HA := Lib.hid (sI_abs ng V hV)
  generalize sI ng V = N at *
  have HF := Lib.hid (show fromW 64 N = (roundW 64 (decide (N < 0)) N.natAbs 0 false, intOk 64 (roundW 64 (decide (N < 0)) N.natAbs 0 false) && decide ((intN 64 (roundW 64 (decide (N < 0)) N.natAbs 0 false)).natAbs = N.natAbs)) from rfl)
  have hy := roundW_bd (W := 64) (by unfold Wide; omega) (decide (N < 0)) N.natAbs 0 false
  rw [show (2 : Int) ^ 64 = 18446744073709551616 from by decide] at hy
  have HI := Lib.hid (fun (w : World) (hS : Shapes w) (hT : Tab w) => iint_64 w hS hT (roundW 64 (decide (N < 0)) N.natAbs 0 false) hy)
  have HRd := Lib.hid (fun (w : World) (hS : Shapes w) (ad : Option Addr) (n c : Nat) (h : Num w ad n c N.natAbs) (hn : n ≤ 1099511627776) => round_64 w hS (decide (N < 0)) ad n c N.natAbs 0 false h hn (by omega))
  have HA2 := Lib.hid (show 0 ≤ (N.natAbs : Int) by omega)
  generalize fromW 64 N = R at *
  generalize roundW 64 (decide (N < 0)) N.natAbs 0 false = y at *
  have HZ := Lib.hid (intN_bd (W := 64) (by unfold Wide; omega) y)
  generalize intOk 64 y = iok at *
  generalize intN 64 y = Z at *
  have hz0 : w.heap.size ≤ w.heap.size := Nat.le_refl _
  go_enter Tryz.func246, Tryz.ntmps246
  go_wp2_with fail
  refine (HNm.out).mono ?_
  rintro e w1 ⟨ad1, n1, d1, rfl, f1, b1⟩
  have k1 := k0.next b1
  have l1 := f1.len_le n (by rw [HA.out]; exact hlt.out)
  have a1 := below_trans b0 b1
  have c0 := k1.cell 0 _ rfl
  have c1 := k1.cell 1 _ rfl
  have g0 := k1.free 0
  have g1 := k1.free 1
  have f2 := f1.poke2 k1 (.bool (decide (N < 0))) (.slice ad1 n1 d1)
  have k2 := (k1.set 0 (.bool (decide (N < 0)))).set 1 (.slice ad1 n1 d1)
  have a2 := below_set (below_set a1 w.heap.size 0 (.bool (decide (N < 0))) (Nat.le_refl _)) w.heap.size 1 (.slice ad1 n1 d1) (Nat.le_refl _)
  have hb : w.heap.size < w1.heap.size := k1.lt
  generalize hdn : decide (N < 0) = dn at *
  clear hdn
  go_upto_region 2 with (fail)
  clear c0 c1 g0 g1
  generalize (w1.setCell ⟨w.heap.size, 0, none⟩ (.bool dn)).setCell ⟨w.heap.size, 1, none⟩ (.slice ad1 n1 d1) = w2 at *
  have c0 := k2.cell 0 _ rfl
  have c1 := k2.cell 1 _ rfl
  have HR1 := Lib.hid (HRd.out w2 (hS.below a2 (Nat.le_refl _)) ad1 n1 d1 (f2.num HA2.out) (by omega))
  go_wp2_with fail
  refine (HR1.out).mono ?_
  rintro e w3 ⟨rfl, b3⟩
  have a3 := below_trans a2 b3
  have k3 := k2.next b3
  have f3 := f2.below b3 (Nat.le_refl _)
  clear c0 c1
  have HI1 := Lib.hid (HI.out w3 (hS.below a3 (Nat.le_refl _)) (hT.below a3 (Nat.le_refl _)))
  go_wp2_with fail
  refine (HI1.out).mono ?_
  rintro e w4 ⟨ad4, n4, d4, rfl, f4, b4⟩
  have a4 := below_trans a3 b4
  have k4 := k3.next b4
  have f5 := f3.below b4 (Nat.le_refl _)
  have l4 := f4.len_le (2 + 4097) HZ.out
  have bA : Below w4.heap.size w4 (w4.alloc (.cells #[.bool (decide (Z < 0)), .slice ad4 n4 d4] 34)) := (Below.refl _ _).alloc (Nat.le_refl _) _
  have a5 := below_trans a4 bA
  have k5 := k4.next bA
  have kz : Cel (w4.alloc (.cells #[.bool (decide (Z < 0)), .slice ad4 n4 d4] 34)) w4.heap.size 34 [.bool (decide (Z < 0)), .slice ad4 n4 d4] := Cel.made _ _ _ _ rfl
  have z1 := kz.cell 1 _ rfl
  have c1 := k5.cell 1 _ rfl
  have HCm := Lib.hid (num_cmp ad4 ad1 n4 n1 d4 d1 Z.natAbs N.natAbs _ ((f4.num (by omega)).below bA (Nat.le_refl _)) ((f5.num HA2.out).below bA (Nat.le_refl _)) (by omega) (by omega))
  cases iok
  · have HR := Lib.hid (show R = (y, false) by rw [HF.out]; rfl)
    clear HF HCm
    go_wp2
    go_ret2
    rw [HR.out]
    exact ⟨rfl, a5⟩
  · by_cases hzn : Z.natAbs = N.natAbs
    · have HR := Lib.hid (show R = (y, true) by rw [HF.out, decide_eq_true hzn]; rfl)
      rw [cmpI_eq (by rw [hzn])] at HCm
      clear HF hzn
      go_wp2_with fail
      refine (HCm.out).mono ?_
      rintro e w' ⟨rfl, q, rfl⟩
      go_wp2
      go_ret2
      rw [HR.out]
      exact ⟨rfl, below_drewN a5 _⟩
    · have HR := Lib.hid (show R = (y, false) by rw [HF.out, decide_eq_false hzn]; rfl)
      have hc : cmpI (Z.natAbs : Int) N.natAbs ≠ 0 := by
        unfold cmpI
        split
        · omega
        · split <;> omega
      generalize cmpI (Z.natAbs : Int) N.natAbs = C at *
      have hc2 : (C == 0) = false := by simpa using hc
      clear HF hzn hc
      go_wp2_with fail
      refine (HCm.out).mono ?_
      rintro e w' ⟨rfl, q, rfl⟩
      go_wp2
      go_ret2
      rw [HR.out]
      exact ⟨rfl, below_drewN a5 _⟩
end Go.Proofs.YtoimhjcpeifegaaGreatDoor

