/- Contracts of functions, and plain facts, part 22. -/
import Derived.Test.YtgnophflogmmaaaPk10
import Derived.Test.YtgnophflogmmaaaPk21
set_option linter.unusedVariables false
set_option linter.unusedSimpArgs false
/- whole: Add. (Printed by whole.py.) -/
namespace Go.Proofs.Ytgnophflogmmaaa
open Go.RowKit

set_option maxHeartbeats 1000000 in
theorem wadd_calls (ng1 : Bool) (ad1 : Option Addr) (n1 c1 : Nat) (V1 : Int) (ng2 : Bool) (ad2 : Option Addr) (n2 c2 : Nat) (V2 : Int) (w : World) (h1 : Num w ad1 n1 c1 V1) (hn1 : n1 ≤ 70368744177662) (h2 : Num w ad2 n2 c2 V2) (hn2 : n2 ≤ 70368744177662) :
    Calls Try.prog 39 #[.agg #[.bool ng1, .slice ad1 n1 c1], .agg #[.bool ng2, .slice ad2 n2 c2]] w (RetInt (sI ng1 V1 + sI ng2 V2) w) := by
  have hV0 := h1.nonneg
  have hU0 := h2.nonneg
  have T1 := Lib.hid h1.lt
  have T2 := Lib.hid h2.lt
  have b0 := Below.refl w.heap.size w
  have l0 : Below w.heap.size w (w.alloc (.cells #[.bool ng1, .slice ad1 n1 c1] 25)) := (Below.refl _ _).alloc (Nat.le_refl _) _
  have b1 : Below w.heap.size w (w.alloc (.cells #[.bool ng1, .slice ad1 n1 c1] 25)) := below_trans b0 l0
  have k0 : Cel (w.alloc (.cells #[.bool ng1, .slice ad1 n1 c1] 25)) w.heap.size 25 [.bool ng1, .slice ad1 n1 c1] := Cel.made _ _ _ _ (by simp)
  have l1 : Below (w.alloc (.cells #[.bool ng1, .slice ad1 n1 c1] 25)).heap.size (w.alloc (.cells #[.bool ng1, .slice ad1 n1 c1] 25)) ((w.alloc (.cells #[.bool ng1, .slice ad1 n1 c1] 25)).alloc (.cells #[.bool ng2, .slice ad2 n2 c2] 25)) := (Below.refl _ _).alloc (Nat.le_refl _) _
  have b2 : Below w.heap.size w ((w.alloc (.cells #[.bool ng1, .slice ad1 n1 c1] 25)).alloc (.cells #[.bool ng2, .slice ad2 n2 c2] 25)) := below_trans b1 l1
  have k1 : Cel ((w.alloc (.cells #[.bool ng1, .slice ad1 n1 c1] 25)).alloc (.cells #[.bool ng2, .slice ad2 n2 c2] 25)) (w.heap.size + 1) 25 [.bool ng2, .slice ad2 n2 c2] := Cel.made _ _ _ _ (by simp)
  replace k0 := k0.next l1
  have l2 : Below ((w.alloc (.cells #[.bool ng1, .slice ad1 n1 c1] 25)).alloc (.cells #[.bool ng2, .slice ad2 n2 c2] 25)).heap.size ((w.alloc (.cells #[.bool ng1, .slice ad1 n1 c1] 25)).alloc (.cells #[.bool ng2, .slice ad2 n2 c2] 25)) (((w.alloc (.cells #[.bool ng1, .slice ad1 n1 c1] 25)).alloc (.cells #[.bool ng2, .slice ad2 n2 c2] 25)).alloc (.cells #[.bool false, .slice none 0 0] 25)) := (Below.refl _ _).alloc (Nat.le_refl _) _
  have b3 : Below w.heap.size w (((w.alloc (.cells #[.bool ng1, .slice ad1 n1 c1] 25)).alloc (.cells #[.bool ng2, .slice ad2 n2 c2] 25)).alloc (.cells #[.bool false, .slice none 0 0] 25)) := below_trans b2 l2
  have k2 : Cel (((w.alloc (.cells #[.bool ng1, .slice ad1 n1 c1] 25)).alloc (.cells #[.bool ng2, .slice ad2 n2 c2] 25)).alloc (.cells #[.bool false, .slice none 0 0] 25)) (w.heap.size + 2) 25 [.bool false, .slice none 0 0] := Cel.made _ _ _ _ (by simp)
  replace k0 := k0.next l2
  replace k1 := k1.next l2
  replace h1 := h1.below b3 (Nat.le_refl _)
  replace h2 := h2.below b3 (Nat.le_refl _)
  clear b0 b1 b2 l0 l1 l2
  have hg0 : w.heap.size ≤ w.heap.size := Nat.le_refl _
  have hg1 : w.heap.size ≤ w.heap.size + 1 := Nat.le_add_right _ _
  have hg2 : w.heap.size ≤ w.heap.size + 2 := Nat.le_add_right _ _
  have hS := wsigned_calls ng1 ad1 n1 c1 V1 (((w.alloc (.cells #[.bool ng1, .slice ad1 n1 c1] 25)).alloc (.cells #[.bool ng2, .slice ad2 n2 c2] 25)).alloc (.cells #[.bool false, .slice none 0 0] 25)) h1 (by omega)
  have hS2 : Hid (∀ w2 : World, Below ((((w.alloc (.cells #[.bool ng1, .slice ad1 n1 c1] 25)).alloc (.cells #[.bool ng2, .slice ad2 n2 c2] 25)).alloc (.cells #[.bool false, .slice none 0 0] 25))).heap.size ((((w.alloc (.cells #[.bool ng1, .slice ad1 n1 c1] 25)).alloc (.cells #[.bool ng2, .slice ad2 n2 c2] 25)).alloc (.cells #[.bool false, .slice none 0 0] 25))) w2 → Calls Try.prog 50 #[.agg #[.bool ng2, .slice ad2 n2 c2]] w2 (fun e w' => ∃ ad' n' c', e = .returned (.tuple #[.int .i8 (sgI (sI ng2 V2)), .slice ad' n' c']) ∧ Can w' ad' n' c' V2 ∧ Below w2.heap.size w2 w')) := Lib.hid fun w2 b2 => wsigned_calls ng2 ad2 n2 c2 V2 w2 (h2.below b2 (Nat.le_refl _)) (by omega)
  have hA1 := (sI_abs ng1 V1 hV0).symm
  have hA2 := (sI_abs ng2 V2 hU0).symm
  generalize sI ng1 V1 = N at *
  generalize sI ng2 V2 = M at *
  clear h1 h2
  obtain ⟨r, hr⟩ : ∃ r, decide (N + M < 0) = r := ⟨_, rfl⟩
  have HR := Lib.hid hr
  obtain ⟨A, hA⟩ : ∃ A, A = ((N + M).natAbs : Int) := ⟨_, rfl⟩
  have HAB := Lib.hid hA
  have hC : Hid (∀ (w2 : World) xd xn xc yd yn yc, Can w2 xd xn xc V1 → Can w2 yd yn yc V2 → xn ≤ 70368744177663 → yn ≤ 70368744177663 → Calls Try.prog 74 #[.int .i8 (sgI N), .slice xd xn xc, .int .i8 (sgI M), .slice yd yn yc] w2 (RetIntR r A w2)) := Lib.hid fun w2 xd xn xc yd yn yc q1 q2 q3 q4 => (wsum_calls N M xd yd xn yn xc yc V1 V2 w2 q1 q2 hA1 hA2 q3 q4).mono fun e w' q => q.named hr hA
  clear hA1 hA2 hr hA
  generalize sgI N = s1 at *
  generalize sgI M = s2 at *
  go_enter Try.func39, Try.ntmps39
  have h := Lib.hid hS
  clear hS
  have e0a := k0.cell 0 _ rfl
  have e0b := k0.cell 1 _ rfl
  have e1a := k1.cell 0 _ rfl
  have e1b := k1.cell 1 _ rfl
  have e2a := k2.cell 0 _ rfl
  have e2b := k2.cell 1 _ rfl
  go_wp2_with fail
  with_reducible refine (h.out).mono ?_
  rintro e v1 ⟨xd, xn, xc, rfl, f1, b⟩
  have hS3 := hS2.out _ b
  clear h hS2
  clear e0a e0b e1a e1b e2a e2b
  replace k0 := k0.next b
  replace k1 := k1.next b
  replace k2 := k2.next b
  have bb := below_trans b3 b
  clear b b3
  have b3 := bb
  clear bb
  have h := Lib.hid (hS3)
  have e0a := k0.cell 0 _ rfl
  have e0b := k0.cell 1 _ rfl
  have e1a := k1.cell 0 _ rfl
  have e1b := k1.cell 1 _ rfl
  have e2a := k2.cell 0 _ rfl
  have e2b := k2.cell 1 _ rfl
  go_wp2_with fail
  with_reducible refine (h.out).mono ?_
  rintro e v2 ⟨yd, yn, yc, rfl, f2, b⟩
  clear h
  clear e0a e0b e1a e1b e2a e2b
  replace k0 := k0.next b
  replace k1 := k1.next b
  replace k2 := k2.next b
  replace f1 := f1.below b (Nat.le_refl _)
  have bb := below_trans b3 b
  clear b b3
  have b3 := bb
  clear bb
  clear hS3
  have hxn : xn ≤ n1 := f1.len_le n1 T1.out
  have hyn : yn ≤ n2 := f2.len_le n2 T2.out
  have h := Lib.hid (hC.out _ _ _ _ _ _ _ f1 f2 (by omega) (by omega))
  have e0a := k0.cell 0 _ rfl
  have e0b := k0.cell 1 _ rfl
  have e1a := k1.cell 0 _ rfl
  have e1b := k1.cell 1 _ rfl
  have e2a := k2.cell 0 _ rfl
  have e2b := k2.cell 1 _ rfl
  go_wp2_with fail
  with_reducible refine (h.out).mono ?_
  rintro e v3 ⟨rd, rn, rc, rfl, ff, b⟩
  clear h
  clear e0a e0b e1a e1b e2a e2b
  replace k0 := k0.next b
  replace k1 := k1.next b
  replace k2 := k2.next b
  replace f1 := f1.below b (Nat.le_refl _)
  replace f2 := f2.below b (Nat.le_refl _)
  have bb := below_trans b3 b
  clear b b3
  have b3 := bb
  clear bb
  have g0 := k2.free 0
  have g1 := k2.free 1
  have e0a := k0.cell 0 _ rfl
  have e0b := k0.cell 1 _ rfl
  have e1a := k1.cell 0 _ rfl
  have e1b := k1.cell 1 _ rfl
  have e2a := k2.cell 0 _ rfl
  have e2b := k2.cell 1 _ rfl
  go_wp2_with fail
  refine bodyPost_ret (results_cell_row rfl _ _ (w.heap.size + 2) 25 #[.bool r, .slice rd rn rc] (0, 0) _ rfl ((k2.set 0 _).set 1 _).row Try.underlying25 rfl size_int) rfl ?_
  refine ⟨_, _, _, by rw [HR.out], ?_, below_set (below_set b3 _ _ _ hg2) _ _ _ hg2⟩
  rw [← HAB.out]
  exact ff.poke2 k2 _ _
end Go.Proofs.Ytgnophflogmmaaa

/- whole: Sub. (Printed by whole.py.) -/
namespace Go.Proofs.Ytgnophflogmmaaa
open Go.RowKit

set_option maxHeartbeats 1000000 in
theorem wsub_calls (ng1 : Bool) (ad1 : Option Addr) (n1 c1 : Nat) (V1 : Int) (ng2 : Bool) (ad2 : Option Addr) (n2 c2 : Nat) (V2 : Int) (w : World) (h1 : Num w ad1 n1 c1 V1) (hn1 : n1 ≤ 70368744177662) (h2 : Num w ad2 n2 c2 V2) (hn2 : n2 ≤ 70368744177662) :
    Calls Try.prog 42 #[.agg #[.bool ng1, .slice ad1 n1 c1], .agg #[.bool ng2, .slice ad2 n2 c2]] w (RetInt (sI ng1 V1 - sI ng2 V2) w) := by
  have hV0 := h1.nonneg
  have hU0 := h2.nonneg
  have T1 := Lib.hid h1.lt
  have T2 := Lib.hid h2.lt
  have b0 := Below.refl w.heap.size w
  have l0 : Below w.heap.size w (w.alloc (.cells #[.bool ng1, .slice ad1 n1 c1] 25)) := (Below.refl _ _).alloc (Nat.le_refl _) _
  have b1 : Below w.heap.size w (w.alloc (.cells #[.bool ng1, .slice ad1 n1 c1] 25)) := below_trans b0 l0
  have k0 : Cel (w.alloc (.cells #[.bool ng1, .slice ad1 n1 c1] 25)) w.heap.size 25 [.bool ng1, .slice ad1 n1 c1] := Cel.made _ _ _ _ (by simp)
  have l1 : Below (w.alloc (.cells #[.bool ng1, .slice ad1 n1 c1] 25)).heap.size (w.alloc (.cells #[.bool ng1, .slice ad1 n1 c1] 25)) ((w.alloc (.cells #[.bool ng1, .slice ad1 n1 c1] 25)).alloc (.cells #[.bool ng2, .slice ad2 n2 c2] 25)) := (Below.refl _ _).alloc (Nat.le_refl _) _
  have b2 : Below w.heap.size w ((w.alloc (.cells #[.bool ng1, .slice ad1 n1 c1] 25)).alloc (.cells #[.bool ng2, .slice ad2 n2 c2] 25)) := below_trans b1 l1
  have k1 : Cel ((w.alloc (.cells #[.bool ng1, .slice ad1 n1 c1] 25)).alloc (.cells #[.bool ng2, .slice ad2 n2 c2] 25)) (w.heap.size + 1) 25 [.bool ng2, .slice ad2 n2 c2] := Cel.made _ _ _ _ (by simp)
  replace k0 := k0.next l1
  have l2 : Below ((w.alloc (.cells #[.bool ng1, .slice ad1 n1 c1] 25)).alloc (.cells #[.bool ng2, .slice ad2 n2 c2] 25)).heap.size ((w.alloc (.cells #[.bool ng1, .slice ad1 n1 c1] 25)).alloc (.cells #[.bool ng2, .slice ad2 n2 c2] 25)) (((w.alloc (.cells #[.bool ng1, .slice ad1 n1 c1] 25)).alloc (.cells #[.bool ng2, .slice ad2 n2 c2] 25)).alloc (.cells #[.bool false, .slice none 0 0] 25)) := (Below.refl _ _).alloc (Nat.le_refl _) _
  have b3 : Below w.heap.size w (((w.alloc (.cells #[.bool ng1, .slice ad1 n1 c1] 25)).alloc (.cells #[.bool ng2, .slice ad2 n2 c2] 25)).alloc (.cells #[.bool false, .slice none 0 0] 25)) := below_trans b2 l2
  have k2 : Cel (((w.alloc (.cells #[.bool ng1, .slice ad1 n1 c1] 25)).alloc (.cells #[.bool ng2, .slice ad2 n2 c2] 25)).alloc (.cells #[.bool false, .slice none 0 0] 25)) (w.heap.size + 2) 25 [.bool false, .slice none 0 0] := Cel.made _ _ _ _ (by simp)
  replace k0 := k0.next l2
  replace k1 := k1.next l2
  replace h1 := h1.below b3 (Nat.le_refl _)
  replace h2 := h2.below b3 (Nat.le_refl _)
  clear b0 b1 b2 l0 l1 l2
  have hg0 : w.heap.size ≤ w.heap.size := Nat.le_refl _
  have hg1 : w.heap.size ≤ w.heap.size + 1 := Nat.le_add_right _ _
  have hg2 : w.heap.size ≤ w.heap.size + 2 := Nat.le_add_right _ _
  have hS := wsigned_calls ng1 ad1 n1 c1 V1 (((w.alloc (.cells #[.bool ng1, .slice ad1 n1 c1] 25)).alloc (.cells #[.bool ng2, .slice ad2 n2 c2] 25)).alloc (.cells #[.bool false, .slice none 0 0] 25)) h1 (by omega)
  have hS2 : Hid (∀ w2 : World, Below ((((w.alloc (.cells #[.bool ng1, .slice ad1 n1 c1] 25)).alloc (.cells #[.bool ng2, .slice ad2 n2 c2] 25)).alloc (.cells #[.bool false, .slice none 0 0] 25))).heap.size ((((w.alloc (.cells #[.bool ng1, .slice ad1 n1 c1] 25)).alloc (.cells #[.bool ng2, .slice ad2 n2 c2] 25)).alloc (.cells #[.bool false, .slice none 0 0] 25))) w2 → Calls Try.prog 50 #[.agg #[.bool ng2, .slice ad2 n2 c2]] w2 (fun e w' => ∃ ad' n' c', e = .returned (.tuple #[.int .i8 (sgI (sI ng2 V2)), .slice ad' n' c']) ∧ Can w' ad' n' c' V2 ∧ Below w2.heap.size w2 w')) := Lib.hid fun w2 b2 => wsigned_calls ng2 ad2 n2 c2 V2 w2 (h2.below b2 (Nat.le_refl _)) (by omega)
  have hA1 := (sI_abs ng1 V1 hV0).symm
  have hA2 := (sI_abs ng2 V2 hU0).symm
  generalize sI ng1 V1 = N at *
  generalize sI ng2 V2 = M at *
  clear h1 h2
  obtain ⟨r, hr⟩ : ∃ r, decide (N - M < 0) = r := ⟨_, rfl⟩
  have HR := Lib.hid hr
  obtain ⟨A, hA⟩ : ∃ A, A = ((N - M).natAbs : Int) := ⟨_, rfl⟩
  have HAB := Lib.hid hA
  obtain ⟨q1, -⟩ := sg_neg M
  have hC : Hid (∀ (w2 : World) xd xn xc yd yn yc, Can w2 xd xn xc V1 → Can w2 yd yn yc V2 → xn ≤ 70368744177663 → yn ≤ 70368744177663 → Calls Try.prog 74 #[.int .i8 (sgI N), .slice xd xn xc, .int .i8 (sgI (-M)), .slice yd yn yc] w2 (RetIntR r A w2)) := Lib.hid fun w2 xd xn xc yd yn yc q1 q2 q3 q4 => (wsum_calls N (-M) xd yd xn yn xc yc V1 V2 w2 q1 q2 hA1 (by rw [Int.natAbs_neg]; exact hA2) q3 q4).mono fun e w' q => by rw [← Int.sub_eq_add_neg] at q; exact q.named hr hA
  generalize hs3 : sgI (-M) = s3 at *
  have HS3 := Lib.hid hs3
  clear hs3
  clear hA1 hA2 hr hA
  generalize sgI N = s1 at *
  generalize sgI M = s2 at *
  go_enter Try.func42, Try.ntmps42
  have h := Lib.hid hS
  clear hS
  have e0a := k0.cell 0 _ rfl
  have e0b := k0.cell 1 _ rfl
  have e1a := k1.cell 0 _ rfl
  have e1b := k1.cell 1 _ rfl
  have e2a := k2.cell 0 _ rfl
  have e2b := k2.cell 1 _ rfl
  go_wp2_with fail
  with_reducible refine (h.out).mono ?_
  rintro e v1 ⟨xd, xn, xc, rfl, f1, b⟩
  have hS3 := hS2.out _ b
  clear h hS2
  clear e0a e0b e1a e1b e2a e2b
  replace k0 := k0.next b
  replace k1 := k1.next b
  replace k2 := k2.next b
  have bb := below_trans b3 b
  clear b b3
  have b3 := bb
  clear bb
  have h := Lib.hid (hS3)
  have e0a := k0.cell 0 _ rfl
  have e0b := k0.cell 1 _ rfl
  have e1a := k1.cell 0 _ rfl
  have e1b := k1.cell 1 _ rfl
  have e2a := k2.cell 0 _ rfl
  have e2b := k2.cell 1 _ rfl
  go_wp2_with fail
  with_reducible refine (h.out).mono ?_
  rintro e v2 ⟨yd, yn, yc, rfl, f2, b⟩
  clear h
  clear e0a e0b e1a e1b e2a e2b
  replace k0 := k0.next b
  replace k1 := k1.next b
  replace k2 := k2.next b
  replace f1 := f1.below b (Nat.le_refl _)
  have bb := below_trans b3 b
  clear b b3
  have b3 := bb
  clear bb
  clear hS3
  have hxn : xn ≤ n1 := f1.len_le n1 T1.out
  have hyn : yn ≤ n2 := f2.len_le n2 T2.out
  have h := Lib.hid (hC.out _ _ _ _ _ _ _ f1 f2 (by omega) (by omega))
  have e0a := k0.cell 0 _ rfl
  have e0b := k0.cell 1 _ rfl
  have e1a := k1.cell 0 _ rfl
  have e1b := k1.cell 1 _ rfl
  have e2a := k2.cell 0 _ rfl
  have e2b := k2.cell 1 _ rfl
  go_wp2_with fail
  with_reducible refine (h.out).mono ?_
  rintro e v3 ⟨rd, rn, rc, rfl, ff, b⟩
  clear h
  clear e0a e0b e1a e1b e2a e2b
  replace k0 := k0.next b
  replace k1 := k1.next b
  replace k2 := k2.next b
  replace f1 := f1.below b (Nat.le_refl _)
  replace f2 := f2.below b (Nat.le_refl _)
  have bb := below_trans b3 b
  clear b b3
  have b3 := bb
  clear bb
  have g0 := k2.free 0
  have g1 := k2.free 1
  have e0a := k0.cell 0 _ rfl
  have e0b := k0.cell 1 _ rfl
  have e1a := k1.cell 0 _ rfl
  have e1b := k1.cell 1 _ rfl
  have e2a := k2.cell 0 _ rfl
  have e2b := k2.cell 1 _ rfl
  go_wp2_with fail
  refine bodyPost_ret (results_cell_row rfl _ _ (w.heap.size + 2) 25 #[.bool r, .slice rd rn rc] (0, 0) _ rfl ((k2.set 0 _).set 1 _).row Try.underlying25 rfl size_int) rfl ?_
  refine ⟨_, _, _, by rw [HR.out], ?_, below_set (below_set b3 _ _ _ hg2) _ _ _ hg2⟩
  rw [← HAB.out]
  exact ff.poke2 k2 _ _
end Go.Proofs.Ytgnophflogmmaaa

/- whole: Mul. (Printed by whole.py.) -/
namespace Go.Proofs.Ytgnophflogmmaaa
open Go.RowKit

set_option maxHeartbeats 1000000 in
theorem wmul_calls (ng1 : Bool) (ad1 : Option Addr) (n1 c1 : Nat) (V1 : Int) (ng2 : Bool) (ad2 : Option Addr) (n2 c2 : Nat) (V2 : Int) (w : World) (h1 : Num w ad1 n1 c1 V1) (hn1 : n1 ≤ 35184372088832) (h2 : Num w ad2 n2 c2 V2) (hn2 : n2 ≤ 35184372088832) :
    Calls Try.prog 40 #[.agg #[.bool ng1, .slice ad1 n1 c1], .agg #[.bool ng2, .slice ad2 n2 c2]] w (RetInt (sI ng1 V1 * sI ng2 V2) w) := by
  have hV0 := h1.nonneg
  have hU0 := h2.nonneg
  have T1 := Lib.hid h1.lt
  have T2 := Lib.hid h2.lt
  have b0 := Below.refl w.heap.size w
  have l0 : Below w.heap.size w (w.alloc (.cells #[.bool ng1, .slice ad1 n1 c1] 25)) := (Below.refl _ _).alloc (Nat.le_refl _) _
  have b1 : Below w.heap.size w (w.alloc (.cells #[.bool ng1, .slice ad1 n1 c1] 25)) := below_trans b0 l0
  have k0 : Cel (w.alloc (.cells #[.bool ng1, .slice ad1 n1 c1] 25)) w.heap.size 25 [.bool ng1, .slice ad1 n1 c1] := Cel.made _ _ _ _ (by simp)
  have l1 : Below (w.alloc (.cells #[.bool ng1, .slice ad1 n1 c1] 25)).heap.size (w.alloc (.cells #[.bool ng1, .slice ad1 n1 c1] 25)) ((w.alloc (.cells #[.bool ng1, .slice ad1 n1 c1] 25)).alloc (.cells #[.bool ng2, .slice ad2 n2 c2] 25)) := (Below.refl _ _).alloc (Nat.le_refl _) _
  have b2 : Below w.heap.size w ((w.alloc (.cells #[.bool ng1, .slice ad1 n1 c1] 25)).alloc (.cells #[.bool ng2, .slice ad2 n2 c2] 25)) := below_trans b1 l1
  have k1 : Cel ((w.alloc (.cells #[.bool ng1, .slice ad1 n1 c1] 25)).alloc (.cells #[.bool ng2, .slice ad2 n2 c2] 25)) (w.heap.size + 1) 25 [.bool ng2, .slice ad2 n2 c2] := Cel.made _ _ _ _ (by simp)
  replace k0 := k0.next l1
  have l2 : Below ((w.alloc (.cells #[.bool ng1, .slice ad1 n1 c1] 25)).alloc (.cells #[.bool ng2, .slice ad2 n2 c2] 25)).heap.size ((w.alloc (.cells #[.bool ng1, .slice ad1 n1 c1] 25)).alloc (.cells #[.bool ng2, .slice ad2 n2 c2] 25)) (((w.alloc (.cells #[.bool ng1, .slice ad1 n1 c1] 25)).alloc (.cells #[.bool ng2, .slice ad2 n2 c2] 25)).alloc (.cells #[.bool false, .slice none 0 0] 25)) := (Below.refl _ _).alloc (Nat.le_refl _) _
  have b3 : Below w.heap.size w (((w.alloc (.cells #[.bool ng1, .slice ad1 n1 c1] 25)).alloc (.cells #[.bool ng2, .slice ad2 n2 c2] 25)).alloc (.cells #[.bool false, .slice none 0 0] 25)) := below_trans b2 l2
  have k2 : Cel (((w.alloc (.cells #[.bool ng1, .slice ad1 n1 c1] 25)).alloc (.cells #[.bool ng2, .slice ad2 n2 c2] 25)).alloc (.cells #[.bool false, .slice none 0 0] 25)) (w.heap.size + 2) 25 [.bool false, .slice none 0 0] := Cel.made _ _ _ _ (by simp)
  replace k0 := k0.next l2
  replace k1 := k1.next l2
  replace h1 := h1.below b3 (Nat.le_refl _)
  replace h2 := h2.below b3 (Nat.le_refl _)
  clear b0 b1 b2 l0 l1 l2
  have hg0 : w.heap.size ≤ w.heap.size := Nat.le_refl _
  have hg1 : w.heap.size ≤ w.heap.size + 1 := Nat.le_add_right _ _
  have hg2 : w.heap.size ≤ w.heap.size + 2 := Nat.le_add_right _ _
  have hS := wsigned_calls ng1 ad1 n1 c1 V1 (((w.alloc (.cells #[.bool ng1, .slice ad1 n1 c1] 25)).alloc (.cells #[.bool ng2, .slice ad2 n2 c2] 25)).alloc (.cells #[.bool false, .slice none 0 0] 25)) h1 (by omega)
  have hS2 : Hid (∀ w2 : World, Below ((((w.alloc (.cells #[.bool ng1, .slice ad1 n1 c1] 25)).alloc (.cells #[.bool ng2, .slice ad2 n2 c2] 25)).alloc (.cells #[.bool false, .slice none 0 0] 25))).heap.size ((((w.alloc (.cells #[.bool ng1, .slice ad1 n1 c1] 25)).alloc (.cells #[.bool ng2, .slice ad2 n2 c2] 25)).alloc (.cells #[.bool false, .slice none 0 0] 25))) w2 → Calls Try.prog 50 #[.agg #[.bool ng2, .slice ad2 n2 c2]] w2 (fun e w' => ∃ ad' n' c', e = .returned (.tuple #[.int .i8 (sgI (sI ng2 V2)), .slice ad' n' c']) ∧ Can w' ad' n' c' V2 ∧ Below w2.heap.size w2 w')) := Lib.hid fun w2 b2 => wsigned_calls ng2 ad2 n2 c2 V2 w2 (h2.below b2 (Nat.le_refl _)) (by omega)
  have hA1 := (sI_abs ng1 V1 hV0).symm
  have hA2 := (sI_abs ng2 V2 hU0).symm
  generalize sI ng1 V1 = N at *
  generalize sI ng2 V2 = M at *
  clear h1 h2
  have hAB : V1 * V2 = ((N * M).natAbs : Int) := by rw [Int.natAbs_mul, hA1, hA2]; simp
  have HAB := Lib.hid hAB
  obtain ⟨r, hr⟩ : ∃ r, decide (N * M < 0) = r := ⟨_, rfl⟩
  have HR := Lib.hid hr
  have hsg := made_sign (N * M) (V1 * V2) hAB
  rw [hr] at hsg
  have HSG := Lib.hid hsg
  clear hr hsg
  have q1 := (i8_sg (sgI N) (sgI M) (sg_bd N) (sg_bd M)).trans (sg_mul N M)
  generalize hst : sgI (N * M) = st at *
  have HST := Lib.hid hst
  clear hst
  generalize sgI N = s1 at *
  generalize sgI M = s2 at *
  have hW0 : 0 ≤ V1 * V2 := Int.mul_nonneg hV0 hU0
  clear hA1 hA2 hAB
  go_enter Try.func40, Try.ntmps40
  have h := Lib.hid hS
  clear hS
  have e0a := k0.cell 0 _ rfl
  have e0b := k0.cell 1 _ rfl
  have e1a := k1.cell 0 _ rfl
  have e1b := k1.cell 1 _ rfl
  have e2a := k2.cell 0 _ rfl
  have e2b := k2.cell 1 _ rfl
  go_wp2_with fail
  with_reducible refine (h.out).mono ?_
  rintro e v1 ⟨xd, xn, xc, rfl, f1, b⟩
  have hS3 := hS2.out _ b
  clear h hS2
  clear e0a e0b e1a e1b e2a e2b
  replace k0 := k0.next b
  replace k1 := k1.next b
  replace k2 := k2.next b
  have bb := below_trans b3 b
  clear b b3
  have b3 := bb
  clear bb
  have h := Lib.hid (hS3)
  have e0a := k0.cell 0 _ rfl
  have e0b := k0.cell 1 _ rfl
  have e1a := k1.cell 0 _ rfl
  have e1b := k1.cell 1 _ rfl
  have e2a := k2.cell 0 _ rfl
  have e2b := k2.cell 1 _ rfl
  go_wp2_with fail
  with_reducible refine (h.out).mono ?_
  rintro e v2 ⟨yd, yn, yc, rfl, f2, b⟩
  clear h
  clear e0a e0b e1a e1b e2a e2b
  replace k0 := k0.next b
  replace k1 := k1.next b
  replace k2 := k2.next b
  replace f1 := f1.below b (Nat.le_refl _)
  have bb := below_trans b3 b
  clear b b3
  have b3 := bb
  clear bb
  clear hS3
  have hxn : xn ≤ n1 := f1.len_le n1 T1.out
  have hyn : yn ≤ n2 := f2.len_le n2 T2.out
  have hM := num_mul xd yd xn yn xc yc V1 V2 v2 (f1.num hV0) (f2.num hU0) (by omega) (by omega)
  replace hV0 := hW0
  have h := Lib.hid (hM)
  have e0a := k0.cell 0 _ rfl
  have e0b := k0.cell 1 _ rfl
  have e1a := k1.cell 0 _ rfl
  have e1b := k1.cell 1 _ rfl
  have e2a := k2.cell 0 _ rfl
  have e2b := k2.cell 1 _ rfl
  go_wp2_with fail
  with_reducible refine (h.out).mono ?_
  rintro e v3 ⟨fd, fn, fc, rfl, ff, b⟩
  clear h
  clear e0a e0b e1a e1b e2a e2b
  replace k0 := k0.next b
  replace k1 := k1.next b
  replace k2 := k2.next b
  replace f1 := f1.below b (Nat.le_refl _)
  replace f2 := f2.below b (Nat.le_refl _)
  have bb := below_trans b3 b
  clear b b3
  have b3 := bb
  clear bb
  clear hM
  have HM := wmade_as st fd fn fc (V1 * V2) r v3 ff hV0 HSG.out
  have h := Lib.hid (HM)
  have e0a := k0.cell 0 _ rfl
  have e0b := k0.cell 1 _ rfl
  have e1a := k1.cell 0 _ rfl
  have e1b := k1.cell 1 _ rfl
  have e2a := k2.cell 0 _ rfl
  have e2b := k2.cell 1 _ rfl
  go_wp2_with fail
  with_reducible refine (h.out).mono ?_
  rintro e v4 ⟨rfl, b⟩
  clear h
  clear e0a e0b e1a e1b e2a e2b
  replace k0 := k0.next b
  replace k1 := k1.next b
  replace k2 := k2.next b
  replace f1 := f1.below b (Nat.le_refl _)
  replace f2 := f2.below b (Nat.le_refl _)
  replace ff := ff.below b (Nat.le_refl _)
  have bb := below_trans b3 b
  clear b b3
  have b3 := bb
  clear bb
  clear HM
  have g0 := k2.free 0
  have g1 := k2.free 1
  have e0a := k0.cell 0 _ rfl
  have e0b := k0.cell 1 _ rfl
  have e1a := k1.cell 0 _ rfl
  have e1b := k1.cell 1 _ rfl
  have e2a := k2.cell 0 _ rfl
  have e2b := k2.cell 1 _ rfl
  go_wp2_with fail
  refine bodyPost_ret (results_cell_row rfl _ _ (w.heap.size + 2) 25 #[.bool r, .slice fd fn fc] (0, 0) _ rfl ((k2.set 0 _).set 1 _).row Try.underlying25 rfl size_int) rfl ?_
  refine ⟨_, _, _, by rw [HR.out], ?_, below_set (below_set b3 _ _ _ hg2) _ _ _ hg2⟩
  rw [← HAB.out]
  exact ff.poke2 k2 _ _
end Go.Proofs.Ytgnophflogmmaaa
