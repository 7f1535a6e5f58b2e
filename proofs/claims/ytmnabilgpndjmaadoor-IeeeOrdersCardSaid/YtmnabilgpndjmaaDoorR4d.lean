/- Printed by ieee2.py. -/
import Derived.Test.YtmnabilgpndjmaaDoorR4c
set_option linter.unusedVariables false
set_option linter.unusedSimpArgs false
namespace Go.Proofs.YtmnabilgpndjmaaDoor
open Go.RowKit

theorem nan_cls (W : Nat) (x : Int) : (clsW W x == 5) = isNaN W x := by
  unfold clsW isNaN
  split
  · rename_i h; simp [h]
  · rename_i h
    rw [decide_eq_false h]
    split
    · rfl
    · split
      · rfl
      · split <;> rfl

theorem rcmp_w_calls (W : Nat) (hW : Wide W) (x y : Int) (hx : 0 ≤ x ∧ x < 18446744073709551616) (hy : 0 ≤ y ∧ y < 18446744073709551616) (w : World) :
    Calls Tryd.prog 16 #[.int .i64 W, .int .u64 x, .int .u64 y] w (fun e w' => e = .returned (.tuple #[.int .i64 (cmpW W x y).1, .bool (cmpW W x y).2]) ∧ Below w.heap.size w w') := by
  have HX := Lib.hid (rclass_calls W hW x hx)
  have HY := Lib.hid (rclass_calls W hW y hy)
  have HN1 := Lib.hid (rneg_calls W hW x)
  have HN2 := Lib.hid (rneg_calls W hW y)
  have HZ1 := Lib.hid (rsize_calls W hW x hx)
  have HZ2 := Lib.hid (rsize_calls W hW y hy)
  have HT := Lib.hid (rtotal_calls W hW x y)
  have nx := nan_cls W x
  have ny := nan_cls W y
  have HC := Lib.hid (show cmpW W x y = if isNaN W x || isNaN W y then (0, false) else if sizeW W x = 0 ∧ sizeW W y = 0 then (0, true) else (totalW W x y, true) from rfl)
  have HTT := Lib.hid (show totalW W x y = if negW W x then (if negW W y then cmpI y x else -1) else (if negW W y then 1 else cmpI x y) from rfl)
  have same : Hid (negW W x = negW W y → sizeW W x = 0 → sizeW W y = 0 → totalW W x y = 0) := by
    intro h1 h2 h3
    have e : x = y := by
      unfold negW at h1
      unfold sizeW at h2 h3
      by_cases a : sgnW W ≤ x
      · rw [decide_eq_true a] at h1
        have b := of_decide_eq_true h1.symm
        rw [if_pos a] at h2
        rw [if_pos b] at h3
        omega
      · rw [decide_eq_false a] at h1
        have b := of_decide_eq_false h1.symm
        rw [if_neg a] at h2
        rw [if_neg b] at h3
        omega
    rw [HTT.out, ← h1, cmpI_eq e, cmpI_eq e.symm]
    split <;> rfl
  clear hW
  generalize clsW W x = cx at *
  generalize clsW W y = cy at *
  generalize cmpW W x y = C at *
  generalize totalW W x y = T at *
  generalize isNaN W x = i1 at *
  generalize isNaN W y = i2 at *
  generalize negW W x = n1 at *
  generalize negW W y = n2 at *
  generalize sizeW W x = s1 at *
  generalize sizeW W y = s2 at *
  cases i1
  · cases i2
    · cases n1 <;> cases n2
      · have HR := Lib.hid (show C = (T, true) by
          rw [HC.out]
          by_cases hz : s1 = 0 ∧ s2 = 0
          · rw [if_neg (by decide), if_pos hz, same.out rfl hz.1 hz.2]
          · rw [if_neg (by decide), if_neg hz])
        clear HC HTT same
        go_enter Tryd.func16, Tryd.ntmps16
        go_wp2_with fail
        refine (HX.out w).mono ?_
        rintro e w1 ⟨rfl, b1⟩
        go_wp2_with fail
        refine (HY.out w1).mono ?_
        rintro e w2 ⟨rfl, b2⟩
        go_wp2_with fail
        refine (HN1.out w2).mono ?_
        rintro e w' ⟨rfl, rfl⟩
        go_wp2_with fail
        refine (HN2.out w2).mono ?_
        rintro e w' ⟨rfl, rfl⟩
        go_wp2_with fail
        refine (HT.out w2).mono ?_
        rintro e w' ⟨rfl, rfl⟩
        go_wp2
        go_ret2
        rw [HR.out]
        exact ⟨rfl, below_trans b1 (b2)⟩
      · have hT : T = 1 := by rw [HTT.out]; rfl
        subst hT
        clear HTT same
        by_cases hz1 : s1 = 0
        · by_cases hz2 : s2 = 0
          · have HR := Lib.hid (show C = (0, true) by rw [HC.out, if_neg (by decide), if_pos ⟨hz1, hz2⟩])
            subst hz1 hz2
            clear HC
            go_enter Tryd.func16, Tryd.ntmps16
            go_wp2_with fail
            refine (HX.out w).mono ?_
            rintro e w1 ⟨rfl, b1⟩
            go_wp2_with fail
            refine (HY.out w1).mono ?_
            rintro e w2 ⟨rfl, b2⟩
            go_wp2_with fail
            refine (HN1.out w2).mono ?_
            rintro e w' ⟨rfl, rfl⟩
            go_wp2_with fail
            refine (HN2.out w2).mono ?_
            rintro e w' ⟨rfl, rfl⟩
            go_wp2_with fail
            refine (HZ1.out w2).mono ?_
            rintro e w' ⟨rfl, rfl⟩
            go_wp2_with fail
            refine (HZ2.out w2).mono ?_
            rintro e w' ⟨rfl, rfl⟩
            go_wp2
            go_ret2
            rw [HR.out]
            exact ⟨rfl, below_trans b1 (b2)⟩
          · have HR := Lib.hid (show C = (1, true) by rw [HC.out, if_neg (by decide), if_neg (fun h => hz2 h.2)])
            have hz2' : (s2 == 0) = false := by simpa using hz2
            subst hz1
            clear HC hz2
            go_enter Tryd.func16, Tryd.ntmps16
            go_wp2_with fail
            refine (HX.out w).mono ?_
            rintro e w1 ⟨rfl, b1⟩
            go_wp2_with fail
            refine (HY.out w1).mono ?_
            rintro e w2 ⟨rfl, b2⟩
            go_wp2_with fail
            refine (HN1.out w2).mono ?_
            rintro e w' ⟨rfl, rfl⟩
            go_wp2_with fail
            refine (HN2.out w2).mono ?_
            rintro e w' ⟨rfl, rfl⟩
            go_wp2_with fail
            refine (HZ1.out w2).mono ?_
            rintro e w' ⟨rfl, rfl⟩
            go_wp2_with fail
            refine (HZ2.out w2).mono ?_
            rintro e w' ⟨rfl, rfl⟩
            go_wp2_with fail
            refine (HN1.out w2).mono ?_
            rintro e w' ⟨rfl, rfl⟩
            go_wp2
            go_ret2
            rw [HR.out]
            exact ⟨rfl, below_trans b1 (b2)⟩
        · have HR := Lib.hid (show C = (1, true) by rw [HC.out, if_neg (by decide), if_neg (fun h => hz1 h.1)])
          have hz1' : (s1 == 0) = false := by simpa using hz1
          clear HC hz1
          go_enter Tryd.func16, Tryd.ntmps16
          go_wp2_with fail
          refine (HX.out w).mono ?_
          rintro e w1 ⟨rfl, b1⟩
          go_wp2_with fail
          refine (HY.out w1).mono ?_
          rintro e w2 ⟨rfl, b2⟩
          go_wp2_with fail
          refine (HN1.out w2).mono ?_
          rintro e w' ⟨rfl, rfl⟩
          go_wp2_with fail
          refine (HN2.out w2).mono ?_
          rintro e w' ⟨rfl, rfl⟩
          go_wp2_with fail
          refine (HZ1.out w2).mono ?_
          rintro e w' ⟨rfl, rfl⟩
          go_wp2_with fail
          refine (HN1.out w2).mono ?_
          rintro e w' ⟨rfl, rfl⟩
          go_wp2
          go_ret2
          rw [HR.out]
          exact ⟨rfl, below_trans b1 (b2)⟩
      · have hT : T = -1 := by rw [HTT.out]; rfl
        subst hT
        clear HTT same
        by_cases hz1 : s1 = 0
        · by_cases hz2 : s2 = 0
          · have HR := Lib.hid (show C = (0, true) by rw [HC.out, if_neg (by decide), if_pos ⟨hz1, hz2⟩])
            subst hz1 hz2
            clear HC
            go_enter Tryd.func16, Tryd.ntmps16
            go_wp2_with fail
            refine (HX.out w).mono ?_
            rintro e w1 ⟨rfl, b1⟩
            go_wp2_with fail
            refine (HY.out w1).mono ?_
            rintro e w2 ⟨rfl, b2⟩
            go_wp2_with fail
            refine (HN1.out w2).mono ?_
            rintro e w' ⟨rfl, rfl⟩
            go_wp2_with fail
            refine (HN2.out w2).mono ?_
            rintro e w' ⟨rfl, rfl⟩
            go_wp2_with fail
            refine (HZ1.out w2).mono ?_
            rintro e w' ⟨rfl, rfl⟩
            go_wp2_with fail
            refine (HZ2.out w2).mono ?_
            rintro e w' ⟨rfl, rfl⟩
            go_wp2
            go_ret2
            rw [HR.out]
            exact ⟨rfl, below_trans b1 (b2)⟩
          · have HR := Lib.hid (show C = (-1, true) by rw [HC.out, if_neg (by decide), if_neg (fun h => hz2 h.2)])
            have hz2' : (s2 == 0) = false := by simpa using hz2
            subst hz1
            clear HC hz2
            go_enter Tryd.func16, Tryd.ntmps16
            go_wp2_with fail
            refine (HX.out w).mono ?_
            rintro e w1 ⟨rfl, b1⟩
            go_wp2_with fail
            refine (HY.out w1).mono ?_
            rintro e w2 ⟨rfl, b2⟩
            go_wp2_with fail
            refine (HN1.out w2).mono ?_
            rintro e w' ⟨rfl, rfl⟩
            go_wp2_with fail
            refine (HN2.out w2).mono ?_
            rintro e w' ⟨rfl, rfl⟩
            go_wp2_with fail
            refine (HZ1.out w2).mono ?_
            rintro e w' ⟨rfl, rfl⟩
            go_wp2_with fail
            refine (HZ2.out w2).mono ?_
            rintro e w' ⟨rfl, rfl⟩
            go_wp2_with fail
            refine (HN1.out w2).mono ?_
            rintro e w' ⟨rfl, rfl⟩
            go_wp2
            go_ret2
            rw [HR.out]
            exact ⟨rfl, below_trans b1 (b2)⟩
        · have HR := Lib.hid (show C = (-1, true) by rw [HC.out, if_neg (by decide), if_neg (fun h => hz1 h.1)])
          have hz1' : (s1 == 0) = false := by simpa using hz1
          clear HC hz1
          go_enter Tryd.func16, Tryd.ntmps16
          go_wp2_with fail
          refine (HX.out w).mono ?_
          rintro e w1 ⟨rfl, b1⟩
          go_wp2_with fail
          refine (HY.out w1).mono ?_
          rintro e w2 ⟨rfl, b2⟩
          go_wp2_with fail
          refine (HN1.out w2).mono ?_
          rintro e w' ⟨rfl, rfl⟩
          go_wp2_with fail
          refine (HN2.out w2).mono ?_
          rintro e w' ⟨rfl, rfl⟩
          go_wp2_with fail
          refine (HZ1.out w2).mono ?_
          rintro e w' ⟨rfl, rfl⟩
          go_wp2_with fail
          refine (HN1.out w2).mono ?_
          rintro e w' ⟨rfl, rfl⟩
          go_wp2
          go_ret2
          rw [HR.out]
          exact ⟨rfl, below_trans b1 (b2)⟩
      · have HR := Lib.hid (show C = (T, true) by
          rw [HC.out]
          by_cases hz : s1 = 0 ∧ s2 = 0
          · rw [if_neg (by decide), if_pos hz, same.out rfl hz.1 hz.2]
          · rw [if_neg (by decide), if_neg hz])
        clear HC HTT same
        go_enter Tryd.func16, Tryd.ntmps16
        go_wp2_with fail
        refine (HX.out w).mono ?_
        rintro e w1 ⟨rfl, b1⟩
        go_wp2_with fail
        refine (HY.out w1).mono ?_
        rintro e w2 ⟨rfl, b2⟩
        go_wp2_with fail
        refine (HN1.out w2).mono ?_
        rintro e w' ⟨rfl, rfl⟩
        go_wp2_with fail
        refine (HN2.out w2).mono ?_
        rintro e w' ⟨rfl, rfl⟩
        go_wp2_with fail
        refine (HT.out w2).mono ?_
        rintro e w' ⟨rfl, rfl⟩
        go_wp2
        go_ret2
        rw [HR.out]
        exact ⟨rfl, below_trans b1 (b2)⟩
    · have HR := Lib.hid (show C = (0, false) by rw [HC.out]; rfl)
      clear HC HTT same
      go_enter Tryd.func16, Tryd.ntmps16
      go_wp2_with fail
      refine (HX.out w).mono ?_
      rintro e w1 ⟨rfl, b1⟩
      go_wp2_with fail
      refine (HY.out w1).mono ?_
      rintro e w2 ⟨rfl, b2⟩
      go_wp2
      go_ret2
      rw [HR.out]
      exact ⟨rfl, below_trans b1 (b2)⟩
  · have HR := Lib.hid (show C = (0, false) by rw [HC.out]; rfl)
    clear HC HTT same
    go_enter Tryd.func16, Tryd.ntmps16
    go_wp2_with fail
    refine (HX.out w).mono ?_
    rintro e w1 ⟨rfl, b1⟩
    go_wp2
    go_ret2
    rw [HR.out]
    exact ⟨rfl, b1⟩

theorem rnext_calls (W : Nat) (hW : Wide W) (x : Int) (hx : 0 ≤ x ∧ x < 2 ^ W) (w : World) :
    Calls Tryd.prog 21 #[.int .i64 W, .int .u64 x] w (fun e w' => e = .returned (.int .u64 (nextW W x)) ∧ Below w.heap.size w w') := by
  have hx64 : 0 ≤ x ∧ x < 18446744073709551616 := by rcases hW with rfl | rfl | rfl <;> exact ⟨hx.1, Int.lt_of_lt_of_le hx.2 (by decide)⟩
  have HZ := Lib.hid (rsize_calls W hW x hx64)
  have HI := Lib.hid (rinf_calls W hW)
  have HN := Lib.hid (rneg_calls W hW x)
  have HC := Lib.hid (show nextW W x = if infW W < sizeW W x ∨ x = infW W then x else if sizeW W x = 0 then 1 else if negW W x then x - 1 else x + 1 from rfl)
  have hneg : negW W x = true → 1 ≤ x := by
    intro h
    have h1 : sgnW W ≤ x := of_decide_eq_true h
    have h2 : 0 < sgnW W := Int.pow_pos (by omega)
    omega
  have hpos : negW W x = false → x + 1 < 18446744073709551616 := by
    intro h
    have h1 : ¬ sgnW W ≤ x := of_decide_eq_false h
    have h2 : sgnW W ≤ 9223372036854775808 := by rcases hW with rfl | rfl | rfl <;> decide
    omega
  clear hW
  generalize nextW W x = C at *
  generalize infW W = I at *
  generalize sizeW W x = z at *
  generalize negW W x = n at *
  by_cases t1 : I < z
  · have HR := Lib.hid (show C = x by rw [HC.out, if_pos (.inl t1)])
    clear HC
    go_enter Tryd.func21, Tryd.ntmps21
    go_wp2_with fail
    refine (HZ.out w).mono ?_
    rintro e w' ⟨rfl, rfl⟩
    go_wp2_with fail
    refine (HI.out w).mono ?_
    rintro e w1 ⟨rfl, b1⟩
    go_wp2
    go_ret
    rw [HR.out]
    exact ⟨rfl, b1⟩
  · by_cases t2 : x = I
    · have HR := Lib.hid (show C = x by rw [HC.out, if_pos (.inr t2)])
      have t2' : (x == I) = true := by simpa using t2
      clear HC t2
      go_enter Tryd.func21, Tryd.ntmps21
      go_wp2_with fail
      refine (HZ.out w).mono ?_
      rintro e w' ⟨rfl, rfl⟩
      go_wp2_with fail
      refine (HI.out w).mono ?_
      rintro e w1 ⟨rfl, b1⟩
      go_wp2_with fail
      refine (HI.out w1).mono ?_
      rintro e w2 ⟨rfl, b2⟩
      go_wp2
      go_ret
      rw [HR.out]
      exact ⟨rfl, below_trans b1 (b2)⟩
    · have t2' : (x == I) = false := by simpa using t2
      have hor : ¬ (I < z ∨ x = I) := fun h => h.elim t1 t2
      clear t2
      by_cases t3 : z = 0
      · have HR := Lib.hid (show C = 1 by rw [HC.out, if_neg hor, if_pos t3])
        have t3' : (z == 0) = true := by simpa using t3
        clear HC t3 hor
        go_enter Tryd.func21, Tryd.ntmps21
        go_wp2_with fail
        refine (HZ.out w).mono ?_
        rintro e w' ⟨rfl, rfl⟩
        go_wp2_with fail
        refine (HI.out w).mono ?_
        rintro e w1 ⟨rfl, b1⟩
        go_wp2_with fail
        refine (HI.out w1).mono ?_
        rintro e w2 ⟨rfl, b2⟩
        go_wp2
        go_ret
        rw [HR.out]
        exact ⟨rfl, below_trans b1 (b2)⟩
      · have t3' : (z == 0) = false := by simpa using t3
        cases n
        · have HR := Lib.hid (show C = x + 1 by rw [HC.out, if_neg hor, if_neg t3, if_neg (by decide)])
          have W1 : IntKind.u64.wrap (x + 1) = x + 1 := by rw [IntKind.wrap_u64]; have := hpos rfl; omega
          have W2 : (x + 1) % 18446744073709551616 = x + 1 := by have := hpos rfl; omega
          clear HC t3 hor hneg hpos
          go_enter Tryd.func21, Tryd.ntmps21
          go_wp2_with fail
          refine (HZ.out w).mono ?_
          rintro e w' ⟨rfl, rfl⟩
          go_wp2_with fail
          refine (HI.out w).mono ?_
          rintro e w1 ⟨rfl, b1⟩
          go_wp2_with fail
          refine (HI.out w1).mono ?_
          rintro e w2 ⟨rfl, b2⟩
          go_wp2_with fail
          refine (HN.out w2).mono ?_
          rintro e w' ⟨rfl, rfl⟩
          go_wp2
          go_ret
          rw [HR.out]
          exact ⟨rfl, below_trans b1 (b2)⟩
        · have HR := Lib.hid (show C = x - 1 by rw [HC.out, if_neg hor, if_neg t3, if_pos rfl])
          have W1 : IntKind.u64.wrap (x - 1) = x - 1 := by rw [IntKind.wrap_u64]; have := hneg rfl; omega
          have W2 : (x - 1) % 18446744073709551616 = x - 1 := by have := hneg rfl; omega
          clear HC t3 hor hneg hpos
          go_enter Tryd.func21, Tryd.ntmps21
          go_wp2_with fail
          refine (HZ.out w).mono ?_
          rintro e w' ⟨rfl, rfl⟩
          go_wp2_with fail
          refine (HI.out w).mono ?_
          rintro e w1 ⟨rfl, b1⟩
          go_wp2_with fail
          refine (HI.out w1).mono ?_
          rintro e w2 ⟨rfl, b2⟩
          go_wp2_with fail
          refine (HN.out w2).mono ?_
          rintro e w' ⟨rfl, rfl⟩
          go_wp2
          go_ret
          rw [HR.out]
          exact ⟨rfl, below_trans b1 (b2)⟩
end Go.Proofs.YtmnabilgpndjmaaDoor
