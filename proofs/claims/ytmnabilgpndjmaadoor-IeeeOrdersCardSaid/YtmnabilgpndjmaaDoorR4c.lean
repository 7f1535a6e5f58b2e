/- crucibleref04: Class, Total, Cmp, Next. -/
import Derived.Test.YtmnabilgpndjmaaDoorR4b
set_option linter.unusedVariables false
set_option linter.unusedSimpArgs false
namespace Go.Proofs.YtmnabilgpndjmaaDoor
open Go.RowKit

def clsW (W : Nat) (x : Int) : Int := if infW W < sizeW W x then 5 else if sizeW W x = infW W then 4 else if sizeW W x = 0 then 1 else if sizeW W x < 2 ^ shF W then 2 else 3

theorem rclass_calls (W : Nat) (hW : Wide W) (x : Int) (hx : 0 ≤ x ∧ x < 18446744073709551616) (w : World) :
    Calls Tryd.prog 30 #[.int .i64 W, .int .u64 x] w (fun e w' => e = .returned (.int .i8 (clsW W x)) ∧ Below w.heap.size w w') := by
  have h1 := Lib.hid (rsize_calls W hW x hx w)
  have h2 := Lib.hid (rinf_calls W hW)
  have h3 := Lib.hid (rof_calls W hW)
  have h4 := Lib.hid (rtwo_calls (shF W) (by rcases hW with rfl | rfl | rfl <;> decide))
  have hf0 : ∀ (a b c : Int) w, (Instr.field 113 (.agg #[.int .i64 a, .int .i64 b, .int .i64 c]) 0).run Tryd.prog w = .ok (.int .i64 a) w := fun _ _ _ _ => by kernel_rfl
  have HC := Lib.hid (show clsW W x = if infW W < sizeW W x then 5 else if sizeW W x = infW W then 4 else if sizeW W x = 0 then 1 else if sizeW W x < 2 ^ shF W then 2 else 3 from rfl)
  clear hW
  generalize clsW W x = C at *
  generalize sizeW W x = z at *
  generalize infW W = I at *
  generalize shF W = F at *
  generalize shL W = L at *
  generalize topW W = T at *
  obtain ⟨P, hP⟩ : ∃ P : Int, 2 ^ F = P := ⟨_, rfl⟩
  rw [hP] at h4 HC
  clear hP
  by_cases t1 : I < z
  · have HR := Lib.hid (show C = 5 by rw [HC.out, if_pos t1])
    go_enter Tryd.func30, Tryd.ntmps30
    go_wp2_with fail
    refine (h1.out).mono ?_
    rintro e w' ⟨rfl, rfl⟩
    go_wp2_with fail
    refine (h2.out w).mono ?_
    rintro e w1 ⟨rfl, b1⟩
    go_wp2
    go_ret
    rw [HR.out]
    exact ⟨rfl, b1⟩
  · by_cases t2 : z = I
    · have HR := Lib.hid (show C = 4 by rw [HC.out, if_neg t1, if_pos t2])
      have t2' : (z == I) = true := by simpa using t2
      clear t2
      go_enter Tryd.func30, Tryd.ntmps30
      go_wp2_with fail
      refine (h1.out).mono ?_
      rintro e w' ⟨rfl, rfl⟩
      go_wp2_with fail
      refine (h2.out w).mono ?_
      rintro e w1 ⟨rfl, b1⟩
      go_wp2_with fail
      refine (h2.out w1).mono ?_
      rintro e w2 ⟨rfl, b2⟩
      go_wp2
      go_ret
      rw [HR.out]
      exact ⟨rfl, below_trans b1 b2⟩
    · have t2' : (z == I) = false := by simpa using t2
      by_cases t3 : z = 0
      · have HR := Lib.hid (show C = 1 by rw [HC.out, if_neg t1, if_neg t2, if_pos t3])
        have t3' : (z == 0) = true := by simpa using t3
        clear t3 t2
        go_enter Tryd.func30, Tryd.ntmps30
        go_wp2_with fail
        refine (h1.out).mono ?_
        rintro e w' ⟨rfl, rfl⟩
        go_wp2_with fail
        refine (h2.out w).mono ?_
        rintro e w1 ⟨rfl, b1⟩
        go_wp2_with fail
        refine (h2.out w1).mono ?_
        rintro e w2 ⟨rfl, b2⟩
        go_wp2
        go_ret
        rw [HR.out]
        exact ⟨rfl, below_trans b1 b2⟩
      · have t3' : (z == 0) = false := by simpa using t3
        by_cases t4 : z < P
        · have HR := Lib.hid (show C = 2 by rw [HC.out, if_neg t1, if_neg t2, if_neg t3, if_pos t4])
          clear t3 t2
          go_enter Tryd.func30, Tryd.ntmps30
          go_wp2_with fail
          refine (h1.out).mono ?_
          rintro e w' ⟨rfl, rfl⟩
          go_wp2_with fail
          refine (h2.out w).mono ?_
          rintro e w1 ⟨rfl, b1⟩
          go_wp2_with fail
          refine (h2.out w1).mono ?_
          rintro e w2 ⟨rfl, b2⟩
          go_wp2_with fail
          refine (h3.out w2).mono ?_
          rintro e w3 ⟨rfl, b3⟩
          go_wp2_with fail
          refine (h4.out w3).mono ?_
          rintro e w4 ⟨rfl, rfl⟩
          go_wp2
          go_ret
          rw [HR.out]
          exact ⟨rfl, below_trans b1 (below_trans b2 b3)⟩
        · have HR := Lib.hid (show C = 3 by rw [HC.out, if_neg t1, if_neg t2, if_neg t3, if_neg t4])
          clear t3 t2
          go_enter Tryd.func30, Tryd.ntmps30
          go_wp2_with fail
          refine (h1.out).mono ?_
          rintro e w' ⟨rfl, rfl⟩
          go_wp2_with fail
          refine (h2.out w).mono ?_
          rintro e w1 ⟨rfl, b1⟩
          go_wp2_with fail
          refine (h2.out w1).mono ?_
          rintro e w2 ⟨rfl, b2⟩
          go_wp2_with fail
          refine (h3.out w2).mono ?_
          rintro e w3 ⟨rfl, b3⟩
          go_wp2_with fail
          refine (h4.out w3).mono ?_
          rintro e w4 ⟨rfl, rfl⟩
          go_wp2
          go_ret
          rw [HR.out]
          exact ⟨rfl, below_trans b1 (below_trans b2 b3)⟩

theorem rtotal_calls (W : Nat) (hW : Wide W) (x y : Int) (w : World) :
    Calls Tryd.prog 19 #[.int .i64 W, .int .u64 x, .int .u64 y] w (fun e w' => e = .returned (.int .i64 (totalW W x y)) ∧ w = w') := by
  have h1 := Lib.hid (rneg_calls W hW x)
  have h2 := Lib.hid (rneg_calls W hW y)
  have HT := Lib.hid (show totalW W x y = if negW W x then (if negW W y then cmpI y x else -1) else (if negW W y then 1 else cmpI x y) from rfl)
  clear hW
  generalize totalW W x y = T at *
  generalize negW W x = n1 at *
  generalize negW W y = n2 at *
  cases n1 <;> cases n2
  · rcases Int.lt_trichotomy x y with t | t | t
    · have HR := Lib.hid (show T = -1 by rw [HT.out]; exact cmpI_lt t)
      have t' : ¬ y < x := by omega
      clear HT
      go_enter Tryd.func19, Tryd.ntmps19
      go_wp2_with fail
      refine (h1.out w).mono ?_
      rintro e w' ⟨rfl, rfl⟩
      go_wp2_with fail
      refine (h2.out w).mono ?_
      rintro e w' ⟨rfl, rfl⟩
      go_wp2_with fail
      refine (h1.out w).mono ?_
      rintro e w' ⟨rfl, rfl⟩
      go_wp2
      go_ret
      rw [HR.out]
      exact ⟨rfl, rfl⟩
    · have HR := Lib.hid (show T = 0 by rw [HT.out]; exact cmpI_eq t)
      have t' : ¬ y < x := by omega
      have t'' : ¬ x < y := by omega
      clear HT t
      go_enter Tryd.func19, Tryd.ntmps19
      go_wp2_with fail
      refine (h1.out w).mono ?_
      rintro e w' ⟨rfl, rfl⟩
      go_wp2_with fail
      refine (h2.out w).mono ?_
      rintro e w' ⟨rfl, rfl⟩
      go_wp2_with fail
      refine (h1.out w).mono ?_
      rintro e w' ⟨rfl, rfl⟩
      go_wp2
      go_ret
      rw [HR.out]
      exact ⟨rfl, rfl⟩
    · have HR := Lib.hid (show T = 1 by rw [HT.out]; exact cmpI_gt t)
      have t' : ¬ x < y := by omega
      clear HT
      go_enter Tryd.func19, Tryd.ntmps19
      go_wp2_with fail
      refine (h1.out w).mono ?_
      rintro e w' ⟨rfl, rfl⟩
      go_wp2_with fail
      refine (h2.out w).mono ?_
      rintro e w' ⟨rfl, rfl⟩
      go_wp2_with fail
      refine (h1.out w).mono ?_
      rintro e w' ⟨rfl, rfl⟩
      go_wp2
      go_ret
      rw [HR.out]
      exact ⟨rfl, rfl⟩
  · have HR := Lib.hid (show T = 1 by rw [HT.out]; rfl)
    clear HT
    go_enter Tryd.func19, Tryd.ntmps19
    go_wp2_with fail
    refine (h1.out w).mono ?_
    rintro e w' ⟨rfl, rfl⟩
    go_wp2_with fail
    refine (h2.out w).mono ?_
    rintro e w' ⟨rfl, rfl⟩
    go_wp2_with fail
    refine (h1.out w).mono ?_
    rintro e w' ⟨rfl, rfl⟩
    go_wp2
    go_ret
    rw [HR.out]
    exact ⟨rfl, rfl⟩
  · have HR := Lib.hid (show T = -1 by rw [HT.out]; rfl)
    clear HT
    go_enter Tryd.func19, Tryd.ntmps19
    go_wp2_with fail
    refine (h1.out w).mono ?_
    rintro e w' ⟨rfl, rfl⟩
    go_wp2_with fail
    refine (h2.out w).mono ?_
    rintro e w' ⟨rfl, rfl⟩
    go_wp2_with fail
    refine (h1.out w).mono ?_
    rintro e w' ⟨rfl, rfl⟩
    go_wp2
    go_ret
    rw [HR.out]
    exact ⟨rfl, rfl⟩
  · rcases Int.lt_trichotomy x y with t | t | t
    · have HR := Lib.hid (show T = 1 by rw [HT.out]; exact cmpI_gt t)
      have t' : ¬ y < x := by omega
      clear HT
      go_enter Tryd.func19, Tryd.ntmps19
      go_wp2_with fail
      refine (h1.out w).mono ?_
      rintro e w' ⟨rfl, rfl⟩
      go_wp2_with fail
      refine (h2.out w).mono ?_
      rintro e w' ⟨rfl, rfl⟩
      go_wp2_with fail
      refine (h1.out w).mono ?_
      rintro e w' ⟨rfl, rfl⟩
      go_wp2
      go_ret
      rw [HR.out]
      exact ⟨by first | rfl | simp, rfl⟩
    · have HR := Lib.hid (show T = 0 by rw [HT.out]; exact cmpI_eq t.symm)
      have t' : ¬ y < x := by omega
      have t'' : ¬ x < y := by omega
      clear HT t
      go_enter Tryd.func19, Tryd.ntmps19
      go_wp2_with fail
      refine (h1.out w).mono ?_
      rintro e w' ⟨rfl, rfl⟩
      go_wp2_with fail
      refine (h2.out w).mono ?_
      rintro e w' ⟨rfl, rfl⟩
      go_wp2_with fail
      refine (h1.out w).mono ?_
      rintro e w' ⟨rfl, rfl⟩
      go_wp2
      go_ret
      rw [HR.out]
      exact ⟨by first | rfl | simp, rfl⟩
    · have HR := Lib.hid (show T = -1 by rw [HT.out]; exact cmpI_lt t)
      have t' : ¬ x < y := by omega
      clear HT
      go_enter Tryd.func19, Tryd.ntmps19
      go_wp2_with fail
      refine (h1.out w).mono ?_
      rintro e w' ⟨rfl, rfl⟩
      go_wp2_with fail
      refine (h2.out w).mono ?_
      rintro e w' ⟨rfl, rfl⟩
      go_wp2_with fail
      refine (h1.out w).mono ?_
      rintro e w' ⟨rfl, rfl⟩
      go_wp2
      go_ret
      rw [HR.out]
      exact ⟨by first | rfl | simp, rfl⟩
end Go.Proofs.YtmnabilgpndjmaaDoor
