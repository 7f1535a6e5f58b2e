/- Contracts of functions, and plain facts, part 8. -/
import Derived.IntWalk
import Derived.Deep.DeepCutAuto
import Derived.Test.YtmnabilgpndjmaaDoorPk5
import Derived.Test.YtmnabilgpndjmaaDoorPk6
import Derived.Test.YtmnabilgpndjmaaDoorPk7
set_option linter.unusedVariables false
set_option linter.unusedSimpArgs false
/- Printed by ieee3.py. -/
namespace Go.Proofs.YtmnabilgpndjmaaDoor
open Go.RowKit

theorem rnumber_16 (z : Int) (hz : 0 ≤ z ∧ z < 18446744073709551616) (w : World) : Calls Tryd.prog 74 #[.int .i64 16, .int .u64 z] w (fun e w' => e = .returned (.tuple #[.int .u64 (numM 10 z.toNat : Nat), .int .i64 (-24 + (numP 10 z.toNat : Nat))]) ∧ Below w.heap.size w w') := by
  have h1 := Lib.hid (rof_16)
  have h2 := Lib.hid (rtwo_10)
  by_cases hlt : z < 1024
  · have HM := Lib.hid (show ((numM 10 z.toNat : Nat) : Int) = z by unfold numM; rw [if_pos (by rw [show (2 : Nat) ^ 10 = 1024 from by decide]; omega)]; omega)
    have HP := Lib.hid (show (-24 : Int) + ((numP 10 z.toNat : Nat) : Int) = -24 by unfold numP; rw [if_pos (by rw [show (2 : Nat) ^ 10 = 1024 from by decide]; omega)]; rfl)
    go_enter Tryd.func74, Tryd.ntmps74
    go_wp2_with fail
    refine (h1.out w).mono ?_
    rintro e w1 ⟨rfl, b1⟩
    have bA : Below w1.heap.size w1 (w1.alloc (.cells #[.int .i64 10, .int .i64 (-24), .int .i64 31] 113)) := (Below.refl _ _).alloc (Nat.le_refl _) _
    have c0 : (w1.alloc (.cells #[.int .i64 10, .int .i64 (-24), .int .i64 31] 113)).cell? ⟨w1.heap.size, 0, none⟩ = some (.int .i64 10) := World.cell?_alloc_at _ _ _ _ rfl
    have c1 : (w1.alloc (.cells #[.int .i64 10, .int .i64 (-24), .int .i64 31] 113)).cell? ⟨w1.heap.size, 1, none⟩ = some (.int .i64 (-24)) := World.cell?_alloc_at _ _ _ _ rfl
    go_wp2_with fail
    refine (h2.out _).mono ?_
    rintro e w2 ⟨rfl, rfl⟩
    go_wp2_with fail
    go_quiet (fail)
    go_wp2
    go_ret2
    rw [HM.out, HP.out]
    exact ⟨by first | rfl | simp, below_drewN (below_trans b1 bA) _⟩
  · have HM := Lib.hid (show ((numM 10 z.toNat : Nat) : Int) = 1024 + z % 1024 by unfold numM; rw [if_neg (by rw [show (2 : Nat) ^ 10 = 1024 from by decide]; omega), show (2 : Nat) ^ 10 = 1024 from by decide]; omega)
    have HP := Lib.hid (show (-24 : Int) + ((numP 10 z.toNat : Nat) : Int) = -24 - 1 + z / 1024 by unfold numP; rw [if_neg (by rw [show (2 : Nat) ^ 10 = 1024 from by decide]; omega), show (2 : Nat) ^ 10 = 1024 from by decide]; omega)
    have W1 : IntKind.u64.wrap (1024 + z % 1024) = 1024 + z % 1024 := by rw [IntKind.wrap_u64]; omega
    have W2 : z.tmod 1024 = z % 1024 := Int.tmod_eq_emod_of_nonneg (by omega)
    have W3 : z.tdiv 1024 = z / 1024 := Int.tdiv_eq_ediv_of_nonneg (by omega)
    have W4 : IntKind.i64.wrap (z / 1024) = z / 1024 := IntWalk.i64_in _ (by omega)
    have W5 : IntKind.i64.wrap (-25 + z / 1024) = -25 + z / 1024 := IntWalk.i64_in _ (by omega)
    have W6 : (1024 + z % 1024) % 18446744073709551616 = 1024 + z % 1024 := by omega
    go_enter Tryd.func74, Tryd.ntmps74
    go_wp2_with fail
    refine (h1.out w).mono ?_
    rintro e w1 ⟨rfl, b1⟩
    have bA : Below w1.heap.size w1 (w1.alloc (.cells #[.int .i64 10, .int .i64 (-24), .int .i64 31] 113)) := (Below.refl _ _).alloc (Nat.le_refl _) _
    have c0 : (w1.alloc (.cells #[.int .i64 10, .int .i64 (-24), .int .i64 31] 113)).cell? ⟨w1.heap.size, 0, none⟩ = some (.int .i64 10) := World.cell?_alloc_at _ _ _ _ rfl
    have c1 : (w1.alloc (.cells #[.int .i64 10, .int .i64 (-24), .int .i64 31] 113)).cell? ⟨w1.heap.size, 1, none⟩ = some (.int .i64 (-24)) := World.cell?_alloc_at _ _ _ _ rfl
    go_wp2_with fail
    refine (h2.out _).mono ?_
    rintro e w2 ⟨rfl, rfl⟩
    go_wp2_with fail
    go_quiet (fail)
    go_wp2
    go_ret2
    rw [HM.out, HP.out]
    exact ⟨by first | rfl | simp, below_drewN (below_trans b1 bA) _⟩

theorem rnumber_32 (z : Int) (hz : 0 ≤ z ∧ z < 18446744073709551616) (w : World) : Calls Tryd.prog 74 #[.int .i64 32, .int .u64 z] w (fun e w' => e = .returned (.tuple #[.int .u64 (numM 23 z.toNat : Nat), .int .i64 (-149 + (numP 23 z.toNat : Nat))]) ∧ Below w.heap.size w w') := by
  have h1 := Lib.hid (rof_32)
  have h2 := Lib.hid (rtwo_23)
  by_cases hlt : z < 8388608
  · have HM := Lib.hid (show ((numM 23 z.toNat : Nat) : Int) = z by unfold numM; rw [if_pos (by rw [show (2 : Nat) ^ 23 = 8388608 from by decide]; omega)]; omega)
    have HP := Lib.hid (show (-149 : Int) + ((numP 23 z.toNat : Nat) : Int) = -149 by unfold numP; rw [if_pos (by rw [show (2 : Nat) ^ 23 = 8388608 from by decide]; omega)]; rfl)
    go_enter Tryd.func74, Tryd.ntmps74
    go_wp2_with fail
    refine (h1.out w).mono ?_
    rintro e w1 ⟨rfl, b1⟩
    have bA : Below w1.heap.size w1 (w1.alloc (.cells #[.int .i64 23, .int .i64 (-149), .int .i64 255] 113)) := (Below.refl _ _).alloc (Nat.le_refl _) _
    have c0 : (w1.alloc (.cells #[.int .i64 23, .int .i64 (-149), .int .i64 255] 113)).cell? ⟨w1.heap.size, 0, none⟩ = some (.int .i64 23) := World.cell?_alloc_at _ _ _ _ rfl
    have c1 : (w1.alloc (.cells #[.int .i64 23, .int .i64 (-149), .int .i64 255] 113)).cell? ⟨w1.heap.size, 1, none⟩ = some (.int .i64 (-149)) := World.cell?_alloc_at _ _ _ _ rfl
    go_wp2_with fail
    refine (h2.out _).mono ?_
    rintro e w2 ⟨rfl, rfl⟩
    go_wp2_with fail
    go_quiet (fail)
    go_wp2
    go_ret2
    rw [HM.out, HP.out]
    exact ⟨by first | rfl | simp, below_drewN (below_trans b1 bA) _⟩
  · have HM := Lib.hid (show ((numM 23 z.toNat : Nat) : Int) = 8388608 + z % 8388608 by unfold numM; rw [if_neg (by rw [show (2 : Nat) ^ 23 = 8388608 from by decide]; omega), show (2 : Nat) ^ 23 = 8388608 from by decide]; omega)
    have HP := Lib.hid (show (-149 : Int) + ((numP 23 z.toNat : Nat) : Int) = -149 - 1 + z / 8388608 by unfold numP; rw [if_neg (by rw [show (2 : Nat) ^ 23 = 8388608 from by decide]; omega), show (2 : Nat) ^ 23 = 8388608 from by decide]; omega)
    have W1 : IntKind.u64.wrap (8388608 + z % 8388608) = 8388608 + z % 8388608 := by rw [IntKind.wrap_u64]; omega
    have W2 : z.tmod 8388608 = z % 8388608 := Int.tmod_eq_emod_of_nonneg (by omega)
    have W3 : z.tdiv 8388608 = z / 8388608 := Int.tdiv_eq_ediv_of_nonneg (by omega)
    have W4 : IntKind.i64.wrap (z / 8388608) = z / 8388608 := IntWalk.i64_in _ (by omega)
    have W5 : IntKind.i64.wrap (-150 + z / 8388608) = -150 + z / 8388608 := IntWalk.i64_in _ (by omega)
    have W6 : (8388608 + z % 8388608) % 18446744073709551616 = 8388608 + z % 8388608 := by omega
    go_enter Tryd.func74, Tryd.ntmps74
    go_wp2_with fail
    refine (h1.out w).mono ?_
    rintro e w1 ⟨rfl, b1⟩
    have bA : Below w1.heap.size w1 (w1.alloc (.cells #[.int .i64 23, .int .i64 (-149), .int .i64 255] 113)) := (Below.refl _ _).alloc (Nat.le_refl _) _
    have c0 : (w1.alloc (.cells #[.int .i64 23, .int .i64 (-149), .int .i64 255] 113)).cell? ⟨w1.heap.size, 0, none⟩ = some (.int .i64 23) := World.cell?_alloc_at _ _ _ _ rfl
    have c1 : (w1.alloc (.cells #[.int .i64 23, .int .i64 (-149), .int .i64 255] 113)).cell? ⟨w1.heap.size, 1, none⟩ = some (.int .i64 (-149)) := World.cell?_alloc_at _ _ _ _ rfl
    go_wp2_with fail
    refine (h2.out _).mono ?_
    rintro e w2 ⟨rfl, rfl⟩
    go_wp2_with fail
    go_quiet (fail)
    go_wp2
    go_ret2
    rw [HM.out, HP.out]
    exact ⟨by first | rfl | simp, below_drewN (below_trans b1 bA) _⟩

theorem rnumber_64 (z : Int) (hz : 0 ≤ z ∧ z < 18446744073709551616) (w : World) : Calls Tryd.prog 74 #[.int .i64 64, .int .u64 z] w (fun e w' => e = .returned (.tuple #[.int .u64 (numM 52 z.toNat : Nat), .int .i64 (-1074 + (numP 52 z.toNat : Nat))]) ∧ Below w.heap.size w w') := by
  have h1 := Lib.hid (rof_64)
  have h2 := Lib.hid (rtwo_52)
  by_cases hlt : z < 4503599627370496
  · have HM := Lib.hid (show ((numM 52 z.toNat : Nat) : Int) = z by unfold numM; rw [if_pos (by rw [show (2 : Nat) ^ 52 = 4503599627370496 from by decide]; omega)]; omega)
    have HP := Lib.hid (show (-1074 : Int) + ((numP 52 z.toNat : Nat) : Int) = -1074 by unfold numP; rw [if_pos (by rw [show (2 : Nat) ^ 52 = 4503599627370496 from by decide]; omega)]; rfl)
    go_enter Tryd.func74, Tryd.ntmps74
    go_wp2_with fail
    refine (h1.out w).mono ?_
    rintro e w1 ⟨rfl, b1⟩
    have bA : Below w1.heap.size w1 (w1.alloc (.cells #[.int .i64 52, .int .i64 (-1074), .int .i64 2047] 113)) := (Below.refl _ _).alloc (Nat.le_refl _) _
    have c0 : (w1.alloc (.cells #[.int .i64 52, .int .i64 (-1074), .int .i64 2047] 113)).cell? ⟨w1.heap.size, 0, none⟩ = some (.int .i64 52) := World.cell?_alloc_at _ _ _ _ rfl
    have c1 : (w1.alloc (.cells #[.int .i64 52, .int .i64 (-1074), .int .i64 2047] 113)).cell? ⟨w1.heap.size, 1, none⟩ = some (.int .i64 (-1074)) := World.cell?_alloc_at _ _ _ _ rfl
    go_wp2_with fail
    refine (h2.out _).mono ?_
    rintro e w2 ⟨rfl, rfl⟩
    go_wp2_with fail
    go_quiet (fail)
    go_wp2
    go_ret2
    rw [HM.out, HP.out]
    exact ⟨by first | rfl | simp, below_drewN (below_trans b1 bA) _⟩
  · have HM := Lib.hid (show ((numM 52 z.toNat : Nat) : Int) = 4503599627370496 + z % 4503599627370496 by unfold numM; rw [if_neg (by rw [show (2 : Nat) ^ 52 = 4503599627370496 from by decide]; omega), show (2 : Nat) ^ 52 = 4503599627370496 from by decide]; omega)
    have HP := Lib.hid (show (-1074 : Int) + ((numP 52 z.toNat : Nat) : Int) = -1074 - 1 + z / 4503599627370496 by unfold numP; rw [if_neg (by rw [show (2 : Nat) ^ 52 = 4503599627370496 from by decide]; omega), show (2 : Nat) ^ 52 = 4503599627370496 from by decide]; omega)
    have W1 : IntKind.u64.wrap (4503599627370496 + z % 4503599627370496) = 4503599627370496 + z % 4503599627370496 := by rw [IntKind.wrap_u64]; omega
    have W2 : z.tmod 4503599627370496 = z % 4503599627370496 := Int.tmod_eq_emod_of_nonneg (by omega)
    have W3 : z.tdiv 4503599627370496 = z / 4503599627370496 := Int.tdiv_eq_ediv_of_nonneg (by omega)
    have W4 : IntKind.i64.wrap (z / 4503599627370496) = z / 4503599627370496 := IntWalk.i64_in _ (by omega)
    have W5 : IntKind.i64.wrap (-1075 + z / 4503599627370496) = -1075 + z / 4503599627370496 := IntWalk.i64_in _ (by omega)
    have W6 : (4503599627370496 + z % 4503599627370496) % 18446744073709551616 = 4503599627370496 + z % 4503599627370496 := by omega
    go_enter Tryd.func74, Tryd.ntmps74
    go_wp2_with fail
    refine (h1.out w).mono ?_
    rintro e w1 ⟨rfl, b1⟩
    have bA : Below w1.heap.size w1 (w1.alloc (.cells #[.int .i64 52, .int .i64 (-1074), .int .i64 2047] 113)) := (Below.refl _ _).alloc (Nat.le_refl _) _
    have c0 : (w1.alloc (.cells #[.int .i64 52, .int .i64 (-1074), .int .i64 2047] 113)).cell? ⟨w1.heap.size, 0, none⟩ = some (.int .i64 52) := World.cell?_alloc_at _ _ _ _ rfl
    have c1 : (w1.alloc (.cells #[.int .i64 52, .int .i64 (-1074), .int .i64 2047] 113)).cell? ⟨w1.heap.size, 1, none⟩ = some (.int .i64 (-1074)) := World.cell?_alloc_at _ _ _ _ rfl
    go_wp2_with fail
    refine (h2.out _).mono ?_
    rintro e w2 ⟨rfl, rfl⟩
    go_wp2_with fail
    go_quiet (fail)
    go_wp2
    go_ret2
    rw [HM.out, HP.out]
    exact ⟨by first | rfl | simp, below_drewN (below_trans b1 bA) _⟩

theorem rnumber_calls (W : Nat) (hW : Wide W) (z : Int) (hz : 0 ≤ z ∧ z < 18446744073709551616) (w : World) : Calls Tryd.prog 74 #[.int .i64 W, .int .u64 z] w (fun e w' => e = .returned (.tuple #[.int .u64 (numM (shF W) z.toNat : Nat), .int .i64 (shL W + (numP (shF W) z.toNat : Nat))]) ∧ Below w.heap.size w w') := by
  rcases hW with rfl | rfl | rfl
  · exact rnumber_16 z hz w
  · exact rnumber_32 z hz w
  · exact rnumber_64 z hz w
end Go.Proofs.YtmnabilgpndjmaaDoor

/- crucibleref04: Class, Total, Cmp, Next. -/
namespace Go.Proofs.YtmnabilgpndjmaaDoor
open Go.RowKit

theorem rclass_calls (W : Nat) (hW : Wide W) (x : Int) (hx : 0 ≤ x ∧ x < 18446744073709551616) (w : World) :
    Calls Tryd.prog 30 #[.int .i64 W, .int .u64 x] w (fun e w' => e = .returned (.int .i8 (clsW W x)) ∧ Below w.heap.size w w') := by
  have h1 := Lib.hid (rsize_calls W hW x hx w)
  have h2 := Lib.hid (rinf_calls W hW)
  have h3 := Lib.hid (rof_calls W hW)
  have h4 := Lib.hid (rtwo_calls (shF W) (by rcases hW with rfl | rfl | rfl <;> decide))
  have hf0 : ∀ (a b c : Int) w, (Instr.field 113 (.agg #[.int .i64 a, .int .i64 b, .int .i64 c]) 0).run Tryd.prog w = .ok (.int .i64 a) w := fun _ _ _ _ => by kernel_rfl
  have HC := Lib.hid (show clsW W x = if infW W < sizeW W x then 5 else if sizeW W x = infW W then 4 else if sizeW W x = 0 then 1 else if sizeW W x < 2 ^ shF W then 2 else 3 from rfl)
  clear hW
  generalize clsW W x = C at *
  generalize sizeW W x = z at *
  generalize infW W = I at *
  generalize shF W = F at *
  generalize shL W = L at *
  generalize topW W = T at *
  obtain ⟨P, hP⟩ : ∃ P : Int, 2 ^ F = P := ⟨_, rfl⟩
  rw [hP] at h4 HC
  clear hP
  by_cases t1 : I < z
  · have HR := Lib.hid (show C = 5 by rw [HC.out, if_pos t1])
    go_enter Tryd.func30, Tryd.ntmps30
    go_wp2_with fail
    refine (h1.out).mono ?_
    rintro e w' ⟨rfl, rfl⟩
    go_wp2_with fail
    refine (h2.out w).mono ?_
    rintro e w1 ⟨rfl, b1⟩
    go_wp2
    go_ret
    rw [HR.out]
    exact ⟨rfl, b1⟩
  · by_cases t2 : z = I
    · have HR := Lib.hid (show C = 4 by rw [HC.out, if_neg t1, if_pos t2])
      have t2' : (z == I) = true := by simpa using t2
      clear t2
      go_enter Tryd.func30, Tryd.ntmps30
      go_wp2_with fail
      refine (h1.out).mono ?_
      rintro e w' ⟨rfl, rfl⟩
      go_wp2_with fail
      refine (h2.out w).mono ?_
      rintro e w1 ⟨rfl, b1⟩
      go_wp2_with fail
      refine (h2.out w1).mono ?_
      rintro e w2 ⟨rfl, b2⟩
      go_wp2
      go_ret
      rw [HR.out]
      exact ⟨rfl, below_trans b1 b2⟩
    · have t2' : (z == I) = false := by simpa using t2
      by_cases t3 : z = 0
      · have HR := Lib.hid (show C = 1 by rw [HC.out, if_neg t1, if_neg t2, if_pos t3])
        have t3' : (z == 0) = true := by simpa using t3
        clear t3 t2
        go_enter Tryd.func30, Tryd.ntmps30
        go_wp2_with fail
        refine (h1.out).mono ?_
        rintro e w' ⟨rfl, rfl⟩
        go_wp2_with fail
        refine (h2.out w).mono ?_
        rintro e w1 ⟨rfl, b1⟩
        go_wp2_with fail
        refine (h2.out w1).mono ?_
        rintro e w2 ⟨rfl, b2⟩
        go_wp2
        go_ret
        rw [HR.out]
        exact ⟨rfl, below_trans b1 b2⟩
      · have t3' : (z == 0) = false := by simpa using t3
        by_cases t4 : z < P
        · have HR := Lib.hid (show C = 2 by rw [HC.out, if_neg t1, if_neg t2, if_neg t3, if_pos t4])
          clear t3 t2
          go_enter Tryd.func30, Tryd.ntmps30
          go_wp2_with fail
          refine (h1.out).mono ?_
          rintro e w' ⟨rfl, rfl⟩
          go_wp2_with fail
          refine (h2.out w).mono ?_
          rintro e w1 ⟨rfl, b1⟩
          go_wp2_with fail
          refine (h2.out w1).mono ?_
          rintro e w2 ⟨rfl, b2⟩
          go_wp2_with fail
          refine (h3.out w2).mono ?_
          rintro e w3 ⟨rfl, b3⟩
          go_wp2_with fail
          refine (h4.out w3).mono ?_
          rintro e w4 ⟨rfl, rfl⟩
          go_wp2
          go_ret
          rw [HR.out]
          exact ⟨rfl, below_trans b1 (below_trans b2 b3)⟩
        · have HR := Lib.hid (show C = 3 by rw [HC.out, if_neg t1, if_neg t2, if_neg t3, if_neg t4])
          clear t3 t2
          go_enter Tryd.func30, Tryd.ntmps30
          go_wp2_with fail
          refine (h1.out).mono ?_
          rintro e w' ⟨rfl, rfl⟩
          go_wp2_with fail
          refine (h2.out w).mono ?_
          rintro e w1 ⟨rfl, b1⟩
          go_wp2_with fail
          refine (h2.out w1).mono ?_
          rintro e w2 ⟨rfl, b2⟩
          go_wp2_with fail
          refine (h3.out w2).mono ?_
          rintro e w3 ⟨rfl, b3⟩
          go_wp2_with fail
          refine (h4.out w3).mono ?_
          rintro e w4 ⟨rfl, rfl⟩
          go_wp2
          go_ret
          rw [HR.out]
          exact ⟨rfl, below_trans b1 (below_trans b2 b3)⟩

theorem rtotal_calls (W : Nat) (hW : Wide W) (x y : Int) (w : World) :
    Calls Tryd.prog 19 #[.int .i64 W, .int .u64 x, .int .u64 y] w (fun e w' => e = .returned (.int .i64 (totalW W x y)) ∧ w = w') := by
  have h1 := Lib.hid (rneg_calls W hW x)
  have h2 := Lib.hid (rneg_calls W hW y)
  have HT := Lib.hid (show totalW W x y = if negW W x then (if negW W y then cmpI y x else -1) else (if negW W y then 1 else cmpI x y) from rfl)
  clear hW
  generalize totalW W x y = T at *
  generalize negW W x = n1 at *
  generalize negW W y = n2 at *
  cases n1 <;> cases n2
  · rcases Int.lt_trichotomy x y with t | t | t
    · have HR := Lib.hid (show T = -1 by rw [HT.out]; exact cmpI_lt t)
      have t' : ¬ y < x := by omega
      clear HT
      go_enter Tryd.func19, Tryd.ntmps19
      go_wp2_with fail
      refine (h1.out w).mono ?_
      rintro e w' ⟨rfl, rfl⟩
      go_wp2_with fail
      refine (h2.out w).mono ?_
      rintro e w' ⟨rfl, rfl⟩
      go_wp2_with fail
      refine (h1.out w).mono ?_
      rintro e w' ⟨rfl, rfl⟩
      go_wp2
      go_ret
      rw [HR.out]
      exact ⟨rfl, rfl⟩
    · have HR := Lib.hid (show T = 0 by rw [HT.out]; exact cmpI_eq t)
      have t' : ¬ y < x := by omega
      have t'' : ¬ x < y := by omega
      clear HT t
      go_enter Tryd.func19, Tryd.ntmps19
      go_wp2_with fail
      refine (h1.out w).mono ?_
      rintro e w' ⟨rfl, rfl⟩
      go_wp2_with fail
      refine (h2.out w).mono ?_
      rintro e w' ⟨rfl, rfl⟩
      go_wp2_with fail
      refine (h1.out w).mono ?_
      rintro e w' ⟨rfl, rfl⟩
      go_wp2
      go_ret
      rw [HR.out]
      exact ⟨rfl, rfl⟩
    · have HR := Lib.hid (show T = 1 by rw [HT.out]; exact cmpI_gt t)
      have t' : ¬ x < y := by omega
      clear HT
      go_enter Tryd.func19, Tryd.ntmps19
      go_wp2_with fail
      refine (h1.out w).mono ?_
      rintro e w' ⟨rfl, rfl⟩
      go_wp2_with fail
      refine (h2.out w).mono ?_
      rintro e w' ⟨rfl, rfl⟩
      go_wp2_with fail
      refine (h1.out w).mono ?_
      rintro e w' ⟨rfl, rfl⟩
      go_wp2
      go_ret
      rw [HR.out]
      exact ⟨rfl, rfl⟩
  · have HR := Lib.hid (show T = 1 by rw [HT.out]; rfl)
    clear HT
    go_enter Tryd.func19, Tryd.ntmps19
    go_wp2_with fail
    refine (h1.out w).mono ?_
    rintro e w' ⟨rfl, rfl⟩
    go_wp2_with fail
    refine (h2.out w).mono ?_
    rintro e w' ⟨rfl, rfl⟩
    go_wp2_with fail
    refine (h1.out w).mono ?_
    rintro e w' ⟨rfl, rfl⟩
    go_wp2
    go_ret
    rw [HR.out]
    exact ⟨rfl, rfl⟩
  · have HR := Lib.hid (show T = -1 by rw [HT.out]; rfl)
    clear HT
    go_enter Tryd.func19, Tryd.ntmps19
    go_wp2_with fail
    refine (h1.out w).mono ?_
    rintro e w' ⟨rfl, rfl⟩
    go_wp2_with fail
    refine (h2.out w).mono ?_
    rintro e w' ⟨rfl, rfl⟩
    go_wp2_with fail
    refine (h1.out w).mono ?_
    rintro e w' ⟨rfl, rfl⟩
    go_wp2
    go_ret
    rw [HR.out]
    exact ⟨rfl, rfl⟩
  · rcases Int.lt_trichotomy x y with t | t | t
    · have HR := Lib.hid (show T = 1 by rw [HT.out]; exact cmpI_gt t)
      have t' : ¬ y < x := by omega
      clear HT
      go_enter Tryd.func19, Tryd.ntmps19
      go_wp2_with fail
      refine (h1.out w).mono ?_
      rintro e w' ⟨rfl, rfl⟩
      go_wp2_with fail
      refine (h2.out w).mono ?_
      rintro e w' ⟨rfl, rfl⟩
      go_wp2_with fail
      refine (h1.out w).mono ?_
      rintro e w' ⟨rfl, rfl⟩
      go_wp2
      go_ret
      rw [HR.out]
      exact ⟨by first | rfl | simp, rfl⟩
    · have HR := Lib.hid (show T = 0 by rw [HT.out]; exact cmpI_eq t.symm)
      have t' : ¬ y < x := by omega
      have t'' : ¬ x < y := by omega
      clear HT t
      go_enter Tryd.func19, Tryd.ntmps19
      go_wp2_with fail
      refine (h1.out w).mono ?_
      rintro e w' ⟨rfl, rfl⟩
      go_wp2_with fail
      refine (h2.out w).mono ?_
      rintro e w' ⟨rfl, rfl⟩
      go_wp2_with fail
      refine (h1.out w).mono ?_
      rintro e w' ⟨rfl, rfl⟩
      go_wp2
      go_ret
      rw [HR.out]
      exact ⟨by first | rfl | simp, rfl⟩
    · have HR := Lib.hid (show T = -1 by rw [HT.out]; exact cmpI_lt t)
      have t' : ¬ x < y := by omega
      clear HT
      go_enter Tryd.func19, Tryd.ntmps19
      go_wp2_with fail
      refine (h1.out w).mono ?_
      rintro e w' ⟨rfl, rfl⟩
      go_wp2_with fail
      refine (h2.out w).mono ?_
      rintro e w' ⟨rfl, rfl⟩
      go_wp2_with fail
      refine (h1.out w).mono ?_
      rintro e w' ⟨rfl, rfl⟩
      go_wp2
      go_ret
      rw [HR.out]
      exact ⟨by first | rfl | simp, rfl⟩
end Go.Proofs.YtmnabilgpndjmaaDoor

/- A pattern in another width, and the nearest pattern to a whole number: plain definitions. -/
namespace Go.Proofs.YtmnabilgpndjmaaDoor

theorem pow_wide {W : Nat} (hW : Wide W) : (2 : Int) ^ W = sgnW W + sgnW W ∧ 0 < sgnW W ∧ (2 : Int) ^ W ≤ 18446744073709551616 := by rcases hW with rfl | rfl | rfl <;> decide
theorem roundW_bd {W : Nat} (hW : Wide W) (neg : Bool) (V p : Int) (more : Bool) : 0 ≤ roundW W neg V p more ∧ roundW W neg V p more < 2 ^ W := by
  have h1 := nearE_le W (rM V more) (rE p more)
  have h2 := infN_lt hW
  have h3 := pow_wide hW
  unfold roundW
  cases neg <;> simp <;> omega

/-- Has y of width V the number that x of width W has? -/
def sameW (V W : Nat) (x y : Int) : Bool := pOk V y && decide (pM V y = pM W x) && decide (pE V y = pE W x)
noncomputable def toW (V W : Nat) (x : Int) : Int × Bool :=
  if isNaN W x then (nanW V, true) else if sizeW W x = infW W then ((if negW W x then sgnW V else 0) + infW V, true)
  else (roundW V (pNeg W x) (pM W x) (pE W x) false, sameW V W x (roundW V (pNeg W x) (pM W x) (pE W x) false))
/-- The nearest pattern to a whole number, and is it that number? -/
noncomputable def fromW (W : Nat) (N : Int) : Int × Bool :=
  (roundW W (decide (N < 0)) N.natAbs 0 false, intOk W (roundW W (decide (N < 0)) N.natAbs 0 false) && decide ((intN W (roundW W (decide (N < 0)) N.natAbs 0 false)).natAbs = N.natAbs))
theorem inf_fits {W : Nat} (hW : Wide W) : 0 < infW W ∧ infW W < sgnW W ∧ nanW W < sgnW W ∧ 0 < nanW W := by rcases hW with rfl | rfl | rfl <;> decide
end Go.Proofs.YtmnabilgpndjmaaDoor

/- Printed by ieee3.py. -/
namespace Go.Proofs.YtmnabilgpndjmaaDoor
open Go.RowKit

theorem low_16 (z : Int) (hz : 0 ≤ z ∧ z < 18446744073709551616) : bits .or .u64 (z % 1024) 1024 = 1024 + z % 1024 ∧ bits .and .u64 z 1023 = z % 1024 := by
  obtain ⟨z, rfl⟩ := Int.eq_ofNat_of_zero_le hz.1
  have e : bits .and .u64 (z : Int) ((1023 : Nat) : Int) = ((z &&& 1023 : Nat) : Int) := Go.bits_and_u64_nat z _ (by omega) (by omega)
  have h := Nat.and_two_pow_sub_one_eq_mod z 10
  rw [show (2 : Nat) ^ 10 = 1024 from by decide, show 1024 - 1 = 1023 from by decide] at h
  rw [h] at e
  have h3 : z % 1024 < 1024 := Nat.mod_lt _ (by omega)
  have e2 : bits .or .u64 ((z % 1024 : Nat) : Int) ((1024 : Nat) : Int) = ((z % 1024 ||| 1024 : Nat) : Int) := Go.bits_or_u64_nat _ _ (by omega) (by omega)
  have h2 := Nat.two_pow_add_eq_or_of_lt (show z % 1024 < 2 ^ 10 by rw [show (2 : Nat) ^ 10 = 1024 from by decide]; exact h3) 1
  rw [Nat.mul_one, show (2 : Nat) ^ 10 = 1024 from by decide, Nat.or_comm] at h2
  rw [← h2] at e2
  have e' : bits .and .u64 (z : Int) 1023 = ((z % 1024 : Nat) : Int) := e
  rw [e', show (z : Int) % 1024 = ((z % 1024 : Nat) : Int) by simp]
  exact ⟨e2.trans (by simp), rfl⟩

set_option maxRecDepth 20000 in
set_option maxHeartbeats 2000000 in
theorem parts_16 (w : World) (hS : Shapes w) (hT : Tab w) (x : Int) (hx : 0 ≤ x ∧ x < 65536) : Calls Tryd.prog 78 #[.int .u16 x] w (fun e w' => e = .returned (.tuple #[.bool (pNeg 16 x), .int .u64 (pM 16 x), .int .i64 (pE 16 x), .bool (pOk 16 x)]) ∧ Below w.heap.size w w') := by
  have H1 := Lib.hid (of_16 w hS)
  have H2 := Lib.hid (fun (w : World) (hS : Shapes w) => split_16 w hS x hx)
  have hz := size_bounds (W := 16) (by unfold Wide; omega) x ⟨hx.1, by exact hx.2⟩
  rw [sgn16] at hz
  have HM := Lib.hid (show pM 16 x = if pOk 16 x && !decide (sizeW 16 x = 0) then oddI (rawM 16 x) else 0 from rfl)
  have HE := Lib.hid (show pE 16 x = if pOk 16 x && !decide (sizeW 16 x = 0) then rawE 16 x + tzI (rawM 16 x) else 0 from rfl)
  have HN := Lib.hid (show pNeg 16 x = (pOk 16 x && negW 16 x) from rfl)
  have HO := Lib.hid (show pOk 16 x = decide (sizeW 16 x < 31744) by unfold pOk; rw [inf16])
  have HRM := Lib.hid (show rawM 16 x = (numM 10 (sizeW 16 x).toNat : Nat) from rfl)
  have HRE := Lib.hid (show rawE 16 x = -24 + (numP 10 (sizeW 16 x).toNat : Nat) from rfl)
  generalize pM 16 x = m at *
  generalize pE 16 x = p at *
  generalize pNeg 16 x = ng at *
  generalize pOk 16 x = ok at *
  generalize rawM 16 x = rm at *
  generalize rawE 16 x = re at *
  generalize sizeW 16 x = z at *
  generalize negW 16 x = n at *
  by_cases t1 : 31744 ≤ z
  · have E1 := Lib.hid (show ok = false by rw [HO.out]; simp; omega)
    have E2 := Lib.hid (show ng = false by rw [HN.out, E1.out]; rfl)
    have E3 := Lib.hid (show m = 0 by rw [HM.out, E1.out]; rfl)
    have E4 := Lib.hid (show p = 0 by rw [HE.out, E1.out]; rfl)
    clear HM HE HN HO HRM HRE
    go_enter Tryd.func78, Tryd.ntmps78
    go_wp2_with fail
    refine (H1.out).mono ?_
    rintro e w1 ⟨rfl, b1⟩
    have bA : Below w1.heap.size w1 (w1.alloc (.cells #[.int .i64 10, .int .i64 (-24), .int .i64 5] 142)) := (Below.refl _ _).alloc (Nat.le_refl _) _
    have sh2 : ShAt 10 (-24) 5 w1.heap.size (w1.alloc (.cells #[.int .i64 10, .int .i64 (-24), .int .i64 5] 142)) := ShAt.made _ _ _ _
    have HS2 := Lib.hid (H2.out (w1.alloc (.cells #[.int .i64 10, .int .i64 (-24), .int .i64 5] 142)) ((hS.below b1 (Nat.le_refl _)).below bA (Nat.le_refl _)))
    have hT2 := (hT.below b1 (Nat.le_refl _)).below bA (Nat.le_refl _)
    have b2 := below_trans b1 bA
    go_wp2_with fail
    refine (HS2.out).mono ?_
    rintro e w3 ⟨rfl, b3⟩
    have sh3 := sh2.below b3
    have hT3 := Lib.hid (hT2.below b3 (Nat.le_refl _))
    have b4 := below_trans b2 b3
    clear b3 sh2 hT2 b2 bA HS2
    generalize w1.heap.size = b at *
    obtain ⟨c0, c1, c2⟩ := sh3
    go_wp2_with fail
    refine (shinf_16 w3).mono ?_
    rintro e w5 ⟨rfl, b5⟩
    have sh5 := ShAt.below ⟨c0, c1, c2⟩ b5
    have hT5 := Lib.hid (hT3.out.below b5 (Nat.le_refl _))
    have b6 := below_trans b4 b5
    clear c0 c1 c2
    obtain ⟨c0, c1, c2⟩ := sh5
    go_wp2
    ((try simp only [Exit.inBlock, Exit.then]); refine bodyPost_ret (results_tmp4 rfl _ _ _) rfl ?_)
    rw [E1.out, E2.out, E3.out, E4.out]
    exact ⟨rfl, b6⟩
  · have E1 := Lib.hid (show ok = true by rw [HO.out]; simp; omega)
    have E2 := Lib.hid (show ng = n by rw [HN.out, E1.out]; rfl)
    by_cases t2 : z = 0
    · have E3 := Lib.hid (show m = 0 by rw [HM.out, t2]; simp)
      have E4 := Lib.hid (show p = 0 by rw [HE.out, t2]; simp)
      have t2' : (z == 0) = true := by simpa using t2
      clear HM HE HN HO HRM HRE t2
      go_enter Tryd.func78, Tryd.ntmps78
      go_wp2_with fail
      refine (H1.out).mono ?_
      rintro e w1 ⟨rfl, b1⟩
      have bA : Below w1.heap.size w1 (w1.alloc (.cells #[.int .i64 10, .int .i64 (-24), .int .i64 5] 142)) := (Below.refl _ _).alloc (Nat.le_refl _) _
      have sh2 : ShAt 10 (-24) 5 w1.heap.size (w1.alloc (.cells #[.int .i64 10, .int .i64 (-24), .int .i64 5] 142)) := ShAt.made _ _ _ _
      have HS2 := Lib.hid (H2.out (w1.alloc (.cells #[.int .i64 10, .int .i64 (-24), .int .i64 5] 142)) ((hS.below b1 (Nat.le_refl _)).below bA (Nat.le_refl _)))
      have hT2 := (hT.below b1 (Nat.le_refl _)).below bA (Nat.le_refl _)
      have b2 := below_trans b1 bA
      go_wp2_with fail
      refine (HS2.out).mono ?_
      rintro e w3 ⟨rfl, b3⟩
      have sh3 := sh2.below b3
      have hT3 := Lib.hid (hT2.below b3 (Nat.le_refl _))
      have b4 := below_trans b2 b3
      clear b3 sh2 hT2 b2 bA HS2
      generalize w1.heap.size = b at *
      obtain ⟨c0, c1, c2⟩ := sh3
      go_wp2_with fail
      refine (shinf_16 w3).mono ?_
      rintro e w5 ⟨rfl, b5⟩
      have sh5 := ShAt.below ⟨c0, c1, c2⟩ b5
      have hT5 := Lib.hid (hT3.out.below b5 (Nat.le_refl _))
      have b6 := below_trans b4 b5
      clear c0 c1 c2
      obtain ⟨c0, c1, c2⟩ := sh5
      go_wp2
      ((try simp only [Exit.inBlock, Exit.then]); refine bodyPost_ret (results_tmp4 rfl _ _ _) rfl ?_)
      rw [E1.out, E2.out, E3.out, E4.out]
      exact ⟨by first | rfl | simp, b6⟩
    · have t2' : (z == 0) = false := by simpa using t2
      have E3 := Lib.hid (show m = oddI rm by rw [HM.out, E1.out, decide_eq_false t2]; rfl)
      have E4 := Lib.hid (show p = re + tzI rm by rw [HE.out, E1.out, decide_eq_false t2]; rfl)
      have K1 : 0 < rm ∧ rm < 9007199254740992 := by
        rw [HRM.out]
        have h1 := numM_lt 10 z.toNat
        rw [show (2 : Nat) ^ (10 + 1) = 2048 from by decide] at h1
        unfold numM at h1 ⊢
        rw [show (2 : Nat) ^ 10 = 1024 from by decide] at h1 ⊢
        split at h1 <;> rename_i h2
        · rw [if_pos h2]; omega
        · rw [if_neg h2]; omega
      have K2 := odd_spec rm K1.1 (by omega)
      have K3 := Lib.hid (show oddI rm = rm / 2 ^ (tzI rm).toNat by unfold oddI tzI; rw [Int.toNat_natCast])
      have HL := low_16 z (by omega)
      have hre : -1074 ≤ re ∧ re ≤ 2048 := by
        rw [HRE.out]
        have h1 := numP_le (W := 16) (by unfold Wide; omega) z.toNat (by have := infW_eq (W := 16) (by unfold Wide; omega); rw [inf16] at this; omega)
        rw [show shF 16 = 10 from rfl, show (2 : Nat) ^ shE 16 = 32 from by decide] at h1
        omega
      have HTZ := Lib.hid (fun w hT => tz_calls rm ⟨K1.1, by omega⟩ w hT)
      obtain ⟨hL1, hL2⟩ := HL
      have V1 : IntKind.u64.wrap (1024 + z % 1024) = 1024 + z % 1024 := by rw [IntKind.wrap_u64]; omega
      have V2 : IntKind.i64.wrap (z / 1024) = z / 1024 := IntWalk.i64_in _ (by omega)
      have V3 : IntKind.i64.wrap (z / 1024 - 1) = z / 1024 - 1 := IntWalk.i64_in _ (by omega)
      have V4 : IntKind.i64.wrap (-24 + (z / 1024 - 1)) = -24 + (z / 1024 - 1) := IntWalk.i64_in _ (by omega)
      have V5 : IntKind.i64.wrap (re + tzI rm) = re + tzI rm := IntWalk.i64_in _ (by omega)
      obtain ⟨tz, htz⟩ : ∃ tz, tz = tzI rm := ⟨_, rfl⟩
      rw [← htz] at HTZ E4 K2 K3 V5
      have K4 := Lib.hid K2.1
      have hk5 := K2.2.2.2
      clear K2 htz HM HE HN HO t2
      rw [K3.out] at E3
      clear K3
      go_enter Tryd.func78, Tryd.ntmps78
      go_wp2_with fail
      refine (H1.out).mono ?_
      rintro e w1 ⟨rfl, b1⟩
      have bA : Below w1.heap.size w1 (w1.alloc (.cells #[.int .i64 10, .int .i64 (-24), .int .i64 5] 142)) := (Below.refl _ _).alloc (Nat.le_refl _) _
      have sh2 : ShAt 10 (-24) 5 w1.heap.size (w1.alloc (.cells #[.int .i64 10, .int .i64 (-24), .int .i64 5] 142)) := ShAt.made _ _ _ _
      have HS2 := Lib.hid (H2.out (w1.alloc (.cells #[.int .i64 10, .int .i64 (-24), .int .i64 5] 142)) ((hS.below b1 (Nat.le_refl _)).below bA (Nat.le_refl _)))
      have hT2 := (hT.below b1 (Nat.le_refl _)).below bA (Nat.le_refl _)
      have b2 := below_trans b1 bA
      go_wp2_with fail
      refine (HS2.out).mono ?_
      rintro e w3 ⟨rfl, b3⟩
      have sh3 := sh2.below b3
      have hT3 := Lib.hid (hT2.below b3 (Nat.le_refl _))
      have b4 := below_trans b2 b3
      clear b3 sh2 hT2 b2 bA HS2
      generalize w1.heap.size = b at *
      obtain ⟨c0, c1, c2⟩ := sh3
      go_wp2_with fail
      refine (shinf_16 w3).mono ?_
      rintro e w5 ⟨rfl, b5⟩
      have sh5 := ShAt.below ⟨c0, c1, c2⟩ b5
      have hT5 := Lib.hid (hT3.out.below b5 (Nat.le_refl _))
      have b6 := below_trans b4 b5
      clear c0 c1 c2
      obtain ⟨c0, c1, c2⟩ := sh5
      go_upto_region 7 with (fail)
      go_cut [3, 4] (fun s3 s4 wx => s3 = .int .u64 z ∧ s4 = .int .i64 (-24) ∧ ∃ q, wx = w5.drewN q)
      case first =>
        go_quiet (fail)
        go_wp2_with fail
        go_meet
        case rel => exact ⟨rfl, rfl, _, rfl⟩
      case rest =>
        obtain ⟨rfl, rfl, q, rfl⟩ := hcut
        go_upto_if 33 with (fail)
        go_cut [3, 4] (fun s3 s4 wx => s3 = .int .u64 rm ∧ s4 = .int .i64 re ∧ ∃ q, wx = w5.drewN q)
        case first =>
          by_cases hk : z < 1024
          · have hk1 : z / 1024 = 0 := by omega
            have E5 := Lib.hid (show rm = z by rw [HRM.out]; unfold numM; rw [if_pos (by rw [show (2 : Nat) ^ 10 = 1024 from by decide]; omega)]; omega)
            have E6 := Lib.hid (show re = -24 by rw [HRE.out]; unfold numP; rw [if_pos (by rw [show (2 : Nat) ^ 10 = 1024 from by decide]; omega)]; rfl)
            go_wp2_with fail
            go_meet
            case rel => exact ⟨by rw [E5.out], by rw [E6.out], _, rfl⟩
          · have hk1 : 0 < z / 1024 := by omega
            have E5 := Lib.hid (show rm = 1024 + z % 1024 by rw [HRM.out]; unfold numM; rw [if_neg (by rw [show (2 : Nat) ^ 10 = 1024 from by decide]; omega), show (2 : Nat) ^ 10 = 1024 from by decide]; omega)
            have E6 := Lib.hid (show re = -24 + (z / 1024 - 1) by rw [HRE.out]; unfold numP; rw [if_neg (by rw [show (2 : Nat) ^ 10 = 1024 from by decide]; omega), show (2 : Nat) ^ 10 = 1024 from by decide]; omega)
            go_wp2_with fail
            go_quiet (fail)
            go_wp2_with fail
            go_meet
            case rel => exact ⟨by first | (rw [E5.out]; done) | (rw [E5.out]; simp), by rw [E6.out], _, by first | rfl | exact World.drewN_drewN ..⟩
        case rest =>
          obtain ⟨rfl, rfl, q', rfl⟩ := hcut
          have HTZ2 := Lib.hid (HTZ.out (w5.drewN q') (hT5.out.below (below_drewN (Below.refl w5.heap.size w5) q') (Nat.le_refl _)))
          go_wp2_with fail
          refine (HTZ2.out).mono ?_
          rintro e w' ⟨rfl, rfl⟩
          go_wp2_with fail
          go_quiet (fail)
          go_wp2_with fail
          ((try simp only [Exit.inBlock, Exit.then]); refine bodyPost_ret (results_tmp4 rfl _ _ _) rfl ?_)
          rw [E1.out, E2.out, E3.out, E4.out]
          exact ⟨by first | rfl | simp, below_drewN (below_drewN b6 _) _⟩
end Go.Proofs.YtmnabilgpndjmaaDoor
