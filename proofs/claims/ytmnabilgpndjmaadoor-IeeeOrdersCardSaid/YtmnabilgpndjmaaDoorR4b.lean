/- crucibleref04: Of, Inf, NaN, Class, Total, Cmp, Next. -/
import Derived.Test.YtmnabilgpndjmaaDoorR4a
import Derived.Laws.Rows
set_option linter.unusedVariables false
set_option linter.unusedSimpArgs false
namespace Go.Proofs.YtmnabilgpndjmaaDoor
open Go.RowKit

theorem size_rshape : (Tryd.prog.info? 113).map (·.size) = some 3 := by kernel_rfl

/-- What Of answers. -/
def topW (W : Nat) : Int := 2 ^ shE W - 1
theorem rof_calls (W : Nat) (hW : Wide W) (w : World) : Calls Tryd.prog 87 #[.int .i64 W] w (fun e w' => e = .returned (.agg #[.int .i64 (shF W), .int .i64 (shL W), .int .i64 (topW W)]) ∧ Below w.heap.size w w') := by
  rcases hW with rfl | rfl | rfl
  · go_enter Tryd.func87, Tryd.ntmps87
    go_wp2
    refine bodyPost_ret (results_cell_row rfl _ _ w.heap.size 113 #[.int .i64 10, .int .i64 (-24), .int .i64 31] (0, 0) _ rfl (heap_alloc_new _ _) Tryd.underlying113 rfl size_rshape) rfl ?_
    exact ⟨rfl, (Below.refl _ _).alloc (Nat.le_refl _) _⟩
  · go_enter Tryd.func87, Tryd.ntmps87
    go_wp2
    refine bodyPost_ret (results_cell_row rfl _ _ w.heap.size 113 #[.int .i64 23, .int .i64 (-149), .int .i64 255] (0, 0) _ rfl (heap_alloc_new _ _) Tryd.underlying113 rfl size_rshape) rfl ?_
    exact ⟨rfl, (Below.refl _ _).alloc (Nat.le_refl _) _⟩
  · go_enter Tryd.func87, Tryd.ntmps87
    go_wp2
    refine bodyPost_ret (results_cell_row rfl _ _ w.heap.size 113 #[.int .i64 52, .int .i64 (-1074), .int .i64 2047] (0, 0) _ rfl (heap_alloc_new _ _) Tryd.underlying113 rfl size_rshape) rfl ?_
    exact ⟨rfl, (Below.refl _ _).alloc (Nat.le_refl _) _⟩


theorem rof_16 (w : World) : Calls Tryd.prog 87 #[.int .i64 16] w (fun e w' => e = .returned (.agg #[.int .i64 10, .int .i64 (-24), .int .i64 31]) ∧ Below w.heap.size w w') := rof_calls 16 (by unfold Wide; omega) w

theorem rof_32 (w : World) : Calls Tryd.prog 87 #[.int .i64 32] w (fun e w' => e = .returned (.agg #[.int .i64 23, .int .i64 (-149), .int .i64 255]) ∧ Below w.heap.size w w') := rof_calls 32 (by unfold Wide; omega) w

theorem rof_64 (w : World) : Calls Tryd.prog 87 #[.int .i64 64] w (fun e w' => e = .returned (.agg #[.int .i64 52, .int .i64 (-1074), .int .i64 2047]) ∧ Below w.heap.size w w') := rof_calls 64 (by unfold Wide; omega) w
theorem rtwo_9 (w : World) : Calls Tryd.prog 86 #[.int .i64 9] w (fun e w' => e = .returned (.int .u64 512) ∧ w = w') := by
  have h := rtwo_calls 9 (by omega) w
  rw [show (2 : Int) ^ 9 = 512 from by decide] at h
  exact h
theorem rtwo_10 (w : World) : Calls Tryd.prog 86 #[.int .i64 10] w (fun e w' => e = .returned (.int .u64 1024) ∧ w = w') := by
  have h := rtwo_calls 10 (by omega) w
  rw [show (2 : Int) ^ 10 = 1024 from by decide] at h
  exact h
theorem rtwo_22 (w : World) : Calls Tryd.prog 86 #[.int .i64 22] w (fun e w' => e = .returned (.int .u64 4194304) ∧ w = w') := by
  have h := rtwo_calls 22 (by omega) w
  rw [show (2 : Int) ^ 22 = 4194304 from by decide] at h
  exact h
theorem rtwo_23 (w : World) : Calls Tryd.prog 86 #[.int .i64 23] w (fun e w' => e = .returned (.int .u64 8388608) ∧ w = w') := by
  have h := rtwo_calls 23 (by omega) w
  rw [show (2 : Int) ^ 23 = 8388608 from by decide] at h
  exact h
theorem rtwo_51 (w : World) : Calls Tryd.prog 86 #[.int .i64 51] w (fun e w' => e = .returned (.int .u64 2251799813685248) ∧ w = w') := by
  have h := rtwo_calls 51 (by omega) w
  rw [show (2 : Int) ^ 51 = 2251799813685248 from by decide] at h
  exact h
theorem rtwo_52 (w : World) : Calls Tryd.prog 86 #[.int .i64 52] w (fun e w' => e = .returned (.int .u64 4503599627370496) ∧ w = w') := by
  have h := rtwo_calls 52 (by omega) w
  rw [show (2 : Int) ^ 52 = 4503599627370496 from by decide] at h
  exact h

theorem rinf_16 (w : World) : Calls Tryd.prog 63 #[.int .i64 16] w (fun e w' => e = .returned (.int .u64 31744) ∧ Below w.heap.size w w') := by
  have h1 := Lib.hid (rof_16)
  have h2 := Lib.hid (rtwo_10)
  have hf0 : ∀ w, (Instr.field 113 (.agg #[.int .i64 10, .int .i64 (-24), .int .i64 31]) 0).run Tryd.prog w = .ok (.int .i64 10) w := fun _ => by kernel_rfl
  have hf2 : ∀ w, (Instr.field 113 (.agg #[.int .i64 10, .int .i64 (-24), .int .i64 31]) 2).run Tryd.prog w = .ok (.int .i64 31) w := fun _ => by kernel_rfl
  go_enter Tryd.func63, Tryd.ntmps63
  go_wp2_with fail
  refine (h1.out w).mono ?_
  rintro e w1 ⟨rfl, b1⟩
  go_wp2_with fail
  refine (h1.out w1).mono ?_
  rintro e w2 ⟨rfl, b2⟩
  go_wp2_with fail
  refine (h2.out w2).mono ?_
  rintro e w3 ⟨rfl, rfl⟩
  go_wp2
  go_ret
  exact ⟨by first | rfl | simp, below_trans b1 b2⟩
theorem rnan_16 (w : World) : Calls Tryd.prog 100 #[.int .i64 16] w (fun e w' => e = .returned (.int .u64 32256) ∧ Below w.heap.size w w') := by
  have h1 := Lib.hid (rof_16)
  have h2 := Lib.hid (rinf_16)
  have hf0 : ∀ w, (Instr.field 113 (.agg #[.int .i64 10, .int .i64 (-24), .int .i64 31]) 0).run Tryd.prog w = .ok (.int .i64 10) w := fun _ => by kernel_rfl
  have h3 := Lib.hid (rtwo_9)
  have hw : IntKind.i64.wrap 9 = 9 := by decide
  go_enter Tryd.func100, Tryd.ntmps100
  go_wp2_with fail
  refine (h2.out w).mono ?_
  rintro e w1 ⟨rfl, b1⟩
  go_wp2_with fail
  refine (h1.out w1).mono ?_
  rintro e w2 ⟨rfl, b2⟩
  go_wp2_with fail
  refine (h3.out w2).mono ?_
  rintro e w3 ⟨rfl, rfl⟩
  go_wp2
  go_ret
  exact ⟨by first | rfl | simp, below_trans b1 b2⟩

theorem rinf_32 (w : World) : Calls Tryd.prog 63 #[.int .i64 32] w (fun e w' => e = .returned (.int .u64 2139095040) ∧ Below w.heap.size w w') := by
  have h1 := Lib.hid (rof_32)
  have h2 := Lib.hid (rtwo_23)
  have hf0 : ∀ w, (Instr.field 113 (.agg #[.int .i64 23, .int .i64 (-149), .int .i64 255]) 0).run Tryd.prog w = .ok (.int .i64 23) w := fun _ => by kernel_rfl
  have hf2 : ∀ w, (Instr.field 113 (.agg #[.int .i64 23, .int .i64 (-149), .int .i64 255]) 2).run Tryd.prog w = .ok (.int .i64 255) w := fun _ => by kernel_rfl
  go_enter Tryd.func63, Tryd.ntmps63
  go_wp2_with fail
  refine (h1.out w).mono ?_
  rintro e w1 ⟨rfl, b1⟩
  go_wp2_with fail
  refine (h1.out w1).mono ?_
  rintro e w2 ⟨rfl, b2⟩
  go_wp2_with fail
  refine (h2.out w2).mono ?_
  rintro e w3 ⟨rfl, rfl⟩
  go_wp2
  go_ret
  exact ⟨by first | rfl | simp, below_trans b1 b2⟩
theorem rnan_32 (w : World) : Calls Tryd.prog 100 #[.int .i64 32] w (fun e w' => e = .returned (.int .u64 2143289344) ∧ Below w.heap.size w w') := by
  have h1 := Lib.hid (rof_32)
  have h2 := Lib.hid (rinf_32)
  have hf0 : ∀ w, (Instr.field 113 (.agg #[.int .i64 23, .int .i64 (-149), .int .i64 255]) 0).run Tryd.prog w = .ok (.int .i64 23) w := fun _ => by kernel_rfl
  have h3 := Lib.hid (rtwo_22)
  have hw : IntKind.i64.wrap 22 = 22 := by decide
  go_enter Tryd.func100, Tryd.ntmps100
  go_wp2_with fail
  refine (h2.out w).mono ?_
  rintro e w1 ⟨rfl, b1⟩
  go_wp2_with fail
  refine (h1.out w1).mono ?_
  rintro e w2 ⟨rfl, b2⟩
  go_wp2_with fail
  refine (h3.out w2).mono ?_
  rintro e w3 ⟨rfl, rfl⟩
  go_wp2
  go_ret
  exact ⟨by first | rfl | simp, below_trans b1 b2⟩

theorem rinf_64 (w : World) : Calls Tryd.prog 63 #[.int .i64 64] w (fun e w' => e = .returned (.int .u64 9218868437227405312) ∧ Below w.heap.size w w') := by
  have h1 := Lib.hid (rof_64)
  have h2 := Lib.hid (rtwo_52)
  have hf0 : ∀ w, (Instr.field 113 (.agg #[.int .i64 52, .int .i64 (-1074), .int .i64 2047]) 0).run Tryd.prog w = .ok (.int .i64 52) w := fun _ => by kernel_rfl
  have hf2 : ∀ w, (Instr.field 113 (.agg #[.int .i64 52, .int .i64 (-1074), .int .i64 2047]) 2).run Tryd.prog w = .ok (.int .i64 2047) w := fun _ => by kernel_rfl
  go_enter Tryd.func63, Tryd.ntmps63
  go_wp2_with fail
  refine (h1.out w).mono ?_
  rintro e w1 ⟨rfl, b1⟩
  go_wp2_with fail
  refine (h1.out w1).mono ?_
  rintro e w2 ⟨rfl, b2⟩
  go_wp2_with fail
  refine (h2.out w2).mono ?_
  rintro e w3 ⟨rfl, rfl⟩
  go_wp2
  go_ret
  exact ⟨by first | rfl | simp, below_trans b1 b2⟩
theorem rnan_64 (w : World) : Calls Tryd.prog 100 #[.int .i64 64] w (fun e w' => e = .returned (.int .u64 9221120237041090560) ∧ Below w.heap.size w w') := by
  have h1 := Lib.hid (rof_64)
  have h2 := Lib.hid (rinf_64)
  have hf0 : ∀ w, (Instr.field 113 (.agg #[.int .i64 52, .int .i64 (-1074), .int .i64 2047]) 0).run Tryd.prog w = .ok (.int .i64 52) w := fun _ => by kernel_rfl
  have h3 := Lib.hid (rtwo_51)
  have hw : IntKind.i64.wrap 51 = 51 := by decide
  go_enter Tryd.func100, Tryd.ntmps100
  go_wp2_with fail
  refine (h2.out w).mono ?_
  rintro e w1 ⟨rfl, b1⟩
  go_wp2_with fail
  refine (h1.out w1).mono ?_
  rintro e w2 ⟨rfl, b2⟩
  go_wp2_with fail
  refine (h3.out w2).mono ?_
  rintro e w3 ⟨rfl, rfl⟩
  go_wp2
  go_ret
  exact ⟨by first | rfl | simp, below_trans b1 b2⟩

theorem rinf_calls (W : Nat) (hW : Wide W) (w : World) : Calls Tryd.prog 63 #[.int .i64 W] w (fun e w' => e = .returned (.int .u64 (infW W)) ∧ Below w.heap.size w w') := by
  rcases hW with rfl | rfl | rfl
  · rw [inf16]; exact rinf_16 w
  · rw [inf32]; exact rinf_32 w
  · rw [inf64]; exact rinf_64 w
theorem rnan_calls (W : Nat) (hW : Wide W) (w : World) : Calls Tryd.prog 100 #[.int .i64 W] w (fun e w' => e = .returned (.int .u64 (nanW W)) ∧ Below w.heap.size w w') := by
  rcases hW with rfl | rfl | rfl
  · rw [nan16]; exact rnan_16 w
  · rw [nan32]; exact rnan_32 w
  · rw [nan64]; exact rnan_64 w
end Go.Proofs.YtmnabilgpndjmaaDoor
