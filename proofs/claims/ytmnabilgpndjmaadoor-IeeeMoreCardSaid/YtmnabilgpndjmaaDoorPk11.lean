/- Contracts of functions, and plain facts, part 11. -/
import Derived.Laws.Rows
import Derived.Test.YtmnabilgpndjmaaDoorCards
import Derived.Lib.LaidTab
import Derived.Test.YtmnabilgpndjmaaDoorPk4
import Derived.Test.YtmnabilgpndjmaaDoorPk5
import Derived.Test.YtmnabilgpndjmaaDoorPk7
import Derived.Test.YtmnabilgpndjmaaDoorPk8
set_option linter.unusedVariables false
set_option linter.unusedSimpArgs false
/- Printed by ieee2.py. -/
namespace Go.Proofs.YtmnabilgpndjmaaDoor
open Go.RowKit

theorem class_Own (w : World) (hS : Shapes w) (x : Int) (hx : 0 ≤ x ∧ x < 4294967296) : Calls Tryd.prog 84 #[.int .u32 x] w (fun e w' => e = .returned (.int .i8 (clsW 32 x)) ∧ Below w.heap.size w w') := by
  have HC := Lib.hid (show clsW 32 x = if 2139095040 < sizeW 32 x then 5 else if sizeW 32 x = 2139095040 then 4 else if sizeW 32 x = 0 then 1 else if sizeW 32 x < 8388608 then 2 else 3 by unfold clsW; rw [inf32, show (2 : Int) ^ shF 32 = 8388608 from by decide])
  have H1 := Lib.hid (of_Own w hS)
  have H2 := Lib.hid (fun (w : World) (hS : Shapes w) => split_Own w hS x hx)
  have hz0 := (size_bounds (W := 32) (by unfold Wide; omega) x ⟨hx.1, by exact hx.2⟩).1
  generalize clsW 32 x = C at *
  generalize sizeW 32 x = z at *
  by_cases t1 : 2139095040 < z
  · have HR := Lib.hid (show C = 5 by rw [HC.out, if_pos t1])
    clear HC
    go_enter Tryd.func84, Tryd.ntmps84
    go_wp2_with fail
    refine (H1.out).mono ?_
    rintro e w1 ⟨rfl, b1⟩
    have bA : Below w1.heap.size w1 (w1.alloc (.cells #[.int .i64 23, .int .i64 (-149), .int .i64 8] 142)) := (Below.refl _ _).alloc (Nat.le_refl _) _
    have c0 : (w1.alloc (.cells #[.int .i64 23, .int .i64 (-149), .int .i64 8] 142)).cell? ⟨w1.heap.size, 0, none⟩ = some (.int .i64 (23)) := World.cell?_alloc_at _ _ _ _ rfl
    have c1 : (w1.alloc (.cells #[.int .i64 23, .int .i64 (-149), .int .i64 8] 142)).cell? ⟨w1.heap.size, 1, none⟩ = some (.int .i64 (-149)) := World.cell?_alloc_at _ _ _ _ rfl
    have c2 : (w1.alloc (.cells #[.int .i64 23, .int .i64 (-149), .int .i64 8] 142)).cell? ⟨w1.heap.size, 2, none⟩ = some (.int .i64 (8)) := World.cell?_alloc_at _ _ _ _ rfl
    have HS2 := Lib.hid (H2.out (w1.alloc (.cells #[.int .i64 23, .int .i64 (-149), .int .i64 8] 142)) ((hS.below b1 (Nat.le_refl _)).below bA (Nat.le_refl _)))
    go_wp2_with fail
    refine (HS2.out).mono ?_
    rintro e w2 ⟨rfl, b2⟩
    have d0 := below_cell b2 (Nat.le_refl _) c0
    have d1 := below_cell b2 (Nat.le_refl _) c1
    have d2 := below_cell b2 (Nat.le_refl _) c2
    have b2' := below_trans bA b2
    go_wp2_with fail
    refine (shinf_32 w2).mono ?_
    rintro e w3 ⟨rfl, b3⟩
    have e0 := below_cell b3 (Nat.le_refl _) d0
    have e1 := below_cell b3 (Nat.le_refl _) d1
    have e2 := below_cell b3 (Nat.le_refl _) d2
    go_wp2
    go_ret
    rw [HR.out]
    exact ⟨rfl, below_trans b1 (below_trans b2' b3)⟩
  · by_cases t2 : z = 2139095040
    · have HR := Lib.hid (show C = 4 by rw [HC.out, if_neg t1, if_pos t2])
      have t2' : (z == 2139095040) = true := by simpa using t2
      clear HC t2
      go_enter Tryd.func84, Tryd.ntmps84
      go_wp2_with fail
      refine (H1.out).mono ?_
      rintro e w1 ⟨rfl, b1⟩
      have bA : Below w1.heap.size w1 (w1.alloc (.cells #[.int .i64 23, .int .i64 (-149), .int .i64 8] 142)) := (Below.refl _ _).alloc (Nat.le_refl _) _
      have c0 : (w1.alloc (.cells #[.int .i64 23, .int .i64 (-149), .int .i64 8] 142)).cell? ⟨w1.heap.size, 0, none⟩ = some (.int .i64 (23)) := World.cell?_alloc_at _ _ _ _ rfl
      have c1 : (w1.alloc (.cells #[.int .i64 23, .int .i64 (-149), .int .i64 8] 142)).cell? ⟨w1.heap.size, 1, none⟩ = some (.int .i64 (-149)) := World.cell?_alloc_at _ _ _ _ rfl
      have c2 : (w1.alloc (.cells #[.int .i64 23, .int .i64 (-149), .int .i64 8] 142)).cell? ⟨w1.heap.size, 2, none⟩ = some (.int .i64 (8)) := World.cell?_alloc_at _ _ _ _ rfl
      have HS2 := Lib.hid (H2.out (w1.alloc (.cells #[.int .i64 23, .int .i64 (-149), .int .i64 8] 142)) ((hS.below b1 (Nat.le_refl _)).below bA (Nat.le_refl _)))
      go_wp2_with fail
      refine (HS2.out).mono ?_
      rintro e w2 ⟨rfl, b2⟩
      have d0 := below_cell b2 (Nat.le_refl _) c0
      have d1 := below_cell b2 (Nat.le_refl _) c1
      have d2 := below_cell b2 (Nat.le_refl _) c2
      have b2' := below_trans bA b2
      go_wp2_with fail
      refine (shinf_32 w2).mono ?_
      rintro e w3 ⟨rfl, b3⟩
      have e0 := below_cell b3 (Nat.le_refl _) d0
      have e1 := below_cell b3 (Nat.le_refl _) d1
      have e2 := below_cell b3 (Nat.le_refl _) d2
      go_wp2_with fail
      refine (shinf_32 w3).mono ?_
      rintro e w4 ⟨rfl, b4⟩
      have g0 := below_cell b4 (Nat.le_refl _) e0
      have g1 := below_cell b4 (Nat.le_refl _) e1
      have g2 := below_cell b4 (Nat.le_refl _) e2
      go_wp2
      go_ret
      rw [HR.out]
      exact ⟨rfl, below_trans b1 (below_trans b2' (below_trans b3 b4))⟩
    · have t2' : (z == 2139095040) = false := by simpa using t2
      by_cases t3 : z = 0
      · have HR := Lib.hid (show C = 1 by rw [HC.out, if_neg t1, if_neg t2, if_pos t3])
        have t3' : (z == 0) = true := by simpa using t3
        clear HC t3 t2
        go_enter Tryd.func84, Tryd.ntmps84
        go_wp2_with fail
        refine (H1.out).mono ?_
        rintro e w1 ⟨rfl, b1⟩
        have bA : Below w1.heap.size w1 (w1.alloc (.cells #[.int .i64 23, .int .i64 (-149), .int .i64 8] 142)) := (Below.refl _ _).alloc (Nat.le_refl _) _
        have c0 : (w1.alloc (.cells #[.int .i64 23, .int .i64 (-149), .int .i64 8] 142)).cell? ⟨w1.heap.size, 0, none⟩ = some (.int .i64 (23)) := World.cell?_alloc_at _ _ _ _ rfl
        have c1 : (w1.alloc (.cells #[.int .i64 23, .int .i64 (-149), .int .i64 8] 142)).cell? ⟨w1.heap.size, 1, none⟩ = some (.int .i64 (-149)) := World.cell?_alloc_at _ _ _ _ rfl
        have c2 : (w1.alloc (.cells #[.int .i64 23, .int .i64 (-149), .int .i64 8] 142)).cell? ⟨w1.heap.size, 2, none⟩ = some (.int .i64 (8)) := World.cell?_alloc_at _ _ _ _ rfl
        have HS2 := Lib.hid (H2.out (w1.alloc (.cells #[.int .i64 23, .int .i64 (-149), .int .i64 8] 142)) ((hS.below b1 (Nat.le_refl _)).below bA (Nat.le_refl _)))
        go_wp2_with fail
        refine (HS2.out).mono ?_
        rintro e w2 ⟨rfl, b2⟩
        have d0 := below_cell b2 (Nat.le_refl _) c0
        have d1 := below_cell b2 (Nat.le_refl _) c1
        have d2 := below_cell b2 (Nat.le_refl _) c2
        have b2' := below_trans bA b2
        go_wp2_with fail
        refine (shinf_32 w2).mono ?_
        rintro e w3 ⟨rfl, b3⟩
        have e0 := below_cell b3 (Nat.le_refl _) d0
        have e1 := below_cell b3 (Nat.le_refl _) d1
        have e2 := below_cell b3 (Nat.le_refl _) d2
        go_wp2_with fail
        refine (shinf_32 w3).mono ?_
        rintro e w4 ⟨rfl, b4⟩
        have g0 := below_cell b4 (Nat.le_refl _) e0
        have g1 := below_cell b4 (Nat.le_refl _) e1
        have g2 := below_cell b4 (Nat.le_refl _) e2
        go_wp2
        go_ret
        rw [HR.out]
        exact ⟨rfl, below_trans b1 (below_trans b2' (below_trans b3 b4))⟩
      · have t3' : (z == 0) = false := by simpa using t3
        by_cases t4 : z < 8388608
        · have HR := Lib.hid (show C = 2 by rw [HC.out, if_neg t1, if_neg t2, if_neg t3, if_pos t4])
          have t4' : (z / 8388608 == 0) = true := by simp; omega
          clear HC t3 t2 t4
          go_enter Tryd.func84, Tryd.ntmps84
          go_wp2_with fail
          refine (H1.out).mono ?_
          rintro e w1 ⟨rfl, b1⟩
          have bA : Below w1.heap.size w1 (w1.alloc (.cells #[.int .i64 23, .int .i64 (-149), .int .i64 8] 142)) := (Below.refl _ _).alloc (Nat.le_refl _) _
          have c0 : (w1.alloc (.cells #[.int .i64 23, .int .i64 (-149), .int .i64 8] 142)).cell? ⟨w1.heap.size, 0, none⟩ = some (.int .i64 (23)) := World.cell?_alloc_at _ _ _ _ rfl
          have c1 : (w1.alloc (.cells #[.int .i64 23, .int .i64 (-149), .int .i64 8] 142)).cell? ⟨w1.heap.size, 1, none⟩ = some (.int .i64 (-149)) := World.cell?_alloc_at _ _ _ _ rfl
          have c2 : (w1.alloc (.cells #[.int .i64 23, .int .i64 (-149), .int .i64 8] 142)).cell? ⟨w1.heap.size, 2, none⟩ = some (.int .i64 (8)) := World.cell?_alloc_at _ _ _ _ rfl
          have HS2 := Lib.hid (H2.out (w1.alloc (.cells #[.int .i64 23, .int .i64 (-149), .int .i64 8] 142)) ((hS.below b1 (Nat.le_refl _)).below bA (Nat.le_refl _)))
          go_wp2_with fail
          refine (HS2.out).mono ?_
          rintro e w2 ⟨rfl, b2⟩
          have d0 := below_cell b2 (Nat.le_refl _) c0
          have d1 := below_cell b2 (Nat.le_refl _) c1
          have d2 := below_cell b2 (Nat.le_refl _) c2
          have b2' := below_trans bA b2
          go_wp2_with fail
          refine (shinf_32 w2).mono ?_
          rintro e w3 ⟨rfl, b3⟩
          have e0 := below_cell b3 (Nat.le_refl _) d0
          have e1 := below_cell b3 (Nat.le_refl _) d1
          have e2 := below_cell b3 (Nat.le_refl _) d2
          go_wp2_with fail
          refine (shinf_32 w3).mono ?_
          rintro e w4 ⟨rfl, b4⟩
          have g0 := below_cell b4 (Nat.le_refl _) e0
          have g1 := below_cell b4 (Nat.le_refl _) e1
          have g2 := below_cell b4 (Nat.le_refl _) e2
          go_wp2
          go_ret
          rw [HR.out]
          exact ⟨rfl, below_trans b1 (below_trans b2' (below_trans b3 b4))⟩
        · have HR := Lib.hid (show C = 3 by rw [HC.out, if_neg t1, if_neg t2, if_neg t3, if_neg t4])
          have t4' : (z / 8388608 == 0) = false := by simp; omega
          clear HC t3 t2 t4
          go_enter Tryd.func84, Tryd.ntmps84
          go_wp2_with fail
          refine (H1.out).mono ?_
          rintro e w1 ⟨rfl, b1⟩
          have bA : Below w1.heap.size w1 (w1.alloc (.cells #[.int .i64 23, .int .i64 (-149), .int .i64 8] 142)) := (Below.refl _ _).alloc (Nat.le_refl _) _
          have c0 : (w1.alloc (.cells #[.int .i64 23, .int .i64 (-149), .int .i64 8] 142)).cell? ⟨w1.heap.size, 0, none⟩ = some (.int .i64 (23)) := World.cell?_alloc_at _ _ _ _ rfl
          have c1 : (w1.alloc (.cells #[.int .i64 23, .int .i64 (-149), .int .i64 8] 142)).cell? ⟨w1.heap.size, 1, none⟩ = some (.int .i64 (-149)) := World.cell?_alloc_at _ _ _ _ rfl
          have c2 : (w1.alloc (.cells #[.int .i64 23, .int .i64 (-149), .int .i64 8] 142)).cell? ⟨w1.heap.size, 2, none⟩ = some (.int .i64 (8)) := World.cell?_alloc_at _ _ _ _ rfl
          have HS2 := Lib.hid (H2.out (w1.alloc (.cells #[.int .i64 23, .int .i64 (-149), .int .i64 8] 142)) ((hS.below b1 (Nat.le_refl _)).below bA (Nat.le_refl _)))
          go_wp2_with fail
          refine (HS2.out).mono ?_
          rintro e w2 ⟨rfl, b2⟩
          have d0 := below_cell b2 (Nat.le_refl _) c0
          have d1 := below_cell b2 (Nat.le_refl _) c1
          have d2 := below_cell b2 (Nat.le_refl _) c2
          have b2' := below_trans bA b2
          go_wp2_with fail
          refine (shinf_32 w2).mono ?_
          rintro e w3 ⟨rfl, b3⟩
          have e0 := below_cell b3 (Nat.le_refl _) d0
          have e1 := below_cell b3 (Nat.le_refl _) d1
          have e2 := below_cell b3 (Nat.le_refl _) d2
          go_wp2_with fail
          refine (shinf_32 w3).mono ?_
          rintro e w4 ⟨rfl, b4⟩
          have g0 := below_cell b4 (Nat.le_refl _) e0
          have g1 := below_cell b4 (Nat.le_refl _) e1
          have g2 := below_cell b4 (Nat.le_refl _) e2
          go_wp2
          go_ret
          rw [HR.out]
          exact ⟨rfl, below_trans b1 (below_trans b2' (below_trans b3 b4))⟩
end Go.Proofs.YtmnabilgpndjmaaDoor

/- Whole numbers: signed, made, Norm of the program. -/
namespace Go.Proofs.YtmnabilgpndjmaaDoor
open Go.RowKit

/-- A number of a sign and a size. -/
def sI (ng : Bool) (V : Int) : Int := if ng then -V else V
/-- The sign. -/
def sgI (N : Int) : Int := if N < 0 then -1 else if N = 0 then 0 else 1
theorem sI_abs (ng : Bool) (V : Int) (h : 0 ≤ V) : ((sI ng V).natAbs : Int) = V := by unfold sI; cases ng <;> simp <;> omega
theorem sI_neg (ng : Bool) (V : Int) (h : 0 ≤ V) : decide (sI ng V < 0) = (ng && decide (0 < V)) := by
  unfold sI
  cases ng
  · simp; omega
  · simp

/-- A whole number in normal form is told. -/
def RetInt (N : Int) (w : World) (e : Ending) (w' : World) : Prop :=
  ∃ ad n c, e = .returned (.agg #[.bool (decide (N < 0)), .slice ad n c]) ∧ Can w' ad n c N.natAbs ∧ Below w.heap.size w w'
def RetIntB (N : Int) (ok : Bool) (w : World) (e : Ending) (w' : World) : Prop :=
  ∃ ad n c, e = .returned (.tuple #[.agg #[.bool (decide (N < 0)), .slice ad n c], .bool ok]) ∧ Can w' ad n c N.natAbs ∧ Below w.heap.size w w'

theorem size_int : (Tryd.prog.info? 48).map (·.size) = some 2 := by kernel_rfl

theorem results_row_tmp {P : Program} {fn : Func} {p u : Tmp} {ty : TypeId} (h : fn.results = #[.cell p ty, .tmp u]) (tmps : Array Value) (w : World) (g : Nat) (t : TypeId) (cs : Array Value) (fr : Nat × Nat) (d : TypeDesc)
    (hp : tmps.getD p undef = .pointer (some ⟨g, 0, none⟩)) (hg : w.heap[g]? = some (.cells cs t fr))
    (hu : P.underlying ty = some d) (hd : (match d with | .struct _ | .array _ _ => true | _ => false) = true) (hi : (P.info? ty).map (·.size) = some cs.size) :
    (results fn tmps).run P w = .ok (.tuple #[.agg cs, tmps.getD u undef]) w := by
  have hp' : tmps[p]?.getD undef = .pointer (some ⟨g, 0, none⟩) := by simpa using hp
  simp [results, h, hp', asAddr, run_loadVar_row w g t ty cs fr d hg hu hd hi]

theorem wmade_calls (s : Int) (ad : Option Addr) (n c : Nat) (V : Int) (w : World) (h : Can w ad n c V) (hV : 0 ≤ V) :
    Calls Tryd.prog 158 #[.int .i8 s, .slice ad n c] w (fun e w' => e = .returned (.agg #[.bool (decide (s = -1) && decide (0 < V)), .slice ad n c]) ∧ Below w.heap.size w w') := by
  have hz := h.zero_iff hV
  have hb : ∀ r : Bool, Below w.heap.size w (w.alloc (.cells #[.bool r, .slice ad n c] 48)) := fun r => (Below.refl _ _).alloc (Nat.le_refl _) _
  have HB := Lib.hid hb
  clear hb h
  obtain ⟨r, hr⟩ : ∃ r, r = (decide (s = -1) && decide (0 < V)) := ⟨_, rfl⟩
  rw [← hr]
  by_cases hs : s = -1
  · subst hs
    by_cases hn : n = 0
    · subst hn
      have HR := Lib.hid (show r = false by rw [hr, hz.1 rfl]; decide)
      clear hz hr
      go_enter Tryd.func158, Tryd.ntmps158
      go_wp2
      refine bodyPost_ret (results_cell_row rfl _ _ w.heap.size 48 #[.bool false, .slice ad 0 c] (0, 0) _ rfl (heap_alloc_new _ _) Tryd.underlying48 rfl size_int) rfl ?_
      rw [HR.out]
      exact ⟨rfl, HB.out _⟩
    · have HR := Lib.hid (show r = true by rw [hr]; simp; omega)
      have hn2 : decide (0 < n) = true := by simp; omega
      clear hz hn hr
      go_enter Tryd.func158, Tryd.ntmps158
      go_wp2
      refine bodyPost_ret (results_cell_row rfl _ _ w.heap.size 48 #[.bool true, .slice ad n c] (0, 0) _ rfl (heap_alloc_new _ _) Tryd.underlying48 rfl size_int) rfl ?_
      rw [HR.out]
      exact ⟨rfl, HB.out _⟩
  · have HR := Lib.hid (show r = false by rw [hr, decide_eq_false hs]; rfl)
    have hs2 : (s == -1) = false := by simpa using hs
    clear hz hs hr
    go_enter Tryd.func158, Tryd.ntmps158
    go_wp2
    refine bodyPost_ret (results_cell_row rfl _ _ w.heap.size 48 #[.bool false, .slice ad n c] (0, 0) _ rfl (heap_alloc_new _ _) Tryd.underlying48 rfl size_int) rfl ?_
    rw [HR.out]
    exact ⟨rfl, HB.out _⟩

theorem wsigned_calls (ng : Bool) (ad : Option Addr) (n c : Nat) (V : Int) (w : World) (h : Num w ad n c V) (hn : n ≤ 70368744177663) :
    Calls Tryd.prog 159 #[.agg #[.bool ng, .slice ad n c]] w (fun e w' => ∃ ad' n' c', e = .returned (.tuple #[.int .i8 (sgI (sI ng V)), .slice ad' n' c']) ∧ Can w' ad' n' c' V ∧ Below w.heap.size w w') := by
  have hV := h.nonneg
  have bA : Below w.heap.size w (w.alloc (.cells #[.bool ng, .slice ad n c] 48)) := (Below.refl _ _).alloc (Nat.le_refl _) _
  have c0 : (w.alloc (.cells #[.bool ng, .slice ad n c] 48)).cell? ⟨w.heap.size, 0, none⟩ = some (.bool ng) := World.cell?_alloc_at _ _ _ _ rfl
  have c1 : (w.alloc (.cells #[.bool ng, .slice ad n c] 48)).cell? ⟨w.heap.size, 1, none⟩ = some (.slice ad n c) := World.cell?_alloc_at _ _ _ _ rfl
  have HN := Lib.hid (num_norm ad n c V _ (h.below bA (Nat.le_refl _)) hn)
  clear h
  go_enter Tryd.func159, Tryd.ntmps159
  go_wp2_with fail
  refine (HN.out).mono ?_
  rintro e w1 ⟨ad1, n1, c1', rfl, f1, b1⟩
  have d0 := below_cell b1 (Nat.le_refl _) c0
  have d1 := below_cell b1 (Nat.le_refl _) c1
  have b2 := below_trans bA b1
  clear c0 c1 HN
  have hz := f1.zero_iff hV
  by_cases hn1 : n1 = 0
  · have hV0 := hz.1 hn1
    subst hn1 hV0
    have HS := Lib.hid (show sgI (sI ng 0) = 0 by cases ng <;> decide)
    clear hz
    go_wp2
    go_ret2
    rw [HS.out]
    exact ⟨none, 0, 0, rfl, ⟨Nat.le_refl _, by rw [dg_zero]; exact Rds.nil _ _ _⟩, b2⟩
  · have hn2 : ((n1 : Int) == 0) = false := by simp; omega
    have hV1 : 0 < V := by have : V ≠ 0 := fun e => hn1 (hz.2 e); omega
    clear hz hn1
    cases ng
    · have HS := Lib.hid (show sgI (sI false V) = 1 by show sgI V = 1; unfold sgI; rw [if_neg (by omega), if_neg (by omega)])
      go_wp2
      go_ret2
      rw [HS.out]
      exact ⟨_, _, _, rfl, f1, b2⟩
    · have HS := Lib.hid (show sgI (sI true V) = -1 by show sgI (-V) = -1; unfold sgI; rw [if_pos (by omega)])
      go_wp2
      go_ret2
      rw [HS.out]
      exact ⟨_, _, _, rfl, f1, b2⟩
end Go.Proofs.YtmnabilgpndjmaaDoor

/- crucibleref04.Parts. -/
namespace Go.Proofs.YtmnabilgpndjmaaDoor
open Go.RowKit

theorem half_step (rm m : Int) (k : Nat) (h : rm = m * 2 ^ k) (he : m % 2 = 0) : rm = m / 2 * 2 ^ (k + 1) := by
  have e : m = m / 2 * 2 := by omega
  rw [h, Int.pow_succ, Int.mul_comm (2 ^ k) 2, ← Int.mul_assoc, ← e]

theorem place_small (rm m : Int) (k : Nat) (hm : 0 < m) (hr : rm < 9007199254740992) (h : rm = m * 2 ^ k) : k < 53 := by
  have h1 : (2 : Int) ^ k ≤ m * 2 ^ k := by
    have h2 : (0 : Int) < 2 ^ k := Int.pow_pos (by omega)
    have := Int.mul_le_mul_of_nonneg_right (show (1 : Int) ≤ m by omega) (Int.le_of_lt h2)
    omega
  have h3 : (2 : Int) ^ k < 2 ^ 53 := by
    rw [show (2 : Int) ^ 53 = 9007199254740992 from by decide]
    omega
  rcases Nat.lt_or_ge k 53 with h4 | h4
  · exact h4
  · have := pow_le (b := 2) (by omega) h4
    omega

set_option maxRecDepth 20000 in
set_option maxHeartbeats 2000000 in
theorem rparts_calls (W : Nat) (hW : Wide W) (x : Int) (hx : 0 ≤ x ∧ x < 18446744073709551616) (w : World) :
    Calls Tryd.prog 28 #[.int .i64 W, .int .u64 x] w (fun e w' => e = .returned (.tuple #[.bool (pNeg W x), .int .u64 (pM W x), .int .i64 (pE W x), .bool (pOk W x)]) ∧ Below w.heap.size w w') := by
  have HZ := Lib.hid (rsize_calls W hW x hx)
  have HI := Lib.hid (rinf_calls W hW)
  have HNg := Lib.hid (rneg_calls W hW x)
  have hz0 : 0 ≤ sizeW W x := by
    have : 0 < sgnW W := Int.pow_pos (by omega)
    unfold sizeW; split <;> omega
  have hib : infW W ≤ 9218868437227405312 := by rcases hW with rfl | rfl | rfl <;> decide
  have HM := Lib.hid (show pM W x = if pOk W x && !decide (sizeW W x = 0) then oddI (rawM W x) else 0 from rfl)
  have HE := Lib.hid (show pE W x = if pOk W x && !decide (sizeW W x = 0) then rawE W x + tzI (rawM W x) else 0 from rfl)
  have HN := Lib.hid (show pNeg W x = (pOk W x && negW W x) from rfl)
  have HO := Lib.hid (show pOk W x = decide (sizeW W x < infW W) from rfl)
  by_cases t1 : infW W ≤ sizeW W x
  · have E1 := Lib.hid (show pOk W x = false by rw [HO.out]; simp; omega)
    have E2 := Lib.hid (show pNeg W x = false by rw [HN.out, E1.out]; rfl)
    have E3 := Lib.hid (show pM W x = 0 by rw [HM.out, E1.out]; rfl)
    have E4 := Lib.hid (show pE W x = 0 by rw [HE.out, E1.out]; rfl)
    clear HM HE HN HO
    generalize infW W = I at *
    generalize sizeW W x = z at *
    go_enter Tryd.func28, Tryd.ntmps28
    go_wp2_with fail
    refine (HZ.out w).mono ?_
    rintro e w' ⟨rfl, rfl⟩
    go_wp2_with fail
    refine (HI.out w).mono ?_
    rintro e w1 ⟨rfl, b1⟩
    go_wp2
    ((try simp only [Exit.inBlock, Exit.then]); refine bodyPost_ret (results_tmp4 rfl _ _ _) rfl ?_)
    rw [E1.out, E2.out, E3.out, E4.out]
    exact ⟨rfl, b1⟩
  · have HNum := Lib.hid (rnumber_calls W hW (sizeW W x) ⟨hz0, by omega⟩)
    have E1 := Lib.hid (show pOk W x = true by rw [HO.out]; simp; omega)
    have E2 := Lib.hid (show pNeg W x = negW W x by rw [HN.out, E1.out]; rfl)
    have hrE := rawE_bd hW x (by omega)
    have hrM : rawM W x < 9007199254740992 := raw_lt hW x
    have hrM0 : 0 ≤ rawM W x := by unfold rawM; omega
    have HRz := Lib.hid (show 0 < sizeW W x → 0 < rawM W x from raw_pos x)
    have HRz2 : Hid (sizeW W x = 0 → rawM W x = 0) := fun h => by
      unfold rawM numM
      rw [h, show (0 : Int).toNat = 0 from rfl, if_pos (Nat.two_pow_pos _)]
      rfl
    have HNum2 : Hid (∀ w, Calls Tryd.prog 74 #[.int .i64 W, .int .u64 (sizeW W x)] w (fun e w' => e = .returned (.tuple #[.int .u64 (rawM W x), .int .i64 (rawE W x)]) ∧ Below w.heap.size w w')) := HNum.out
    clear HNum HO HN
    generalize infW W = I at *
    generalize pM W x = m at *
    generalize pE W x = p at *
    generalize rawM W x = rm at *
    generalize rawE W x = re at *
    generalize sizeW W x = z at *
    by_cases t2 : z = 0
    · have E3 := Lib.hid (show m = 0 by rw [HM.out, t2]; simp)
      have E4 := Lib.hid (show p = 0 by rw [HE.out, t2]; simp)
      have t3 : (rm == 0) = true := by simpa using HRz2.out t2
      clear HM HE t2
      go_enter Tryd.func28, Tryd.ntmps28
      go_wp2_with fail
      refine (HZ.out w).mono ?_
      rintro e w' ⟨rfl, rfl⟩
      go_wp2_with fail
      refine (HI.out w).mono ?_
      rintro e w1 ⟨rfl, b1⟩
      go_wp2_with fail
      refine (HZ.out w1).mono ?_
      rintro e w' ⟨rfl, rfl⟩
      go_wp2_with fail
      refine (HNum2.out w1).mono ?_
      rintro e w2 ⟨rfl, b2⟩
      go_wp2_with fail
      refine (HNg.out w2).mono ?_
      rintro e w' ⟨rfl, rfl⟩
      go_wp2
      ((try simp only [Exit.inBlock, Exit.then]); refine bodyPost_ret (results_tmp4 rfl _ _ _) rfl ?_)
      rw [E1.out, E2.out, E3.out, E4.out]
      exact ⟨rfl, below_trans b1 b2⟩
    · have hr0 := HRz.out (by omega)
      have E3 := Lib.hid (show m = oddI rm by rw [HM.out, E1.out, decide_eq_false t2]; rfl)
      have E4 := Lib.hid (show p = re + tzI rm by rw [HE.out, E1.out, decide_eq_false t2]; rfl)
      have t3 : (rm == 0) = false := by simp; omega
      clear HM HE t2
      go_enter Tryd.func28, Tryd.ntmps28
      go_wp2_with fail
      refine (HZ.out w).mono ?_
      rintro e w' ⟨rfl, rfl⟩
      go_wp2_with fail
      refine (HI.out w).mono ?_
      rintro e w1 ⟨rfl, b1⟩
      go_wp2_with fail
      refine (HZ.out w1).mono ?_
      rintro e w' ⟨rfl, rfl⟩
      go_wp2_with fail
      refine (HNum2.out w1).mono ?_
      rintro e w2 ⟨rfl, b2⟩
      go_wp2_with fail
      go_loop [8, 9] (fun s8 s9 => ∃ (a : Int) (k : Nat), s8 = .int .u64 a ∧ s9 = .int .i64 (re + k) ∧ 0 < a ∧ a < 9007199254740992 ∧ k < 53 ∧ Hid (rm = a * 2 ^ k)) (fun s8 _ => (intOf s8).toNat)
      case atStart => exact ⟨rm, 0, rfl, by simp, hr0, hrM, by omega, by show rm = rm * 2 ^ 0; simp⟩
      case round =>
        obtain ⟨a, k, rfl, rfl, ha0, ha1, hk, H⟩ := hrel
        by_cases hev : a % 2 = 0
        · have W1 : a.tmod 2 = 0 := by rw [Int.tmod_eq_emod_of_nonneg (by omega)]; exact hev
          have W2 : a.tdiv 2 = a / 2 := Int.tdiv_eq_ediv_of_nonneg (by omega)
          have H2 := Lib.hid (half_step rm a k H.out hev)
          have hk2 := place_small rm (a / 2) (k + 1) (by omega) hrM H2.out
          have W3 : IntKind.i64.wrap (re + k + 1) = re + k + 1 := IntWalk.i64_in _ (by omega)
          go_wp2
          go_round
          case rel => exact ⟨a / 2, k + 1, rfl, by congr 1; omega, by omega, by omega, hk2, H2.out⟩
          case measure => simp [intOf]; omega
        · have hod : a % 2 = 1 := by omega
          have W1 : a.tmod 2 = 1 := by rw [Int.tmod_eq_emod_of_nonneg (by omega)]; exact hod
          have K := odd_of rm a k hr0 (by omega) H.out hod
          have E5 := Lib.hid (show m = a by rw [E3.out, K.1])
          have E6 := Lib.hid (show p = re + k by rw [E4.out, K.2])
          clear K hev
          go_wp2_with fail
          refine (HNg.out w2).mono ?_
          rintro e w' ⟨rfl, rfl⟩
          go_wp2
          ((try simp only [Exit.inBlock, Exit.then]); refine bodyPost_ret (results_tmp4 rfl _ _ _) rfl ?_)
          rw [E1.out, E2.out, E5.out, E6.out]
          exact ⟨rfl, below_trans b1 b2⟩
end Go.Proofs.YtmnabilgpndjmaaDoor

/- The table of places out of a row's list. -/
namespace Go.Proofs.YtmnabilgpndjmaaDoor
open Go.RowKit

theorem gTz : Tryd.prog.globalNamed "math/bits.deBruijn64tab" = some 1 := by kernel_rfl
theorem gTzType : (Tryd.prog.globals[1]?).map (·.type) = some 179 := by kernel_rfl
theorem cellsTz : Tryd.prog.cellsOf 179 = 64 := by kernel_rfl
theorem cellsU8 : Tryd.prog.cellsOf 5 = 1 := by kernel_rfl
theorem tz_get : ∀ j, j < 64 → (Lib.deBruijn64tab.map (fun n : Nat => (n : Int))).getD j 0 = ((Lib.deBruijn64tab.getD j 0 : Nat) : Int) := by decide

theorem tab_of_laid {W : World} {rest : List (String × DataW Unit)} (h : laidMet Tryd.prog (("math/bits.deBruijn64tab", Rows.laid_math_bits_deBruijn64tab) :: rest) W) : Tab W := by
  have ht : Lib.TabIs Tryd.prog W "math/bits.deBruijn64tab" .u8 (Lib.deBruijn64tab.map (fun n : Nat => (n : Int))) :=
    Lib.tabIs_of_head (rest := rest) gTz gTzType Tryd.underlying179 Tryd.underlying5 cellsU8 cellsTz h
  intro j hj
  rw [← tz_get j hj]
  exact ht.cell gTz j (by decide +revert)
end Go.Proofs.YtmnabilgpndjmaaDoor

/- Printed by law4.py. -/
namespace Go.Proofs.YtmnabilgpndjmaaDoor
open Go.RowKit

/-- The width that a statement's first number says. -/
def wd (w0 : Int) : Nat := if w0 % 4 = 0 then 16 else if w0 % 4 = 2 then 64 else 32
theorem wd_0 {w0 : Int} (h : w0 % 4 = 0) : wd w0 = 16 := by unfold wd; rw [if_pos h]
theorem wd_1 {w0 : Int} (h : w0 % 4 = 1) : wd w0 = 32 := by unfold wd; rw [if_neg (by omega), if_neg (by omega)]
theorem wd_2 {w0 : Int} (h : w0 % 4 = 2) : wd w0 = 64 := by unfold wd; rw [if_neg (by omega), if_pos h]
theorem wd_3 {w0 : Int} (h : w0 % 4 = 3) : wd w0 = 32 := by unfold wd; rw [if_neg (by omega), if_neg (by omega)]
theorem wide_wd (w0 : Int) : Wide (wd w0) := by
  unfold wd Wide
  split
  · omega
  · split <;> omega
theorem tmod4 {w0 c : Int} (hw : 0 ≤ w0 ∧ w0 < 256) (h : w0 % 4 = c) : w0.tmod 4 = c := by rw [Int.tmod_eq_emod_of_nonneg hw.1]; exact h

theorem lwidth_0 (w0 : Int) (hw : 0 ≤ w0 ∧ w0 < 256) (hc : w0 % 4 = 0) (w : World) : Calls Tryd.prog 17 #[.int .u8 w0] w (fun e w' => e = .returned (.int .i64 16) ∧ w = w') := by
  have hc2 := tmod4 hw hc
  go_enter Tryd.func17, Tryd.ntmps17
  go_wp2
  go_ret
  exact ⟨rfl, rfl⟩

theorem lwidth_1 (w0 : Int) (hw : 0 ≤ w0 ∧ w0 < 256) (hc : w0 % 4 = 1) (w : World) : Calls Tryd.prog 17 #[.int .u8 w0] w (fun e w' => e = .returned (.int .i64 32) ∧ w = w') := by
  have hc2 := tmod4 hw hc
  go_enter Tryd.func17, Tryd.ntmps17
  go_wp2
  go_ret
  exact ⟨rfl, rfl⟩

theorem lwidth_2 (w0 : Int) (hw : 0 ≤ w0 ∧ w0 < 256) (hc : w0 % 4 = 2) (w : World) : Calls Tryd.prog 17 #[.int .u8 w0] w (fun e w' => e = .returned (.int .i64 64) ∧ w = w') := by
  have hc2 := tmod4 hw hc
  go_enter Tryd.func17, Tryd.ntmps17
  go_wp2
  go_ret
  exact ⟨rfl, rfl⟩

theorem lwidth_3 (w0 : Int) (hw : 0 ≤ w0 ∧ w0 < 256) (hc : w0 % 4 = 3) (w : World) : Calls Tryd.prog 17 #[.int .u8 w0] w (fun e w' => e = .returned (.int .i64 32) ∧ w = w') := by
  have hc2 := tmod4 hw hc
  go_enter Tryd.func17, Tryd.ntmps17
  go_wp2
  go_ret
  exact ⟨rfl, rfl⟩

theorem lwidth_calls (w0 : Int) (hw : 0 ≤ w0 ∧ w0 < 256) (w : World) : Calls Tryd.prog 17 #[.int .u8 w0] w (fun e w' => e = .returned (.int .i64 (wd w0 : Nat)) ∧ w = w') := by
  rcases (show w0 % 4 = 0 ∨ w0 % 4 = 1 ∨ w0 % 4 = 2 ∨ w0 % 4 = 3 by omega) with hc | hc | hc | hc
  · rw [wd_0 hc]
    exact lwidth_0 w0 hw hc w
  · rw [wd_1 hc]
    exact lwidth_1 w0 hw hc w
  · rw [wd_2 hc]
    exact lwidth_2 w0 hw hc w
  · rw [wd_3 hc]
    exact lwidth_3 w0 hw hc w
end Go.Proofs.YtmnabilgpndjmaaDoor

/- Whole numbers: Norm of the program. -/
namespace Go.Proofs.YtmnabilgpndjmaaDoor
open Go.RowKit

theorem made_sign (N : Int) (V : Int) (hV : V = N.natAbs) : (decide (sgI N = -1) && decide (0 < V)) = decide (N < 0) := by
  unfold sgI
  by_cases h : N < 0
  · rw [if_pos h, decide_eq_true h]; simp; omega
  · rw [if_neg h, decide_eq_false h]
    split <;> simp

theorem wnorm_calls (ng : Bool) (ad : Option Addr) (n c : Nat) (V : Int) (w : World) (h : Num w ad n c V) (hn : n ≤ 70368744177663) :
    Calls Tryd.prog 134 #[.agg #[.bool ng, .slice ad n c]] w (RetInt (sI ng V) w) := by
  have hV := h.nonneg
  have b1 : Below w.heap.size w (w.alloc (.cells #[.bool ng, .slice ad n c] 48)) := (Below.refl _ _).alloc (Nat.le_refl _) _
  have b2 : Below w.heap.size w ((w.alloc (.cells #[.bool ng, .slice ad n c] 48)).alloc (.cells #[.bool false, .slice none 0 0] 48)) := below_alloc b1 _
  have k1 : Cel ((w.alloc (.cells #[.bool ng, .slice ad n c] 48)).alloc (.cells #[.bool false, .slice none 0 0] 48)) (w.heap.size + 1) 48 [.bool false, .slice none 0 0] := Cel.made _ _ _ _ (by simp)
  have HS := Lib.hid (wsigned_calls ng ad n c V _ (h.below b2 (Nat.le_refl _)) hn)
  have HG := Lib.hid (made_sign (sI ng V) V (sI_abs ng V hV).symm)
  have HA := Lib.hid (sI_abs ng V hV)
  generalize sI ng V = N at *
  clear h b1
  go_enter Tryd.func134, Tryd.ntmps134
  go_wp2_with fail
  refine (HS.out).mono ?_
  rintro e w1 ⟨ad1, n1, d1, rfl, f1, b3⟩
  have k2 := k1.next b3
  have b4 := below_trans b2 b3
  clear k1 HS b2 b3
  have HM := Lib.hid (wmade_calls (sgI N) ad1 n1 d1 V w1 f1 hV)
  rw [HG.out] at HM
  generalize sgI N = s at *
  have hb0 : w.heap.size ≤ w.heap.size + 1 := Nat.le_succ _
  generalize w.heap.size + 1 = b at *
  go_wp2_with fail
  refine (HM.out).mono ?_
  rintro e w2 ⟨rfl, b5⟩
  have k3 := k2.next b5
  have c0 := k3.cell 0 _ rfl
  have c1 := k3.cell 1 _ rfl
  have g0 := k3.free 0
  have g1 := k3.free 1
  go_wp2
  refine bodyPost_ret (results_cell_row rfl _ _ b 48 #[.bool (decide (N < 0)), .slice ad1 n1 d1] (0, 0) _ rfl ((k3.set 0 _).set 1 _).row Tryd.underlying48 rfl size_int) rfl ?_
  refine ⟨_, _, _, rfl, ?_, below_set (below_set (below_trans b4 b5) _ _ _ hb0) _ _ _ hb0⟩
  rw [HA.out]
  exact (f1.below b5 (Nat.le_refl _)).poke2 k3 _ _
end Go.Proofs.YtmnabilgpndjmaaDoor

/- Printed by ieee3.py. -/
namespace Go.Proofs.YtmnabilgpndjmaaDoor
open Go.RowKit

theorem rint_calls (W : Nat) (hW : Wide W) (x : Int) (hx : 0 ≤ x ∧ x < 18446744073709551616) (w : World) : Calls Tryd.prog 32 #[.int .i64 W, .int .u64 x] w (RetIntB (intN W x) (intOk W x) w) := by
  have b0 : Below w.heap.size w (w.alloc (.cells #[.bool false, .slice none 0 0] 48)) := (Below.refl _ _).alloc (Nat.le_refl _) _
  have k0 : Cel (w.alloc (.cells #[.bool false, .slice none 0 0] 48)) w.heap.size 48 [.bool false, .slice none 0 0] := Cel.made _ _ _ _ rfl
  have HP := Lib.hid (rparts_calls W hW x hx (w.alloc (.cells #[.bool false, .slice none 0 0] 48)))
  have hM := pM_bd hW x
  have hE := pE_bd hW x
  have H1 := Lib.hid (show intOk W x = (pOk W x && decide (0 ≤ pE W x)) from rfl)
  have H2 := Lib.hid (show intV W x = if intOk W x then pM W x * 2 ^ (pE W x).toNat else 0 from rfl)
  have H3 := Lib.hid (show intN W x = if pNeg W x then -intV W x else intV W x from rfl)
  generalize intOk W x = ok at *
  generalize intN W x = N at *
  generalize intV W x = V at *
  generalize pNeg W x = ng at *
  generalize pM W x = m at *
  generalize pE W x = p at *
  generalize pOk W x = fin at *
  clear hW hx
  cases fin
  · have HK := Lib.hid (show ok = false from H1.out)
    have HV := Lib.hid (show N = 0 by rw [H3.out, H2.out, HK.out]; cases ng <;> rfl)
    clear H1 H2 H3
    go_enter Tryd.func32, Tryd.ntmps32
    go_wp2_with fail
    refine (HP.out).mono ?_
    rintro e w1 ⟨rfl, b1⟩
    have k1 := k0.next b1
    have b2 := below_trans b0 b1
    have c0 := k1.cell 0 _ rfl
    have c1 := k1.cell 1 _ rfl
    have g0 := k1.free 0
    have g1 := k1.free 1
    go_wp2
    refine bodyPost_ret (results_row_tmp rfl _ _ w.heap.size 48 #[.bool false, .slice none 0 0] (0, 0) _ rfl ((k1.set 0 _).set 1 _).row Tryd.underlying48 rfl size_int) rfl ?_
    rw [HV.out, HK.out]
    refine ⟨none, 0, 0, rfl, ⟨Nat.le_refl _, by rw [show ((0 : Int).natAbs : Int) = 0 from rfl, dg_zero]; exact Rds.nil _ _ _⟩, ?_⟩
    exact below_set (below_set b2 _ _ _ (Nat.le_refl _)) _ _ _ (Nat.le_refl _)
  · by_cases hp0 : p < 0
    · have HK := Lib.hid (show ok = false by rw [H1.out, decide_eq_false (by omega)]; rfl)
      have HV := Lib.hid (show N = 0 by rw [H3.out, H2.out, HK.out]; cases ng <;> rfl)
      clear H1 H2 H3
      go_enter Tryd.func32, Tryd.ntmps32
      go_wp2_with fail
      refine (HP.out).mono ?_
      rintro e w1 ⟨rfl, b1⟩
      have k1 := k0.next b1
      have b2 := below_trans b0 b1
      have c0 := k1.cell 0 _ rfl
      have c1 := k1.cell 1 _ rfl
      have g0 := k1.free 0
      have g1 := k1.free 1
      go_wp2
      refine bodyPost_ret (results_row_tmp rfl _ _ w.heap.size 48 #[.bool false, .slice none 0 0] (0, 0) _ rfl ((k1.set 0 _).set 1 _).row Tryd.underlying48 rfl size_int) rfl ?_
      rw [HV.out, HK.out]
      refine ⟨none, 0, 0, rfl, ⟨Nat.le_refl _, by rw [show ((0 : Int).natAbs : Int) = 0 from rfl, dg_zero]; exact Rds.nil _ _ _⟩, ?_⟩
      exact below_set (below_set b2 _ _ _ (Nat.le_refl _)) _ _ _ (Nat.le_refl _)
    · have HK := Lib.hid (show ok = true by rw [H1.out, decide_eq_true (by omega)]; rfl)
      have HV := Lib.hid (show V = m * 2 ^ p.toNat by rw [H2.out, HK.out]; rfl)
      have HN := Lib.hid (show N = sI ng V from H3.out)
      obtain ⟨s1, s2, s3, s4⟩ := shl_fits m 2 p hM.1 (Int.lt_of_lt_of_le hM.2 (by decide)) (by omega) (by omega)
      rw [← HV.out] at s2 s3
      have S2 := Lib.hid s2
      have S1 := Lib.hid s1
      have HA := Lib.hid (show ((N.natAbs : Nat) : Int) = V by rw [HN.out]; exact sI_abs ng V s3)
      have HNg := Lib.hid (show decide (N < 0) = (ng && decide (0 < m)) by
        rw [HN.out, sI_neg ng V s3]
        congr 1
        rw [Bool.eq_iff_iff]
        simp only [decide_eq_true_eq]
        have hp : (0 : Int) < 2 ^ p.toNat := Int.pow_pos (by omega)
        rw [HV.out]
        constructor
        · intro h
          rcases Int.lt_or_eq_of_le hM.1 with h1 | h1
          · exact h1
          · rw [← h1, Int.zero_mul] at h; omega
        · intro h; exact Int.mul_pos h hp)
      clear H1 H2 H3 s4 s2 s1
      go_enter Tryd.func32, Tryd.ntmps32
      go_wp2_with fail
      refine (HP.out).mono ?_
      rintro e w1 ⟨rfl, b1⟩
      have k1 := k0.next b1
      have b2 := below_trans b0 b1
      have F1 := Lib.hid ((rfrom_calls m w1 hM.1 (by omega)).mono fun e w' q => q.can)
      go_wp2_with fail
      refine (F1.out).mono ?_
      rintro e w2 ⟨ad2, n2, d2, rfl, f2, b3⟩
      have l2 := f2.len_le 2 (Int.lt_of_lt_of_le hM.2 (by decide))
      have H := num_rshl ad2 n2 d2 m p w2 (f2.num hM.1) (by omega) (by omega)
      rw [S1.out, S2.out] at H
      have F2 := Lib.hid H
      clear H
      go_wp2_with fail
      refine (F2.out).mono ?_
      rintro e w3 ⟨ad3, n3, d3, rfl, f3, b4⟩
      have k3 := (k1.next b3).next b4
      have b6 := below_trans b2 (below_trans b3 b4)
      have c0 := k3.cell 0 _ rfl
      have c1 := k3.cell 1 _ rfl
      have g0 := k3.free 0
      have g1 := k3.free 1
      obtain ⟨nb, hnb⟩ : ∃ nb, nb = decide (N < 0) := ⟨_, rfl⟩
      have HB := Lib.hid hnb
      clear hnb
      cases ng
      · skip
        have HE := Lib.hid (show nb = false by rw [HB.out, HNg.out]; simp)
        go_wp2
        refine bodyPost_ret (results_row_tmp rfl _ _ w.heap.size 48 #[.bool false, .slice ad3 n3 d3] (0, 0) _ rfl ((k3.set 0 _).set 1 _).row Tryd.underlying48 rfl size_int) rfl ?_
        rw [HK.out]
        refine ⟨ad3, n3, d3, by rw [← HB.out, HE.out]; rfl, ?_, below_set (below_set b6 _ _ _ (Nat.le_refl _)) _ _ _ (Nat.le_refl _)⟩
        rw [HA.out]
        exact f3.poke2 k3 _ _
      · skip
        have HE := Lib.hid (show nb = decide (0 < m) by rw [HB.out, HNg.out]; simp)
        go_wp2
        refine bodyPost_ret (results_row_tmp rfl _ _ w.heap.size 48 #[.bool (decide (0 < m)), .slice ad3 n3 d3] (0, 0) _ rfl ((k3.set 0 _).set 1 _).row Tryd.underlying48 rfl size_int) rfl ?_
        rw [HK.out]
        refine ⟨ad3, n3, d3, by rw [← HB.out, HE.out]; rfl, ?_, below_set (below_set b6 _ _ _ (Nat.le_refl _)) _ _ _ (Nat.le_refl _)⟩
        rw [HA.out]
        exact f3.poke2 k3 _ _
end Go.Proofs.YtmnabilgpndjmaaDoor
