/- Contracts of functions, and plain facts, part 12. -/
import Derived.Lib.SmallJoins
import Derived.Deep.Fields
import Derived.KernelRfl
import Derived.Laws.Rows
import Derived.BigQuiet
import Derived.Deep.QuietTactic
import Derived.Test.YtoimhjcpeifegaaGreatDoorProg
import Derived.Test.YtoimhjcpeifegaaGreatDoorPk2
import Derived.Test.YtoimhjcpeifegaaGreatDoorPk4
import Derived.Test.YtoimhjcpeifegaaGreatDoorPk6
import Derived.Test.YtoimhjcpeifegaaGreatDoorPk7
import Derived.Test.YtoimhjcpeifegaaGreatDoorPk9
set_option linter.unusedVariables false
set_option linter.unusedSimpArgs false
/- Uint by worth alone. -/
namespace Go.Proofs.YtoimhjcpeifegaaGreatDoor
open Go.RowKit

theorem num_uint (ad : Option Addr) (n c : Nat) (V : Int) (w : World) (h : Num w ad n c V) (hn : n ≤ 70368744177663) :
    Calls Tryz.prog 122 #[.slice ad n c] w (fun e w' => e = .returned (.tuple #[.int .u64 (low64 V), .bool (fits64 V)]) ∧ w = w') := by
  obtain ⟨xs, h1, h2, rfl⟩ := h.row
  exact (uint_calls ad n c xs w (by omega) h.le h1 h2).mono fun e w' q => q
end Go.Proofs.YtoimhjcpeifegaaGreatDoor


/- A row in memory that a call may write upon, known at its first places; one block alone has turned. -/
namespace Go.Proofs.YtoimhjcpeifegaaGreatDoor
open Go.RowKit

/-- The first cells of block b read as xs; they may be written upon. -/
def RowAt (w : World) (b : Nat) (t : TypeId) (k : IntKind) (xs : List Int) : Prop :=
  ∃ cs, w.heap[b]? = some (.cells cs t (0, 0)) ∧ xs.length ≤ cs.size ∧ ∀ j, j < xs.length → cs[j]? = some (.int k (xs[j]?.getD 0))

theorem RowAt.lt {w : World} {b : Nat} {t : TypeId} {k : IntKind} {xs : List Int} (h : RowAt w b t k xs) : b < w.heap.size := by
  obtain ⟨cs, h1, _⟩ := h
  exact (Array.getElem?_eq_some_iff.1 h1).1
theorem RowAt.cell {w : World} {b : Nat} {t : TypeId} {k : IntKind} {xs : List Int} (h : RowAt w b t k xs) (j : Nat) (hj : j < xs.length) :
    w.cell? ⟨b, j, none⟩ = some (.int k (xs[j]?.getD 0)) := by
  obtain ⟨cs, h1, _, h3⟩ := h
  simp [World.cell?, h1, h3 j hj]
theorem RowAt.free {w : World} {b : Nat} {t : TypeId} {k : IntKind} {xs : List Int} (h : RowAt w b t k xs) (j : Nat) : w.frozen? ⟨b, j, none⟩ = false := by
  obtain ⟨cs, h1, _⟩ := h
  simp [World.frozen?, h1]
theorem RowAt.drewN {w : World} {b : Nat} {t : TypeId} {k : IntKind} {xs : List Int} (h : RowAt w b t k xs) (n : Nat) : RowAt (w.drewN n) b t k xs := h
theorem RowAt.drew {w : World} {b : Nat} {t : TypeId} {k : IntKind} {xs : List Int} (h : RowAt w b t k xs) : RowAt w.drew b t k xs := h
theorem RowAt.set {w : World} {b : Nat} {t : TypeId} {k : IntKind} {xs : List Int} (h : RowAt w b t k xs) (j : Nat) (x : Int) : RowAt (w.setCell ⟨b, j, none⟩ (.int k x)) b t k (xs.set j x) := by
  obtain ⟨cs, h1, h2, h3⟩ := h
  refine ⟨cs.setIfInBounds j (.int k x), ?_, by simpa using h2, fun i hi => ?_⟩
  · simp only [World.setCell, Array.getElem?_modify, h1, if_true, Option.map_some, Option.isSome_none]
    simp
  · rw [List.length_set] at hi
    rw [Array.getElem?_setIfInBounds, List.getElem?_set]
    by_cases e : j = i
    · subst e
      rw [if_pos rfl, if_pos (by omega), if_pos rfl, if_pos hi]
      rfl
    · rw [if_neg e, if_neg e]
      exact h3 i hi
theorem RowAt.below {w w1 : World} {b : Nat} {t : TypeId} {k : IntKind} {xs : List Int} (h : RowAt w b t k xs) {B : Nat} (hb : Below B w w1) (hB : b < B) : RowAt w1 b t k xs := by
  obtain ⟨cs, h1, h2⟩ := h
  exact ⟨cs, (hb.block b hB).trans h1, h2⟩
theorem RowAt.part {w : World} {b : Nat} {t : TypeId} {k : IntKind} {xs : List Int} (h : RowAt w b t k xs) (j n : Nat) (hj : j + n ≤ xs.length) : Rds w k (some ⟨b, j, none⟩) n ((xs.drop j).take n) := by
  refine ⟨by rw [List.length_take, List.length_drop]; omega, fun i hi => ⟨_, rfl, ?_⟩⟩
  have e : (⟨b, j, none⟩ : Addr).add i = ⟨b, j + i, none⟩ := by unfold Addr.add; split <;> simp_all
  rw [e, h.cell (j + i) (by omega), List.getElem?_take_of_lt hi, List.getElem?_drop]
theorem RowAt.first {w : World} {b : Nat} {t : TypeId} {k : IntKind} {xs : List Int} (h : RowAt w b t k xs) (n : Nat) (hn : n ≤ xs.length) : RowAt w b t k (xs.take n) := by
  obtain ⟨cs, h1, h2, h3⟩ := h
  refine ⟨cs, h1, by rw [List.length_take]; omega, fun j hj => ?_⟩
  rw [List.length_take] at hj
  rw [h3 j (by omega), List.getElem?_take_of_lt (by omega)]
theorem RowAt.rds {w : World} {b : Nat} {t : TypeId} {k : IntKind} {xs : List Int} (h : RowAt w b t k xs) : Rds w k (some ⟨b, 0, none⟩) xs.length xs :=
  ⟨rfl, fun j hj => ⟨_, rfl, by rw [plain_add]; exact h.cell j hj⟩⟩
/-- Block b alone has turned. -/
structure Only (b : Nat) (w w' : World) : Prop where
  os : w'.os = w.os
  tape : w'.tape = w.tape
  output : w'.output = w.output
  size : w'.heap.size = w.heap.size
  rest : ∀ i, i ≠ b → w'.heap[i]? = w.heap[i]?
theorem Only.refl (b : Nat) (w : World) : Only b w w := ⟨rfl, rfl, rfl, rfl, fun _ _ => rfl⟩
theorem Only.set {b : Nat} {w W : World} (h : Only b w W) (j : Nat) (v : Value) : Only b w (W.setCell ⟨b, j, none⟩ v) := by
  refine ⟨h.os, h.tape, h.output, ?_, fun i hi => ?_⟩
  · simp only [World.setCell, Array.size_modify]
    exact h.size
  · simp only [World.setCell, Array.getElem?_modify]
    rw [if_neg (fun e => hi e.symm)]
    exact h.rest i hi
theorem Only.drewN {b : Nat} {w W : World} (h : Only b w W) (n : Nat) : Only b w (W.drewN n) := ⟨h.os, h.tape, h.output, h.size, h.rest⟩
theorem Only.drew {b : Nat} {w W : World} (h : Only b w W) : Only b w W.drew := ⟨h.os, h.tape, h.output, h.size, h.rest⟩
theorem Only.trans {b : Nat} {w w1 w2 : World} (h : Only b w w1) (k : Only b w1 w2) : Only b w w2 :=
  ⟨k.os.trans h.os, k.tape.trans h.tape, k.output.trans h.output, k.size.trans h.size, fun i hi => (k.rest i hi).trans (h.rest i hi)⟩
theorem Only.below {B b : Nat} {w0 w w' : World} (hb : Below B w0 w) (hB : B ≤ b) (h : Only b w w') : Below B w0 w' :=
  hb.trans ⟨h.os, h.tape, h.output, Nat.le_of_eq h.size.symm, fun i hi => h.rest i (by omega)⟩
theorem Rds.only {w w1 : World} {k : IntKind} {ad : Option Addr} {n : Nat} {xs : List Int} (h : Rds w k ad n xs) {b : Nat} (ho : Only b w w1) (hne : ∀ a, ad = some a → a.block ≠ b) : Rds w1 k ad n xs :=
  ⟨h.len, fun j hj => by
    obtain ⟨a, e, hc⟩ := h.cell j hj
    refine ⟨a, e, ?_⟩
    rw [← hc]
    have e2 : (a.add j).block = a.block := by unfold Addr.add; split <;> rfl
    have e3 := ho.rest a.block (hne a e)
    simp only [World.cell?, e2, e3]⟩
theorem RowAt.only {w w1 : World} {c : Nat} {t : TypeId} {k : IntKind} {xs : List Int} (h : RowAt w c t k xs) {b : Nat} (ho : Only b w w1) (hne : c ≠ b) : RowAt w1 c t k xs := by
  obtain ⟨cs, h1, h2⟩ := h
  exact ⟨cs, (ho.rest c hne).trans h1, h2⟩
theorem Blk.only {w w1 : World} {c : Nat} {t : TypeId} {k : IntKind} {xs : List Int} (h : Blk w c t k xs) {b : Nat} (ho : Only b w w1) (hne : c ≠ b) : Blk w1 c t k xs := (ho.rest c hne).trans h

end Go.Proofs.YtoimhjcpeifegaaGreatDoor


/- From a row's reading of a whole number (a struct of a sign and a list) to what the walks ask. -/
namespace Go.Proofs.YtoimhjcpeifegaaGreatDoor
open Go.ChangeShapes Go.WideShapes Go.RowKit

theorem cellsInt2 : Tryz.prog.cellsOf 34 = 2 := by kernel_rfl
theorem cellsLimb : Tryz.prog.cellsOf 23 = 1 := by kernel_rfl
theorem bytesLimb : Tryz.prog.bytesOf 23 = 4 := by kernel_rfl

end Go.Proofs.YtoimhjcpeifegaaGreatDoor


/- Whole numbers: signed, made, Norm of the program. -/
namespace Go.Proofs.YtoimhjcpeifegaaGreatDoor
open Go.RowKit

/-- A number of a sign and a size. -/
def sI (ng : Bool) (V : Int) : Int := if ng then -V else V
/-- The sign. -/
def sgI (N : Int) : Int := if N < 0 then -1 else if N = 0 then 0 else 1
theorem sI_abs (ng : Bool) (V : Int) (h : 0 ≤ V) : ((sI ng V).natAbs : Int) = V := by unfold sI; cases ng <;> simp <;> omega
/-- A whole number in normal form is told. -/
def RetInt (N : Int) (w : World) (e : Ending) (w' : World) : Prop :=
  ∃ ad n c, e = .returned (.agg #[.bool (decide (N < 0)), .slice ad n c]) ∧ Can w' ad n c N.natAbs ∧ Below w.heap.size w w'
def RetIntB (N : Int) (ok : Bool) (w : World) (e : Ending) (w' : World) : Prop :=
  ∃ ad n c, e = .returned (.tuple #[.agg #[.bool (decide (N < 0)), .slice ad n c], .bool ok]) ∧ Can w' ad n c N.natAbs ∧ Below w.heap.size w w'

theorem size_int : (Tryz.prog.info? 34).map (·.size) = some 2 := by kernel_rfl

theorem results_row_tmp {P : Program} {fn : Func} {p u : Tmp} {ty : TypeId} (h : fn.results = #[.cell p ty, .tmp u]) (tmps : Array Value) (w : World) (g : Nat) (t : TypeId) (cs : Array Value) (fr : Nat × Nat) (d : TypeDesc)
    (hp : tmps.getD p undef = .pointer (some ⟨g, 0, none⟩)) (hg : w.heap[g]? = some (.cells cs t fr))
    (hu : P.underlying ty = some d) (hd : (match d with | .struct _ | .array _ _ => true | _ => false) = true) (hi : (P.info? ty).map (·.size) = some cs.size) :
    (results fn tmps).run P w = .ok (.tuple #[.agg cs, tmps.getD u undef]) w := by
  have hp' : tmps[p]?.getD undef = .pointer (some ⟨g, 0, none⟩) := by simpa using hp
  simp [results, h, hp', asAddr, run_loadVar_row w g t ty cs fr d hg hu hd hi]

theorem wmade_calls (s : Int) (ad : Option Addr) (n c : Nat) (V : Int) (w : World) (h : Can w ad n c V) (hV : 0 ≤ V) :
    Calls Tryz.prog 118 #[.int .i8 s, .slice ad n c] w (fun e w' => e = .returned (.agg #[.bool (decide (s = -1) && decide (0 < V)), .slice ad n c]) ∧ Below w.heap.size w w') := by
  have hz := h.zero_iff hV
  have hb : ∀ r : Bool, Below w.heap.size w (w.alloc (.cells #[.bool r, .slice ad n c] 34)) := fun r => (Below.refl _ _).alloc (Nat.le_refl _) _
  have HB := Lib.hid hb
  clear hb h
  obtain ⟨r, hr⟩ : ∃ r, r = (decide (s = -1) && decide (0 < V)) := ⟨_, rfl⟩
  rw [← hr]
  by_cases hs : s = -1
  · subst hs
    by_cases hn : n = 0
    · subst hn
      have HR := Lib.hid (show r = false by rw [hr, hz.1 rfl]; decide)
      clear hz hr
      go_enter Tryz.func118, Tryz.ntmps118
      go_wp2
      refine bodyPost_ret (results_cell_row rfl _ _ w.heap.size 34 #[.bool false, .slice ad 0 c] (0, 0) _ rfl (heap_alloc_new _ _) Tryz.underlying34 rfl size_int) rfl ?_
      rw [HR.out]
      exact ⟨rfl, HB.out _⟩
    · have HR := Lib.hid (show r = true by rw [hr]; simp; omega)
      have hn2 : decide (0 < n) = true := by simp; omega
      clear hz hn hr
      go_enter Tryz.func118, Tryz.ntmps118
      go_wp2
      refine bodyPost_ret (results_cell_row rfl _ _ w.heap.size 34 #[.bool true, .slice ad n c] (0, 0) _ rfl (heap_alloc_new _ _) Tryz.underlying34 rfl size_int) rfl ?_
      rw [HR.out]
      exact ⟨rfl, HB.out _⟩
  · have HR := Lib.hid (show r = false by rw [hr, decide_eq_false hs]; rfl)
    have hs2 : (s == -1) = false := by simpa using hs
    clear hz hs hr
    go_enter Tryz.func118, Tryz.ntmps118
    go_wp2
    refine bodyPost_ret (results_cell_row rfl _ _ w.heap.size 34 #[.bool false, .slice ad n c] (0, 0) _ rfl (heap_alloc_new _ _) Tryz.underlying34 rfl size_int) rfl ?_
    rw [HR.out]
    exact ⟨rfl, HB.out _⟩

theorem wsigned_calls (ng : Bool) (ad : Option Addr) (n c : Nat) (V : Int) (w : World) (h : Num w ad n c V) (hn : n ≤ 70368744177663) :
    Calls Tryz.prog 113 #[.agg #[.bool ng, .slice ad n c]] w (fun e w' => ∃ ad' n' c', e = .returned (.tuple #[.int .i8 (sgI (sI ng V)), .slice ad' n' c']) ∧ Can w' ad' n' c' V ∧ Below w.heap.size w w') := by
  have hV := h.nonneg
  have bA : Below w.heap.size w (w.alloc (.cells #[.bool ng, .slice ad n c] 34)) := (Below.refl _ _).alloc (Nat.le_refl _) _
  have c0 : (w.alloc (.cells #[.bool ng, .slice ad n c] 34)).cell? ⟨w.heap.size, 0, none⟩ = some (.bool ng) := World.cell?_alloc_at _ _ _ _ rfl
  have c1 : (w.alloc (.cells #[.bool ng, .slice ad n c] 34)).cell? ⟨w.heap.size, 1, none⟩ = some (.slice ad n c) := World.cell?_alloc_at _ _ _ _ rfl
  have HN := Lib.hid (num_norm ad n c V _ (h.below bA (Nat.le_refl _)) hn)
  clear h
  go_enter Tryz.func113, Tryz.ntmps113
  go_wp2_with fail
  refine (HN.out).mono ?_
  rintro e w1 ⟨ad1, n1, c1', rfl, f1, b1⟩
  have d0 := below_cell b1 (Nat.le_refl _) c0
  have d1 := below_cell b1 (Nat.le_refl _) c1
  have b2 := below_trans bA b1
  clear c0 c1 HN
  have hz := f1.zero_iff hV
  by_cases hn1 : n1 = 0
  · have hV0 := hz.1 hn1
    subst hn1 hV0
    have HS := Lib.hid (show sgI (sI ng 0) = 0 by cases ng <;> decide)
    clear hz
    go_wp2
    go_ret2
    rw [HS.out]
    exact ⟨none, 0, 0, rfl, ⟨Nat.le_refl _, by rw [dg_zero]; exact Rds.nil _ _ _⟩, b2⟩
  · have hn2 : ((n1 : Int) == 0) = false := by simp; omega
    have hV1 : 0 < V := by have : V ≠ 0 := fun e => hn1 (hz.2 e); omega
    clear hz hn1
    cases ng
    · have HS := Lib.hid (show sgI (sI false V) = 1 by show sgI V = 1; unfold sgI; rw [if_neg (by omega), if_neg (by omega)])
      go_wp2
      go_ret2
      rw [HS.out]
      exact ⟨_, _, _, rfl, f1, b2⟩
    · have HS := Lib.hid (show sgI (sI true V) = -1 by show sgI (-V) = -1; unfold sgI; rw [if_pos (by omega)])
      go_wp2
      go_ret2
      rw [HS.out]
      exact ⟨_, _, _, rfl, f1, b2⟩
end Go.Proofs.YtoimhjcpeifegaaGreatDoor


/- Add by worth alone. -/
namespace Go.Proofs.YtoimhjcpeifegaaGreatDoor
open Go.RowKit

theorem num_add (ad bd : Option Addr) (n m c d : Nat) (V U : Int) (w : World) (h : Num w ad n c V) (k : Num w bd m d U) (hn : n ≤ 70368744177663) (hm : m ≤ 70368744177663) :
    Calls Tryz.prog 121 #[.slice ad n c, .slice bd m d] w (RetC (V + U) w) := by
  obtain ⟨xs, h1, h2, rfl⟩ := h.row
  obtain ⟨zs, k1, k2, rfl⟩ := k.row
  exact (add_calls ad bd n m c d xs zs w (by omega) (by omega) h.le k.le h1 k1 h2 k2).mono fun e w' q => q.can
end Go.Proofs.YtoimhjcpeifegaaGreatDoor


/- NSub by worth alone. -/
namespace Go.Proofs.YtoimhjcpeifegaaGreatDoor
open Go.RowKit

end Go.Proofs.YtoimhjcpeifegaaGreatDoor


/- RAdd by worth alone. -/
namespace Go.Proofs.YtoimhjcpeifegaaGreatDoor
open Go.RowKit

end Go.Proofs.YtoimhjcpeifegaaGreatDoor


/- RLen by worth alone. -/
namespace Go.Proofs.YtoimhjcpeifegaaGreatDoor
open Go.RowKit

end Go.Proofs.YtoimhjcpeifegaaGreatDoor


/- crucibleref01.Shl: times 2 to the power of n. -/
namespace Go.Proofs.YtoimhjcpeifegaaGreatDoor
open Go.RowKit

end Go.Proofs.YtoimhjcpeifegaaGreatDoor


/- Printed by ieee.py. -/
namespace Go.Proofs.YtoimhjcpeifegaaGreatDoor
open Go.RowKit

/-- The table of shapes as its initialiser lays it. -/
structure Shapes (w : World) : Prop where
  c0 : w.cell? ⟨2, 0, none⟩ = some (.int .i64 10)
  c1 : w.cell? ⟨2, 1, none⟩ = some (.int .i64 (-24))
  c2 : w.cell? ⟨2, 2, none⟩ = some (.int .i64 5)
  c3 : w.cell? ⟨2, 3, none⟩ = some (.int .i64 23)
  c4 : w.cell? ⟨2, 4, none⟩ = some (.int .i64 (-149))
  c5 : w.cell? ⟨2, 5, none⟩ = some (.int .i64 8)
  c6 : w.cell? ⟨2, 6, none⟩ = some (.int .i64 52)
  c7 : w.cell? ⟨2, 7, none⟩ = some (.int .i64 (-1074))
  c8 : w.cell? ⟨2, 8, none⟩ = some (.int .i64 11)

theorem Shapes.below {w w1 : World} (h : Shapes w) {B : Nat} (hb : Below B w w1) (hB : w.heap.size ≤ B) : Shapes w1 :=
  ⟨below_cell hb hB h.c0, below_cell hb hB h.c1, below_cell hb hB h.c2, below_cell hb hB h.c3, below_cell hb hB h.c4, below_cell hb hB h.c5, below_cell hb hB h.c6, below_cell hb hB h.c7, below_cell hb hB h.c8⟩

theorem size_shape : (Tryz.prog.info? 95).map (·.size) = some 3 := by kernel_rfl

end Go.Proofs.YtoimhjcpeifegaaGreatDoor


/- The nearest pattern as a function, and what the ways of finding it find: plain facts. -/
namespace Go.Proofs.YtoimhjcpeifegaaGreatDoor

theorem numN_zero (F : Nat) : numN F 0 = 0 := by
  unfold numN
  rw [if_pos (Nat.two_pow_pos F)]

theorem low_exists (F U X : Nat) : ∀ I, ∃ low, low ≤ I ∧ numN F low * U ≤ X ∧ (low < I → X < numN F (low + 1) * U)
  | 0 => ⟨0, Nat.le_refl _, by rw [numN_zero]; omega, fun h => absurd h (Nat.lt_irrefl _)⟩
  | I + 1 => by
    obtain ⟨low, h1, h2, h3⟩ := low_exists F U X I
    by_cases h : low < I
    · exact ⟨low, by omega, h2, fun _ => h3 h⟩
    · obtain rfl : low = I := by omega
      by_cases h4 : numN F (low + 1) * U ≤ X
      · exact ⟨low + 1, Nat.le_refl _, h4, fun h => absurd h (Nat.lt_irrefl _)⟩
      · exact ⟨low, by omega, h2, fun _ => by omega⟩

theorem nearest_exists (F I U X : Nat) : ∃ r, Nearest F I U X r := by
  obtain ⟨low, h1, h2, h3⟩ := low_exists F U X I
  exact ⟨_, low, h1, h2, h3, rfl⟩

/-- The size of the nearest pattern. -/
noncomputable def nearN (F I U X : Nat) : Nat := Classical.choose (nearest_exists F I U X)
theorem nearN_spec (F I U X : Nat) : Nearest F I U X (nearN F I U X) := Classical.choose_spec (nearest_exists F I U X)
theorem nearN_eq {F I U X r : Nat} (h : Nearest F I U X r) : nearN F I U X = r := (nearN_spec F I U X).unique h
theorem Nearest.le {F I U X r : Nat} (h : Nearest F I U X r) : r ≤ I := by
  obtain ⟨low, h1, h2, h3, rfl⟩ := h
  split
  · omega
  · split <;> omega

/-- M 2^e in least steps (of 2^L), or in parts of one. -/
def rU (L e : Int) : Nat := 2 ^ (L - e).toNat
def rX (L e : Int) (M : Nat) : Nat := M * 2 ^ (e - L).toNat
def rM (V : Int) (more : Bool) : Nat := if more then 2 * V.toNat + 1 else V.toNat
def rE (e : Int) (more : Bool) : Int := if more then e - 1 else e
def infN (W : Nat) : Nat := (2 ^ shE W - 1) * 2 ^ shF W
/-- The power of 2 that the infinite pattern would be, in least steps. -/
def topP (W : Nat) : Nat := shF W + 2 ^ shE W - 2
noncomputable def nearE (W : Nat) (M : Nat) (e : Int) : Nat := nearN (shF W) (infN W) (rU (shL W) e) (rX (shL W) e M)
/-- What Round answers. -/
noncomputable def roundW (W : Nat) (neg : Bool) (V e : Int) (more : Bool) : Int := (if neg then sgnW W else 0) + nearE W (rM V more) (rE e more)

theorem infW_eq {W : Nat} (hW : Wide W) : infW W = infN W := by rcases hW with rfl | rfl | rfl <;> decide
theorem nearE_le (W M : Nat) (e : Int) : nearE W M e ≤ infN W := (nearN_spec _ _ _ _).le
theorem infN_lt {W : Nat} (hW : Wide W) : (infN W : Int) < sgnW W := by rcases hW with rfl | rfl | rfl <;> decide

theorem rU_pos (L e : Int) : 0 < rU L e := Nat.two_pow_pos _

theorem numN_inf {W : Nat} (hW : Wide W) : numN (shF W) (infN W) = 2 ^ topP W := by
  have h : ∀ F E, 2 ≤ 2 ^ E → numN F ((2 ^ E - 1) * 2 ^ F) = 2 ^ (F + 2 ^ E - 2) := by
    intro F E hE
    have h := numN_at F (2 ^ E - 2) (2 ^ F) (.inr (Nat.le_refl _)) (by rw [Nat.pow_succ]; omega)
    rw [show (2 ^ E - 2) * 2 ^ F + 2 ^ F = (2 ^ E - 1) * 2 ^ F by rw [← Nat.succ_mul]; congr 1; omega] at h
    rw [h, ← Nat.pow_add]
    congr 1
    omega
  exact h _ _ (by rcases hW with rfl | rfl | rfl <;> decide)

theorem nearE_inf {W : Nat} (hW : Wide W) (M b : Nat) (e : Int) (hb : 2 ^ b ≤ M) (h : (topP W : Int) ≤ b + e - shL W) : nearE W M e = infN W := by
  refine nearN_eq (nearest_inf _ _ _ _ ?_)
  rw [numN_inf hW]
  unfold rU rX
  rw [← Nat.pow_add]
  refine Nat.le_trans ?_ (Nat.mul_le_mul_right _ hb)
  rw [← Nat.pow_add]
  exact Nat.pow_le_pow_right (by omega) (by omega)

theorem infN_pos {W : Nat} (hW : Wide W) : 0 < infN W := by rcases hW with rfl | rfl | rfl <;> decide

theorem nearE_small {W : Nat} (hW : Wide W) (M b : Nat) (e : Int) (hb : M < 2 ^ b) (h : (b : Int) + e + 1 ≤ shL W) : nearE W M e = 0 := by
  refine nearN_eq (nearest_zero _ _ _ _ (infN_pos hW) ?_)
  unfold rU rX
  rw [show (e - shL W).toNat = 0 by omega, Nat.pow_zero, Nat.mul_one]
  have h2 : 2 ^ (b + 1) ≤ 2 ^ (shL W - e).toNat := Nat.pow_le_pow_right (by omega) (by omega)
  rw [Nat.pow_succ] at h2
  omega

theorem nearE_zero {W : Nat} (hW : Wide W) (e : Int) : nearE W 0 e = 0 := by
  refine nearN_eq (nearest_zero _ _ _ _ (infN_pos hW) ?_)
  unfold rX
  rw [Nat.zero_mul]
  exact rU_pos _ _

/-- s places below the last one are cut off, and it is rounded. -/
def rounded (M s : Nat) : Nat := if 2 ^ s < 2 * (M % 2 ^ s) ∨ (2 * (M % 2 ^ s) = 2 ^ s ∧ M / 2 ^ s % 2 = 1) then M / 2 ^ s + 1 else M / 2 ^ s

theorem wide_F {W : Nat} (hW : Wide W) : 0 < shF W := by rcases hW with rfl | rfl | rfl <;> decide

theorem nearE_cut {W : Nat} (hW : Wide W) (M d s : Nat) (e : Int) (hs : (s : Int) = shL W + d - e) (h1 : d = 0 ∨ 2 ^ shF W ≤ M / 2 ^ s) (h2 : M / 2 ^ s < 2 ^ (shF W + 1)) (hd : d + 2 < 2 ^ shE W) :
    nearE W M e = d * 2 ^ shF W + rounded M s := by
  refine nearN_eq ?_
  have eU : 2 ^ d * rU (shL W) e = 2 ^ s * 2 ^ (e - shL W).toNat := by
    unfold rU
    rw [← Nat.pow_add, ← Nat.pow_add]
    congr 1
    omega
  have hc : 0 < 2 ^ (e - shL W).toNat := Nat.two_pow_pos _
  have eX : rX (shL W) e M = M * 2 ^ (e - shL W).toNat := rfl
  have hk : M / 2 ^ s = rX (shL W) e M / (2 ^ d * rU (shL W) e) := by
    rw [eU, eX, Nat.mul_div_mul_right _ _ hc]
  have hm : rX (shL W) e M % (2 ^ d * rU (shL W) e) = M % 2 ^ s * 2 ^ (e - shL W).toNat := by
    rw [eU, eX, Nat.mul_mod_mul_right]
  have h := nearest_direct (shF W) (infN W) (rU (shL W) e) (rX (shL W) e M) d (M / 2 ^ s) hk (rU_pos _ _) h1 h2 ?_ (.inr (wide_F hW))
  · rw [hm, eU] at h
    have i1 : (2 ^ s * 2 ^ (e - shL W).toNat < 2 * (M % 2 ^ s * 2 ^ (e - shL W).toNat)) ↔ 2 ^ s < 2 * (M % 2 ^ s) := by
      rw [← Nat.mul_assoc]
      exact Nat.mul_lt_mul_right hc
    have i2 : (2 * (M % 2 ^ s * 2 ^ (e - shL W).toNat) = 2 ^ s * 2 ^ (e - shL W).toNat) ↔ 2 * (M % 2 ^ s) = 2 ^ s := by
      rw [← Nat.mul_assoc]
      exact Nat.mul_left_inj (by omega)
    simp only [i1, i2] at h
    exact h
  · unfold infN
    rw [Nat.pow_succ] at h2
    have hp := Nat.two_pow_pos (shF W)
    have h3 : (d + 2) * 2 ^ shF W ≤ (2 ^ shE W - 1) * 2 ^ shF W := Nat.mul_le_mul_right _ (by omega)
    rw [Nat.add_mul] at h3
    omega

theorem rounded_zero (M : Nat) : rounded M 0 = M := by
  unfold rounded
  rw [Nat.pow_zero, Nat.mod_one, Nat.div_one]
  simp

/-- Nothing is cut off. -/
theorem nearE_exact {W : Nat} (hW : Wide W) (M d t : Nat) (e : Int) (ht : e = shL W + d + t) (h1 : d = 0 ∨ 2 ^ shF W ≤ M * 2 ^ t) (h2 : M * 2 ^ t < 2 ^ (shF W + 1)) (hd : d + 2 < 2 ^ shE W) :
    nearE W M e = d * 2 ^ shF W + M * 2 ^ t := by
  have h := nearE_cut hW (M * 2 ^ t) d 0 (shL W + d) (by omega) (by simpa using h1) (by simpa using h2) hd
  rw [rounded_zero] at h
  rw [← h]
  unfold nearE
  have e1 : rU (shL W) e = rU (shL W) (shL W + d) := by
    unfold rU
    rw [show (shL W - e).toNat = 0 by omega, show (shL W - (shL W + d)).toNat = 0 by omega]
  have e2 : rX (shL W) e M = rX (shL W) (shL W + d) (M * 2 ^ t) := by
    unfold rX
    rw [Nat.mul_assoc, ← Nat.pow_add]
    congr 2
    omega
  rw [e1, e2]

/-- The program's way: q and whether something is left, one place more than is kept. -/
theorem rounded_prog (M s : Nat) (q : Nat) (hq : q = M / 2 ^ s) :
    rounded M (s + 1) = if q % 2 = 1 ∧ (M % 2 ^ s ≠ 0 ∨ q / 2 % 2 = 1) then q / 2 + 1 else q / 2 := by
  have hP := Nat.two_pow_pos s
  have h1 : M / 2 ^ (s + 1) = q / 2 := by rw [hq, Nat.pow_succ, ← Nat.div_div_eq_div_mul]
  have h2 : M % 2 ^ (s + 1) = M % 2 ^ s + 2 ^ s * (q % 2) := by rw [hq, Nat.pow_succ, Nat.mod_mul]
  have h3 := Nat.mod_lt M hP
  unfold rounded
  rw [h1, h2, Nat.pow_succ]
  rcases Nat.mod_two_eq_zero_or_one q with h | h
  · rw [h, if_neg (by omega), if_neg (by omega)]
  · rw [h, Nat.mul_one]
    by_cases hz : M % 2 ^ s = 0
    · rw [hz]
      by_cases h4 : q / 2 % 2 = 1
      · rw [if_pos (by omega), if_pos (by omega)]
      · rw [if_neg (by omega), if_neg (by omega)]
    · rw [if_pos (by omega), if_pos (by omega)]

/-- The same number, more places. -/
theorem nearE_shift (W M k : Nat) (e : Int) : nearE W (M * 2 ^ k) (e - k) = nearE W M e := by
  unfold nearE
  symm
  have h1 : rU (shL W) (e - k) * 2 ^ (k - ((e - k) - shL W).toNat + (e - shL W).toNat - (e - shL W).toNat) = rU (shL W) (e - k) * 2 ^ (k - ((e - k) - shL W).toNat) := by
    rw [Nat.add_sub_cancel]
  have key : ∃ a b, 0 < a ∧ 0 < b ∧ rU (shL W) e * a = rU (shL W) (e - k) * b ∧ rX (shL W) e M * a = rX (shL W) (e - k) (M * 2 ^ k) * b := by
    refine ⟨2 ^ (shL W - (e - k)).toNat, 2 ^ (shL W - e).toNat, Nat.two_pow_pos _, Nat.two_pow_pos _, ?_, ?_⟩
    · unfold rU
      rw [Nat.mul_comm]
    · unfold rX
      rw [Nat.mul_assoc, Nat.mul_assoc, Nat.mul_assoc, ← Nat.pow_add, ← Nat.pow_add, ← Nat.pow_add]
      congr 2
      omega
  obtain ⟨a, b, ha, hb, e1, e2⟩ := key
  have s1 := (nearN_spec (shF W) (infN W) (rU (shL W) e) (rX (shL W) e M)).scale a ha
  have s2 := (nearN_spec (shF W) (infN W) (rU (shL W) (e - k)) (rX (shL W) (e - k) (M * 2 ^ k))).scale b hb
  rw [e1, e2] at s1
  exact s1.unique s2
end Go.Proofs.YtoimhjcpeifegaaGreatDoor

