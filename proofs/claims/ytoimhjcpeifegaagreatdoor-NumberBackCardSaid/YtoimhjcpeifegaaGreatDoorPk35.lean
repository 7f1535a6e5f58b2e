/- Contracts of functions, and plain facts, part 35. -/
import Derived.LoopN
import Derived.Test.YtoimhjcpeifegaaGreatDoorPk9
import Derived.Test.YtoimhjcpeifegaaGreatDoorPk13
import Derived.Test.YtoimhjcpeifegaaGreatDoorPk34
set_option linter.unusedVariables false
set_option linter.unusedSimpArgs false
/- package value: the walk through a number's nodes, of which there is one. -/
set_option maxRecDepth 50000
set_option maxHeartbeats 4000000
namespace Go.Proofs.YtoimhjcpeifegaaGreatDoor
open Go Go.RowKit

/-- One visit: nothing is wrong, there are no kids. -/
theorem visit_calls (f : FuncId) (c0 c1 c4 c5 : Value) (c2 c3 c6 : Value) (ka : Option Addr) (kc : Nat) (bf : Nat) (p3 p4 : Value) (w : World)
    (hent : ∀ (vs : Array Value) (w : World), (callFunc f vs).run Tryz.prog w = .ok (.enter f vs) w) (hf : w.cell? ⟨bf, 0, none⟩ = some (.func (.func f) #[] #[]))
    (HW : ∀ w', Below w.heap.size w w' → Calls Tryz.prog f #[.agg #[c0, c1, c2, c3, c4, c5, c6, .slice ka 0 kc], .int .i64 0] w' (fun e w2 => e = .returned (.bool false) ∧ Below w'.heap.size w' w2))
    (HC : ∀ w', Below w.heap.size w w' → Calls Tryz.prog 103 #[.agg #[c0, c1, c2, c3, c4, c5, c6, .slice ka 0 kc]] w' (fun e w2 => e = .returned (.bool false) ∧ Below w'.heap.size w' w2)) :
    Calls Tryz.prog 146 #[.agg #[c0, c1, c2, c3, c4, c5, c6, .slice ka 0 kc], .int .i64 0, .pointer (some ⟨bf, 0, none⟩), p3, p4] w (fun e w' => e = .returned (.bool false) ∧ Below w.heap.size w w') := by
  have b0 : Below w.heap.size w (w.alloc (.cells #[c0, c1, c2, c3, c4, c5, c6, .slice ka 0 kc] 37)) := (Below.refl _ _).alloc (Nat.le_refl _) _
  have hfl : bf < w.heap.size := World.block_lt_of_cell? w _ hf
  have k0 : Cel (w.alloc (.cells #[c0, c1, c2, c3, c4, c5, c6, .slice ka 0 kc] 37)) w.heap.size 37 [c0, c1, c2, c3, c4, c5, c6, .slice ka 0 kc] := Cel.made _ _ _ _ rfl
  have hf0 : (w.alloc (.cells #[c0, c1, c2, c3, c4, c5, c6, .slice ka 0 kc] 37)).cell? ⟨bf, 0, none⟩ = some (.func (.func f) #[] #[]) := (World.cell?_alloc_lt _ _ _ hfl).trans hf
  have G1 := Lib.hid (HW _ b0)
  have G2 := Lib.hid HC
  clear HW HC
  go_enter Tryz.func146, Tryz.ntmps146
  go_wp2_with fail
  refine (G1.out).mono ?_
  rintro e w1 ⟨rfl, b1⟩
  have k1 := k0.next b1
  have b2 := below_trans b0 b1
  have c0' := k1.cell 0 _ rfl
  have c1' := k1.cell 1 _ rfl
  have c2' := k1.cell 2 _ rfl
  have c3' := k1.cell 3 _ rfl
  have c4' := k1.cell 4 _ rfl
  have c5' := k1.cell 5 _ rfl
  have c6' := k1.cell 6 _ rfl
  have c7' := k1.cell 7 _ rfl
  have G3 := Lib.hid (G2.out w1 b2)
  clear G1 G2 k0 b0 b1 hf0
  have K1 := Lib.hid k1
  clear k1
  go_wp2_with fail
  refine (G3.out).mono ?_
  rintro e w2 ⟨rfl, b3⟩
  have k2 := K1.out.next b3
  have b4 := below_trans b2 b3
  have d7' := k2.cell 7 _ rfl
  clear c0' c1' c2' c3' c4' c5' c6' c7' K1 k2 G3 b2 b3
  go_wp2_with fail
  refine wp_loop_rounds 1 ?_
  rw [rounds_succ]
  go_wp2
  go_ret
  exact ⟨rfl, b4⟩
theorem walk_calls (f : FuncId) (c0 c1 c4 c5 : Value) (c2 c3 c6 : Value) (ka : Option Addr) (kc : Nat) (w : World)
    (hent : ∀ (vs : Array Value) (w : World), (callFunc f vs).run Tryz.prog w = .ok (.enter f vs) w)
    (HW : ∀ w', Below w.heap.size w w' → Calls Tryz.prog f #[.agg #[c0, c1, c2, c3, c4, c5, c6, .slice ka 0 kc], .int .i64 0] w' (fun e w2 => e = .returned (.bool false) ∧ Below w'.heap.size w' w2))
    (HC : ∀ w', Below w.heap.size w w' → Calls Tryz.prog 103 #[.agg #[c0, c1, c2, c3, c4, c5, c6, .slice ka 0 kc]] w' (fun e w2 => e = .returned (.bool false) ∧ Below w'.heap.size w' w2)) :
    Calls Tryz.prog 99 #[.agg #[c0, c1, c2, c3, c4, c5, c6, .slice ka 0 kc], .func (.func f) #[] #[]] w (fun e w' => e = .returned (.tuple #[.string ⟨#[]⟩, .bool false]) ∧ Below w.heap.size w w') := by
  have hmf : ∀ (fn : Fn) (first cap : Array Value) (w : World), (Instr.makeFunc fn first cap).run Tryz.prog w = .ok (.func fn first cap) w := fun _ _ _ _ => rfl
  have b1 : Below w.heap.size w (w.alloc (.cells #[c0, c1, c2, c3, c4, c5, c6, .slice ka 0 kc] 37)) := (Below.refl _ _).alloc (Nat.le_refl _) _
  have b2 : Below w.heap.size w ((w.alloc (.cells #[c0, c1, c2, c3, c4, c5, c6, .slice ka 0 kc] 37)).alloc (.cells #[.func (.func f) #[] #[]] 140)) := b1.alloc (by simp) _
  have b3 : Below w.heap.size w (((w.alloc (.cells #[c0, c1, c2, c3, c4, c5, c6, .slice ka 0 kc] 37)).alloc (.cells #[.func (.func f) #[] #[]] 140)).alloc (.cells #[.slice none 0 0] 182)) := b2.alloc (by simp; omega) _
  have b5 : Below w.heap.size w ((((w.alloc (.cells #[c0, c1, c2, c3, c4, c5, c6, .slice ka 0 kc] 37)).alloc (.cells #[.func (.func f) #[] #[]] 140)).alloc (.cells #[.slice none 0 0] 182)).alloc (.cells #[.func (.func 146) #[] #[.pointer (some ⟨w.heap.size + 1, 0, none⟩), .pointer (some ⟨w.heap.size + 1 + 1, 0, none⟩), .pointer (some ⟨w.heap.size + 1 + 1 + 1, 0, none⟩)]] 140)) := b3.alloc (by simp; omega) _
  have k1 : Cel (w.alloc (.cells #[c0, c1, c2, c3, c4, c5, c6, .slice ka 0 kc] 37)) w.heap.size 37 [c0, c1, c2, c3, c4, c5, c6, .slice ka 0 kc] := Cel.made _ _ _ _ rfl
  have k2 : Cel ((w.alloc (.cells #[c0, c1, c2, c3, c4, c5, c6, .slice ka 0 kc] 37)).alloc (.cells #[.func (.func f) #[] #[]] 140)) (w.heap.size + 1) 140 [.func (.func f) #[] #[]] := Cel.made _ _ _ _ (by simp)
  have k4 : Cel ((((w.alloc (.cells #[c0, c1, c2, c3, c4, c5, c6, .slice ka 0 kc] 37)).alloc (.cells #[.func (.func f) #[] #[]] 140)).alloc (.cells #[.slice none 0 0] 182)).alloc (.cells #[.nilFunc] 140)) (w.heap.size + 1 + 1 + 1) 140 [.nilFunc] := Cel.made _ _ _ _ (by simp)
  have k5 : Cel ((((w.alloc (.cells #[c0, c1, c2, c3, c4, c5, c6, .slice ka 0 kc] 37)).alloc (.cells #[.func (.func f) #[] #[]] 140)).alloc (.cells #[.slice none 0 0] 182)).alloc (.cells #[.func (.func 146) #[] #[.pointer (some ⟨w.heap.size + 1, 0, none⟩), .pointer (some ⟨w.heap.size + 1 + 1, 0, none⟩), .pointer (some ⟨w.heap.size + 1 + 1 + 1, 0, none⟩)]] 140)) (w.heap.size + 1 + 1 + 1) 140 [.func (.func 146) #[] #[.pointer (some ⟨w.heap.size + 1, 0, none⟩), .pointer (some ⟨w.heap.size + 1 + 1, 0, none⟩), .pointer (some ⟨w.heap.size + 1 + 1 + 1, 0, none⟩)]] := Cel.made _ _ _ _ (by simp)
  have a1 : Cel ((((w.alloc (.cells #[c0, c1, c2, c3, c4, c5, c6, .slice ka 0 kc] 37)).alloc (.cells #[.func (.func f) #[] #[]] 140)).alloc (.cells #[.slice none 0 0] 182)).alloc (.cells #[.func (.func 146) #[] #[.pointer (some ⟨w.heap.size + 1, 0, none⟩), .pointer (some ⟨w.heap.size + 1 + 1, 0, none⟩), .pointer (some ⟨w.heap.size + 1 + 1 + 1, 0, none⟩)]] 140)) w.heap.size 37 [c0, c1, c2, c3, c4, c5, c6, .slice ka 0 kc] := ((k1.next ((Below.refl _ _).alloc (Nat.le_refl _) _)).next ((Below.refl _ _).alloc (Nat.le_refl _) _)).next ((Below.refl _ _).alloc (Nat.le_refl _) _)
  have a2 : Cel ((((w.alloc (.cells #[c0, c1, c2, c3, c4, c5, c6, .slice ka 0 kc] 37)).alloc (.cells #[.func (.func f) #[] #[]] 140)).alloc (.cells #[.slice none 0 0] 182)).alloc (.cells #[.func (.func 146) #[] #[.pointer (some ⟨w.heap.size + 1, 0, none⟩), .pointer (some ⟨w.heap.size + 1 + 1, 0, none⟩), .pointer (some ⟨w.heap.size + 1 + 1 + 1, 0, none⟩)]] 140)) (w.heap.size + 1) 140 [.func (.func f) #[] #[]] := (k2.next ((Below.refl _ _).alloc (Nat.le_refl _) _)).next ((Below.refl _ _).alloc (Nat.le_refl _) _)
  have g4 := k4.free 0
  have e4 := k4.cell 0 _ rfl
  have hst : (store ⟨w.heap.size + 1 + 1 + 1, 0, none⟩ (.func (.func 146) #[] #[.pointer (some ⟨w.heap.size + 1, 0, none⟩), .pointer (some ⟨w.heap.size + 1 + 1, 0, none⟩), .pointer (some ⟨w.heap.size + 1 + 1 + 1, 0, none⟩)]) .plain).run Tryz.prog ((((w.alloc (.cells #[c0, c1, c2, c3, c4, c5, c6, .slice ka 0 kc] 37)).alloc (.cells #[.func (.func f) #[] #[]] 140)).alloc (.cells #[.slice none 0 0] 182)).alloc (.cells #[.nilFunc] 140)) = .ok () (((((w.alloc (.cells #[c0, c1, c2, c3, c4, c5, c6, .slice ka 0 kc] 37)).alloc (.cells #[.func (.func f) #[] #[]] 140)).alloc (.cells #[.slice none 0 0] 182)).alloc (.cells #[.nilFunc] 140)).setCell ⟨w.heap.size + 1 + 1 + 1, 0, none⟩ (.func (.func 146) #[] #[.pointer (some ⟨w.heap.size + 1, 0, none⟩), .pointer (some ⟨w.heap.size + 1 + 1, 0, none⟩), .pointer (some ⟨w.heap.size + 1 + 1 + 1, 0, none⟩)])) := by
    rw [run_store _ _ _ _ .plain rfl, e4]
    simp [g4]
  have d1 := a1.cell 0 _ rfl
  have d2 := a1.cell 1 _ rfl
  have d3 := a1.cell 2 _ rfl
  have d4 := a1.cell 3 _ rfl
  have d5 := a1.cell 4 _ rfl
  have d6 := a1.cell 5 _ rfl
  have d7 := a1.cell 6 _ rfl
  have d8 := a1.cell 7 _ rfl
  have df := a2.cell 0 _ rfl
  have dc := k5.cell 0 _ rfl
  have G := Lib.hid (visit_calls f c0 c1 c4 c5 c2 c3 c6 ka kc (w.heap.size + 1) (.pointer (some ⟨w.heap.size + 1 + 1, 0, none⟩)) (.pointer (some ⟨w.heap.size + 1 + 1 + 1, 0, none⟩)) _ hent df (fun w' hb => HW w' (below_trans b5 hb)) (fun w' hb => HC w' (below_trans b5 hb)))
  have B5 := Lib.hid b5
  clear b1 b2 b3 b5 k1 k2 k4 a1 a2 k5 HW HC df
  have hcl : ∀ (vs : Array Value) (w : World), (callFunc 146 vs).run Tryz.prog w = .ok (.enter 146 vs) w := fun _ _ => by go_simp
  go_enter Tryz.func99, Tryz.ntmps99
  go_wp2_with fail
  refine (G.out).mono ?_
  rintro e w1 ⟨rfl, b6⟩
  have b7 := below_trans B5.out b6
  clear G B5 d1 d2 d3 d4 d5 d6 d7 d8 dc g4 e4 hst
  go_wp2_with fail
  go_ret2
  exact ⟨rfl, b7⟩
theorem check_calls (c0 c1 c4 c5 : Value) (c2 c3 c6 : Value) (ka : Option Addr) (kc : Nat) (w : World)
    (HW : ∀ w', Below w.heap.size w w' → Calls Tryz.prog 100 #[.agg #[c0, c1, c2, c3, c4, c5, c6, .slice ka 0 kc], .int .i64 0] w' (fun e w2 => e = .returned (.bool false) ∧ Below w'.heap.size w' w2))
    (HW2 : ∀ w', Below w.heap.size w w' → Calls Tryz.prog 102 #[.agg #[c0, c1, c2, c3, c4, c5, c6, .slice ka 0 kc], .int .i64 0] w' (fun e w2 => e = .returned (.bool false) ∧ Below w'.heap.size w' w2))
    (HC : ∀ w', Below w.heap.size w w' → Calls Tryz.prog 103 #[.agg #[c0, c1, c2, c3, c4, c5, c6, .slice ka 0 kc]] w' (fun e w2 => e = .returned (.bool false) ∧ Below w'.heap.size w' w2)) :
    Calls Tryz.prog 39 #[.agg #[c0, c1, c2, c3, c4, c5, c6, .slice ka 0 kc]] w (fun e w' => e = .returned .nilIface ∧ Below w.heap.size w w') := by
  have b1 : Below w.heap.size w (w.alloc (.cells #[c0, c1, c2, c3, c4, c5, c6, .slice ka 0 kc] 37)) := (Below.refl _ _).alloc (Nat.le_refl _) _
  have k1 : Cel (w.alloc (.cells #[c0, c1, c2, c3, c4, c5, c6, .slice ka 0 kc] 37)) w.heap.size 37 [c0, c1, c2, c3, c4, c5, c6, .slice ka 0 kc] := Cel.made _ _ _ _ rfl
  have G1 := Lib.hid (walk_calls 100 c0 c1 c4 c5 c2 c3 c6 ka kc _ (fun _ _ => by go_simp) (fun w' hb => HW w' (below_trans b1 hb)) (fun w' hb => HC w' (below_trans b1 hb)))
  have G2 := Lib.hid (fun w1 (h1 : Below w.heap.size w w1) => walk_calls 102 c0 c1 c4 c5 c2 c3 c6 ka kc w1 (fun _ _ => by go_simp) (fun w' hb => HW2 w' (below_trans h1 hb)) (fun w' hb => HC w' (below_trans h1 hb)))
  have K1 := Lib.hid k1
  clear k1 HW HW2 HC
  go_enter Tryz.func39, Tryz.ntmps39
  go_wp2_with fail
  refine (G1.out).mono ?_
  rintro e w1 ⟨rfl, b2⟩
  have b3 := below_trans b1 b2
  have k2 := K1.out.next b2
  have d1 := k2.cell 0 _ rfl
  have d2 := k2.cell 1 _ rfl
  have d3 := k2.cell 2 _ rfl
  have d4 := k2.cell 3 _ rfl
  have d5 := k2.cell 4 _ rfl
  have d6 := k2.cell 5 _ rfl
  have d7 := k2.cell 6 _ rfl
  have d8 := k2.cell 7 _ rfl
  have G3 := Lib.hid (G2.out w1 b3)
  clear G1 G2 K1 k2 b1 b2
  go_wp2_with fail
  refine (G3.out).mono ?_
  rintro e w2 ⟨rfl, b4⟩
  have b5 := below_trans b3 b4
  clear G3 d1 d2 d3 d4 d5 d6 d7 d8 b3 b4
  go_wp2_with fail
  go_ret
  exact ⟨rfl, b5⟩
/-- A number that may be is none that may not. -/
theorem con_vcheck (z : NV) (hz : okNV z) : ConE Tryz.prog 39 [IsNum z] (IsErr true) := by
  refine ⟨fun _ _ => by go_simp, fun vs w B hB hE hV => ?_⟩
  match vs, hV with
  | [v], ⟨h1, _⟩ =>
    have hst : ∀ w', Below w.heap.size w w' → EnvP w' (fun _ => False) ∧ (IsNum z).p v w' (fun _ => False) := fun w' hb => by
      have hE2 := hE.mv (Bl.of_below B hb).mv
      exact ⟨⟨hE2.sh, hE2.tab, fun h => h⟩, (IsNum z).st _ _ _ _ _ ⟨hb.size, fun k hk => .inl (hb.block k hk), fun _ _ h => h.elim⟩ h1⟩
    obtain ⟨p, q, kd, rfl, hI, ⟨ka, kc, rfl⟩⟩ := h1
    refine (check_calls _ _ _ _ _ _ _ ka kc w (fun w' hb => ?_) (fun w' hb => ?_) (fun w' hb => ?_)).mono fun e w' h => ⟨_, h.1, rfl, h.2⟩
    · refine ((con_check1 z hz 0).calls [_, _] w' (fun _ => False) (fun _ h => h.elim) (hst w' hb).1 ⟨(hst w' hb).2, rfl, trivial⟩).mono ?_
      rintro e w2 ⟨v, rfl, h, hb2⟩
      obtain rfl := h
      exact ⟨rfl, hb2⟩
    · refine ((con_check2 z 0).calls [_, _] w' (fun _ => False) (fun _ h => h.elim) ⟨(hst w' hb).2, rfl, trivial⟩).mono ?_
      rintro e w2 ⟨v, rfl, h, hb2⟩
      obtain rfl := h
      exact ⟨rfl, hb2⟩
    · refine ((con_container z).calls [_] w' (fun _ => False) (fun _ h => h.elim) ⟨(hst w' hb).2, trivial⟩).mono ?_
      rintro e w2 ⟨v, rfl, h, hb2⟩
      obtain rfl := h
      exact ⟨rfl, hb2⟩
end Go.Proofs.YtoimhjcpeifegaaGreatDoor


/- Two numbers at a time: arrays of two ints, lists of two numbers; calls through the interface. -/
set_option maxRecDepth 50000
namespace Go.Proofs.YtoimhjcpeifegaaGreatDoor
open Go Go.RowKit

abbrev A2 (a b : Int) : VP := Lit (.agg #[.int .i64 a, .int .i64 b])
theorem shape_A2 {a b : Int} : Shape 2 (A2 a b) := fun v w B h => ⟨_, h, rfl, by simp [Value.oneCell'], fun j ik x hk => by rcases j with _ | _ | j <;> simp <;> (rintro rfl; rcases hk with hk | hk <;> cases hk)⟩
/-- A list of two numbers. -/
def POnes (o1 o2 : One) (v : Value) (w : World) (B : Bx) : Prop := ∃ b u1 u2, v = .slice (some ⟨b, 0, none⟩) 2 2 ∧ ¬ B b ∧ w.cell? ⟨b, 0, none⟩ = some u1 ∧ w.cell? ⟨b, 1, none⟩ = some u2 ∧ (IsOne o1).p u1 w B ∧ (IsOne o2).p u2 w B
theorem cell_st {w w' : World} {B B' : Bx} (h : Mv w B w' B') {b j : Nat} {u : Value} (hb : ¬ B b) (hc : w.cell? ⟨b, j, none⟩ = some u) : ¬ B' b ∧ w'.cell? ⟨b, j, none⟩ = some u := by
  have hl := World.block_lt_of_cell? w _ hc
  refine ⟨fun h2 => hb (h.box b hl h2), ?_⟩
  rcases h.same b hl with h1 | ⟨h1, _⟩
  · rw [← hc]; exact World.cell?_of_block h1
  · exact absurd h1 hb
def IsOnes (o1 o2 : One) : VP := ⟨POnes o1 o2, fun v w B w' B' h ⟨b, u1, u2, e, hb, c1, c2, h1, h2⟩ => ⟨b, u1, u2, e, (cell_st h hb c1).1, (cell_st h hb c1).2, (cell_st h hb c2).2, (IsOne o1).st _ _ _ _ _ h h1, (IsOne o2).st _ _ _ _ _ h h2⟩⟩
def PCellO (o : One) (v : Value) (w : World) (B : Bx) : Prop := ∃ b j u, v = .pointer (some ⟨b, j, none⟩) ∧ ¬ B b ∧ w.cell? ⟨b, j, none⟩ = some u ∧ (IsOne o).p u w B
def IsCellO (o : One) : VP := ⟨PCellO o, fun v w B w' B' h ⟨b, j, u, e, hb, c1, h1⟩ => ⟨b, j, u, e, (cell_st h hb c1).1, (cell_st h hb c1).2, (IsOne o).st _ _ _ _ _ h h1⟩⟩
section
variable {need : List (Tmp × FD)} {d : Option Tmp} {ty : TypeId} {pos : String} {af : Array Edge} {g : Option (Nat × Bool)} {x y : Operand} {D : VP}
theorem tyA2 : TyOk Tryz.prog 120 2 := ⟨⟨_, Tryz.underlying120, rfl⟩, by kernel_rfl⟩
theorem zeroA2 : (Tryz.prog.info? 120).map (·.zero) = some (some (.agg #[.int .i64 0, .int .i64 0])) := by kernel_rfl
theorem ok_allocA2 : OpOk Tryz.prog ⟨d, .alloc 120, ty, pos, af, g⟩ need (.box 120 2 (A2 0 0)) true := ok_alloc zeroA2 rfl fun w B => rfl
theorem run_buildA2 (w : World) : (Instr.build 120 #[]).run Tryz.prog w = .ok (.agg #[.int .i64 0, .int .i64 0]) w := by go_simp
theorem ok_buildA2 : OpOk Tryz.prog ⟨d, .build 120 #[], ty, pos, af, g⟩ need (.val (A2 0 0)) false :=
  OpOk.value fun a w B hF => ⟨.agg #[.int .i64 0, .int .i64 0], by simp [execOp, Sem.run_bind, run_buildA2], rfl⟩
theorem eqA2 (a b c d : Int) (w : World) : (Op.equalIn 10000 120 (.agg #[.int .i64 a, .int .i64 b]) (.agg #[.int .i64 c, .int .i64 d])).run Tryz.prog w = .ok (a == c && b == d) w := by
  have u3 := Tryz.underlying3
  have a3 := Tryz.isAgg3
  have z3 := Tryz.sizeOf3
  rw [show (10000 : Nat) = 9999 + 1 from rfl, Op.equalIn]
  simp only [Sem.run_bind, run_underlying Tryz.underlying120, Result.andThen_ok]
  simp only [Std.Legacy.Range.forIn_eq_forIn_range', Std.Legacy.Range.size, Nat.sub_zero, Nat.add_sub_cancel, Nat.div_one, List.range'_succ, List.range'_zero, List.forIn_cons, List.forIn_nil]
  go_simp
  by_cases h1 : a = c <;> by_cases h2 : b = d <;> simp [h1, h2]
theorem run_neA2 (ρ : Operand → Value) (w : World) (a b : Int) (h1 : ρ x = .agg #[.int .i64 a, .int .i64 b]) (h2 : ρ y = .agg #[.int .i64 0, .int .i64 0]) : (execOp ρ ⟨d, .binOp .neq 120 x y 120, ty, pos, af, g⟩).run Tryz.prog w = .ok (.value (.bool (!(a == 0 && b == 0)))) w := by
  have e := fun w => eqA2 a b 0 0 w
  unfold execOp
  simp only [h1, h2]
  go_simp
theorem ok_neA2 {a b : Int} {c : Bool} (h : Opd need x (.val (A2 a b))) (h' : Opd need y (.val (A2 0 0))) (hc : c = !(a == 0 && b == 0)) : OpOk Tryz.prog ⟨d, .binOp .neq 120 x y 120, ty, pos, af, g⟩ need (.val (IsB c)) false :=
  ok_lit2 h h' fun ρ w e1 e2 => by rw [hc]; exact run_neA2 ρ w a b e1 e2
theorem ok_max {P : Program} {k : IntKind} {i j : Int} {ts : Array TypeId} (h : Opd need x (.val (Lit (.int k i)))) (h' : Opd need y (.val (Lit (.int k j)))) : OpOk P ⟨d, .call { callee := .builtin .max, args := #[x, y], argTypes := ts }, ty, pos, af, g⟩ need (.val (Lit (.int k (if i < j then j else i)))) false :=
  ok_lit2 h h' fun ρ w e1 e2 => by
    simp [execOp, e1, e2, resolve, invoke, builtin]
    simp [Builtin.max_, Builtin.max2]
theorem ok_ones {o1 o2 : One} (h : Opd need x (.val (IsOne o1))) (h' : Opd need y (.val (IsOne o2))) : OpOk Tryz.prog ⟨d, .buildSlice 121 2 #[(0, x), (1, y)], ty, pos, af, g⟩ need (.val (IsOnes o1 o2)) false := by
  intro Q K a w B hB hF hK
  have h1 := h a w B hF
  have h2 := h' a w B hF
  obtain ⟨u1, e1⟩ : ∃ u, a.eval x = u := ⟨_, rfl⟩
  obtain ⟨u2, e2⟩ : ∃ u, a.eval y = u := ⟨_, rfl⟩
  rw [e1] at h1
  rw [e2] at h2
  have hbel : Below w.heap.size w (w.alloc (.cells #[u1, u2] 115)) := (Below.refl _ _).alloc (Nat.le_refl _) _
  have hone : ∀ (o : One) (u : Value), (IsOne o).p u w B → u = .nilIface ∨ ∃ t z, u = .iface t z := fun o u hu => by
    by_cases hn : o.isNone = false
    · obtain ⟨z, e, _⟩ := POne.open hu hn
      exact .inr ⟨_, _, e⟩
    · cases o <;> simp [One.isNone] at hn
      exact .inl hu
  have hr : (execOp a.eval ⟨d, .buildSlice 121 2 #[(0, x), (1, y)], ty, pos, af, g⟩).run Tryz.prog w = .ok (.value (.slice (some ⟨w.heap.size, 0, none⟩) 2 2)) (w.alloc (.cells #[u1, u2] 115)) := by
    simp only [execOp, e1, e2, List.map_toArray, List.map_cons, List.map_nil]
    rcases hone o1 u1 h1 with rfl | ⟨t1, z1, rfl⟩ <;> rcases hone o2 u2 h2 with rfl | ⟨t2, z2, rfl⟩ <;> go_simp
  unfold Oper.wp
  rw [hr]
  have hbl := Bl.of_below B hbel
  refine hK _ _ B ⟨w.heap.size, u1, u2, rfl, fun hb => by have := hB _ hb; omega, ?_, ?_, (IsOne o1).st _ _ _ _ _ hbl.mv h1, (IsOne o2).st _ _ _ _ _ hbl.mv h2⟩ hbl hbel (fun k hk => Nat.lt_of_lt_of_le (hB k hk) hbel.size) (by simp)
  · rw [cell_row (heap_alloc_new w _)]; rfl
  · rw [cell_row (heap_alloc_new w _)]; rfl
theorem ok_lenOnes {o1 o2 : One} (h : Opd need x (.val (IsOnes o1 o2))) : OpOk Tryz.prog ⟨d, .call { callee := .builtin .len, args := #[x], argTypes := #[121] }, 3, pos, af, g⟩ need (.val (Lit (.int .i64 2))) false :=
  ok_via h fun ρ w B v ⟨b, u1, u2, e1, _⟩ h1 => by
    refine ⟨_, ?_, rfl⟩
    unfold execOp
    simp only [h1, e1, resolve, List.map_toArray, List.map_cons, List.map_nil]
    go_simp
theorem run_idxO0 (b : Nat) (w : World) : (Instr.indexAt 121 (.slice (some ⟨b, 0, none⟩) 2 2) (.int .i64 0)).run Tryz.prog w = .ok (.pointer (some ⟨b, 0, none⟩)) w := by go_simp
theorem run_idxO1 (b : Nat) (w : World) : (Instr.indexAt 121 (.slice (some ⟨b, 0, none⟩) 2 2) (.int .i64 1)).run Tryz.prog w = .ok (.pointer (some ⟨b, 1, none⟩)) w := by go_simp
theorem ok_idxO0 {o1 o2 : One} (h : Opd need x (.val (IsOnes o1 o2))) (h' : Opd need y (.val (Lit (.int .i64 0)))) : OpOk Tryz.prog ⟨d, .indexAddr 121 x y, ty, pos, af, g⟩ need (.val (IsCellO o1)) false :=
  ok_via2 h h' fun ρ w B v u ⟨b, u1, u2, e1, hb, c1, c2, p1, p2⟩ e2 h1 h2 => by
    have e2 : u = .int .i64 0 := e2
    refine ⟨.pointer (some ⟨b, 0, none⟩), ?_, b, 0, u1, rfl, hb, c1, p1⟩
    simp [execOp, h1, h2, e1, e2, run_idxO0]
theorem ok_idxO1 {o1 o2 : One} (h : Opd need x (.val (IsOnes o1 o2))) (h' : Opd need y (.val (Lit (.int .i64 1)))) : OpOk Tryz.prog ⟨d, .indexAddr 121 x y, ty, pos, af, g⟩ need (.val (IsCellO o2)) false :=
  ok_via2 h h' fun ρ w B v u ⟨b, u1, u2, e1, hb, c1, c2, p1, p2⟩ e2 h1 h2 => by
    have e2 : u = .int .i64 1 := e2
    refine ⟨.pointer (some ⟨b, 1, none⟩), ?_, b, 1, u2, rfl, hb, c2, p2⟩
    simp [execOp, h1, h2, e1, e2, run_idxO1]
theorem aggOne (w : World) : (isAgg 115).run Tryz.prog w = .ok false w := by go_simp
theorem ok_loadCellO {o : One} (h : Opd need x (.val (IsCellO o))) : OpOk Tryz.prog ⟨d, .load 115 x, ty, pos, af, g⟩ need (.val (IsOne o)) false :=
  ok_via h fun ρ w B v ⟨b, j, u, e, hb, c1, p1⟩ h1 => by
    refine ⟨u, ?_, p1⟩
    simp only [execOp, h1, e, Instr.loadAt, Instr.sureAddr, Sem.run_bind, Sem.run_pure, Result.andThen_ok, loadVar, aggOne, Bool.false_eq_true, if_false]
    simp [load, c1, Sem.run]
end
section
variable {P : Program} {ops : Array Oper} {Q : Exit → Act → World → Prop} {N : Nat} {w0 : World} {B0 : Bx} {a : Act} {w : World} {B : Bx} {l : List (Tmp × FD)} {bxs : List Tmp}
end
end Go.Proofs.YtoimhjcpeifegaaGreatDoor

