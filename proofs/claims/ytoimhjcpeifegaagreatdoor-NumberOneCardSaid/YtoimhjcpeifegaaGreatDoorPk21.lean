/- Contracts of functions, and plain facts, part 21. -/
import Derived.Test.YtoimhjcpeifegaaGreatDoorPk7
import Derived.Test.YtoimhjcpeifegaaGreatDoorPk9
import Derived.Test.YtoimhjcpeifegaaGreatDoorPk20
set_option linter.unusedVariables false
set_option linter.unusedSimpArgs false
/- Two numbers at a time: arrays of two ints, lists of two numbers; calls through the interface. -/
set_option maxRecDepth 50000
namespace Go.Proofs.YtoimhjcpeifegaaGreatDoor
open Go Go.RowKit

abbrev A2 (a b : Int) : VP := Lit (.agg #[.int .i64 a, .int .i64 b])
theorem shape_A2 {a b : Int} : Shape 2 (A2 a b) := fun v w B h => ⟨_, h, rfl, by simp [Value.oneCell'], fun j ik x hk => by rcases j with _ | _ | j <;> simp <;> (rintro rfl; rcases hk with hk | hk <;> cases hk)⟩
/-- A list of two numbers. -/
def POnes (o1 o2 : One) (v : Value) (w : World) (B : Bx) : Prop := ∃ b u1 u2, v = .slice (some ⟨b, 0, none⟩) 2 2 ∧ ¬ B b ∧ w.cell? ⟨b, 0, none⟩ = some u1 ∧ w.cell? ⟨b, 1, none⟩ = some u2 ∧ (IsOne o1).p u1 w B ∧ (IsOne o2).p u2 w B
theorem cell_st {w w' : World} {B B' : Bx} (h : Mv w B w' B') {b j : Nat} {u : Value} (hb : ¬ B b) (hc : w.cell? ⟨b, j, none⟩ = some u) : ¬ B' b ∧ w'.cell? ⟨b, j, none⟩ = some u := by
  have hl := World.block_lt_of_cell? w _ hc
  refine ⟨fun h2 => hb (h.box b hl h2), ?_⟩
  rcases h.same b hl with h1 | ⟨h1, _⟩
  · rw [← hc]; exact World.cell?_of_block h1
  · exact absurd h1 hb
def IsOnes (o1 o2 : One) : VP := ⟨POnes o1 o2, fun v w B w' B' h ⟨b, u1, u2, e, hb, c1, c2, h1, h2⟩ => ⟨b, u1, u2, e, (cell_st h hb c1).1, (cell_st h hb c1).2, (cell_st h hb c2).2, (IsOne o1).st _ _ _ _ _ h h1, (IsOne o2).st _ _ _ _ _ h h2⟩⟩
def PCellO (o : One) (v : Value) (w : World) (B : Bx) : Prop := ∃ b j u, v = .pointer (some ⟨b, j, none⟩) ∧ ¬ B b ∧ w.cell? ⟨b, j, none⟩ = some u ∧ (IsOne o).p u w B
def IsCellO (o : One) : VP := ⟨PCellO o, fun v w B w' B' h ⟨b, j, u, e, hb, c1, h1⟩ => ⟨b, j, u, e, (cell_st h hb c1).1, (cell_st h hb c1).2, (IsOne o).st _ _ _ _ _ h h1⟩⟩
section
variable {need : List (Tmp × FD)} {d : Option Tmp} {ty : TypeId} {pos : String} {af : Array Edge} {g : Option (Nat × Bool)} {x y : Operand} {D : VP}
theorem tyA2 : TyOk Tryz.prog 120 2 := ⟨⟨_, Tryz.underlying120, rfl⟩, by kernel_rfl⟩
theorem zeroA2 : (Tryz.prog.info? 120).map (·.zero) = some (some (.agg #[.int .i64 0, .int .i64 0])) := by kernel_rfl
theorem ok_allocA2 : OpOk Tryz.prog ⟨d, .alloc 120, ty, pos, af, g⟩ need (.box 120 2 (A2 0 0)) true := ok_alloc zeroA2 rfl fun w B => rfl
theorem run_buildA2 (w : World) : (Instr.build 120 #[]).run Tryz.prog w = .ok (.agg #[.int .i64 0, .int .i64 0]) w := by go_simp
theorem ok_buildA2 : OpOk Tryz.prog ⟨d, .build 120 #[], ty, pos, af, g⟩ need (.val (A2 0 0)) false :=
  OpOk.value fun a w B hF => ⟨.agg #[.int .i64 0, .int .i64 0], by simp [execOp, Sem.run_bind, run_buildA2], rfl⟩
theorem run_idxA2_0 (b : Nat) (w : World) : (Instr.indexAt 120 (.pointer (some ⟨b, 0, none⟩)) (.int .i64 ((0 : Nat) : Int))).run Tryz.prog w = .ok (.pointer (some ⟨b, 0, none⟩)) w := by go_simp
theorem run_idxA2_1 (b : Nat) (w : World) : (Instr.indexAt 120 (.pointer (some ⟨b, 0, none⟩)) (.int .i64 ((1 : Nat) : Int))).run Tryz.prog w = .ok (.pointer (some ⟨b, 1, none⟩)) w := by go_simp
theorem ok_idxA2_0 (h : Opd need x (.box 120 2 D)) (h' : Opd need y (.val (Lit (.int .i64 0)))) : OpOk Tryz.prog ⟨d, .indexAddr 120 x y, ty, pos, af, g⟩ need (.ptr 120 2 D 0) false :=
  OpOk.value fun a w B hF => by
    obtain ⟨b, cs, h1, h2, h3, h4, h5, h6⟩ := h a w B hF
    have e2 : a.eval y = .int .i64 ((0 : Nat) : Int) := h' a w B hF
    refine ⟨.pointer (some ⟨b, 0, none⟩), ?_, b, cs, rfl, h2, h3, h4, h5, h6⟩
    simp only [execOp, h1, e2, Sem.run_bind, run_idxA2_0, Result.andThen_ok, Sem.run_pure]
theorem ok_idxA2_1 (h : Opd need x (.box 120 2 D)) (h' : Opd need y (.val (Lit (.int .i64 1)))) : OpOk Tryz.prog ⟨d, .indexAddr 120 x y, ty, pos, af, g⟩ need (.ptr 120 2 D 1) false :=
  OpOk.value fun a w B hF => by
    obtain ⟨b, cs, h1, h2, h3, h4, h5, h6⟩ := h a w B hF
    have e2 : a.eval y = .int .i64 ((1 : Nat) : Int) := h' a w B hF
    refine ⟨.pointer (some ⟨b, 1, none⟩), ?_, b, cs, rfl, h2, h3, h4, h5, h6⟩
    simp only [execOp, h1, e2, Sem.run_bind, run_idxA2_1, Result.andThen_ok, Sem.run_pure]
theorem ok_loadA2_0 {a b : Int} (h : Opd need x (.ptr 120 2 (A2 a b) 0)) : OpOk Tryz.prog ⟨d, .load 3 x, ty, pos, af, g⟩ need (.val (Lit (.int .i64 a))) false :=
  ok_loadPtr1 aggIntT h (by decide) fun cs v w B e hv => by
    injection e with e
    subst e
    simp at hv
    exact hv.symm
theorem ok_loadA2_1 {a b : Int} (h : Opd need x (.ptr 120 2 (A2 a b) 1)) : OpOk Tryz.prog ⟨d, .load 3 x, ty, pos, af, g⟩ need (.val (Lit (.int .i64 b))) false :=
  ok_loadPtr1 aggIntT h (by decide) fun cs v w B e hv => by
    injection e with e
    subst e
    simp at hv
    exact hv.symm
theorem eqA2 (a b c d : Int) (w : World) : (Op.equalIn 10000 120 (.agg #[.int .i64 a, .int .i64 b]) (.agg #[.int .i64 c, .int .i64 d])).run Tryz.prog w = .ok (a == c && b == d) w := by
  have u3 := Tryz.underlying3
  have a3 := Tryz.isAgg3
  have z3 := Tryz.sizeOf3
  rw [show (10000 : Nat) = 9999 + 1 from rfl, Op.equalIn]
  simp only [Sem.run_bind, run_underlying Tryz.underlying120, Result.andThen_ok]
  simp only [Std.Legacy.Range.forIn_eq_forIn_range', Std.Legacy.Range.size, Nat.sub_zero, Nat.add_sub_cancel, Nat.div_one, List.range'_succ, List.range'_zero, List.forIn_cons, List.forIn_nil]
  go_simp
  by_cases h1 : a = c <;> by_cases h2 : b = d <;> simp [h1, h2]
theorem run_neA2 (ρ : Operand → Value) (w : World) (a b : Int) (h1 : ρ x = .agg #[.int .i64 a, .int .i64 b]) (h2 : ρ y = .agg #[.int .i64 0, .int .i64 0]) : (execOp ρ ⟨d, .binOp .neq 120 x y 120, ty, pos, af, g⟩).run Tryz.prog w = .ok (.value (.bool (!(a == 0 && b == 0)))) w := by
  have e := fun w => eqA2 a b 0 0 w
  unfold execOp
  simp only [h1, h2]
  go_simp
theorem ok_neA2 {a b : Int} {c : Bool} (h : Opd need x (.val (A2 a b))) (h' : Opd need y (.val (A2 0 0))) (hc : c = !(a == 0 && b == 0)) : OpOk Tryz.prog ⟨d, .binOp .neq 120 x y 120, ty, pos, af, g⟩ need (.val (IsB c)) false :=
  ok_lit2 h h' fun ρ w e1 e2 => by rw [hc]; exact run_neA2 ρ w a b e1 e2
theorem ok_max {P : Program} {k : IntKind} {i j : Int} {ts : Array TypeId} (h : Opd need x (.val (Lit (.int k i)))) (h' : Opd need y (.val (Lit (.int k j)))) : OpOk P ⟨d, .call { callee := .builtin .max, args := #[x, y], argTypes := ts }, ty, pos, af, g⟩ need (.val (Lit (.int k (if i < j then j else i)))) false :=
  ok_lit2 h h' fun ρ w e1 e2 => by
    simp [execOp, e1, e2, resolve, invoke, builtin]
    simp [Builtin.max_, Builtin.max2]
theorem ok_min2 {P : Program} {k : IntKind} {i j : Int} {ts : Array TypeId} (h : Opd need x (.val (Lit (.int k i)))) (h' : Opd need y (.val (Lit (.int k j)))) : OpOk P ⟨d, .call { callee := .builtin .min, args := #[x, y], argTypes := ts }, ty, pos, af, g⟩ need (.val (Lit (.int k (if j < i then j else i)))) false :=
  ok_lit2 h h' fun ρ w e1 e2 => by
    simp [execOp, e1, e2, resolve, invoke, builtin]
    simp [Builtin.min_, Builtin.min2]
theorem ok_ones {o1 o2 : One} (h : Opd need x (.val (IsOne o1))) (h' : Opd need y (.val (IsOne o2))) : OpOk Tryz.prog ⟨d, .buildSlice 121 2 #[(0, x), (1, y)], ty, pos, af, g⟩ need (.val (IsOnes o1 o2)) false := by
  intro Q K a w B hB hF hK
  have h1 := h a w B hF
  have h2 := h' a w B hF
  obtain ⟨u1, e1⟩ : ∃ u, a.eval x = u := ⟨_, rfl⟩
  obtain ⟨u2, e2⟩ : ∃ u, a.eval y = u := ⟨_, rfl⟩
  rw [e1] at h1
  rw [e2] at h2
  have hbel : Below w.heap.size w (w.alloc (.cells #[u1, u2] 115)) := (Below.refl _ _).alloc (Nat.le_refl _) _
  have hone : ∀ (o : One) (u : Value), (IsOne o).p u w B → u = .nilIface ∨ ∃ t z, u = .iface t z := fun o u hu => by
    by_cases hn : o.isNone = false
    · obtain ⟨z, e, _⟩ := POne.open hu hn
      exact .inr ⟨_, _, e⟩
    · cases o <;> simp [One.isNone] at hn
      exact .inl hu
  have hr : (execOp a.eval ⟨d, .buildSlice 121 2 #[(0, x), (1, y)], ty, pos, af, g⟩).run Tryz.prog w = .ok (.value (.slice (some ⟨w.heap.size, 0, none⟩) 2 2)) (w.alloc (.cells #[u1, u2] 115)) := by
    simp only [execOp, e1, e2, List.map_toArray, List.map_cons, List.map_nil]
    rcases hone o1 u1 h1 with rfl | ⟨t1, z1, rfl⟩ <;> rcases hone o2 u2 h2 with rfl | ⟨t2, z2, rfl⟩ <;> go_simp
  unfold Oper.wp
  rw [hr]
  have hbl := Bl.of_below B hbel
  refine hK _ _ B ⟨w.heap.size, u1, u2, rfl, fun hb => by have := hB _ hb; omega, ?_, ?_, (IsOne o1).st _ _ _ _ _ hbl.mv h1, (IsOne o2).st _ _ _ _ _ hbl.mv h2⟩ hbl hbel (fun k hk => Nat.lt_of_lt_of_le (hB k hk) hbel.size) (by simp)
  · rw [cell_row (heap_alloc_new w _)]; rfl
  · rw [cell_row (heap_alloc_new w _)]; rfl
theorem ok_lenOnes {o1 o2 : One} (h : Opd need x (.val (IsOnes o1 o2))) : OpOk Tryz.prog ⟨d, .call { callee := .builtin .len, args := #[x], argTypes := #[121] }, 3, pos, af, g⟩ need (.val (Lit (.int .i64 2))) false :=
  ok_via h fun ρ w B v ⟨b, u1, u2, e1, _⟩ h1 => by
    refine ⟨_, ?_, rfl⟩
    unfold execOp
    simp only [h1, e1, resolve, List.map_toArray, List.map_cons, List.map_nil]
    go_simp
theorem run_idxO0 (b : Nat) (w : World) : (Instr.indexAt 121 (.slice (some ⟨b, 0, none⟩) 2 2) (.int .i64 0)).run Tryz.prog w = .ok (.pointer (some ⟨b, 0, none⟩)) w := by go_simp
theorem run_idxO1 (b : Nat) (w : World) : (Instr.indexAt 121 (.slice (some ⟨b, 0, none⟩) 2 2) (.int .i64 1)).run Tryz.prog w = .ok (.pointer (some ⟨b, 1, none⟩)) w := by go_simp
theorem ok_idxO0 {o1 o2 : One} (h : Opd need x (.val (IsOnes o1 o2))) (h' : Opd need y (.val (Lit (.int .i64 0)))) : OpOk Tryz.prog ⟨d, .indexAddr 121 x y, ty, pos, af, g⟩ need (.val (IsCellO o1)) false :=
  ok_via2 h h' fun ρ w B v u ⟨b, u1, u2, e1, hb, c1, c2, p1, p2⟩ e2 h1 h2 => by
    have e2 : u = .int .i64 0 := e2
    refine ⟨.pointer (some ⟨b, 0, none⟩), ?_, b, 0, u1, rfl, hb, c1, p1⟩
    simp [execOp, h1, h2, e1, e2, run_idxO0]
theorem ok_idxO1 {o1 o2 : One} (h : Opd need x (.val (IsOnes o1 o2))) (h' : Opd need y (.val (Lit (.int .i64 1)))) : OpOk Tryz.prog ⟨d, .indexAddr 121 x y, ty, pos, af, g⟩ need (.val (IsCellO o2)) false :=
  ok_via2 h h' fun ρ w B v u ⟨b, u1, u2, e1, hb, c1, c2, p1, p2⟩ e2 h1 h2 => by
    have e2 : u = .int .i64 1 := e2
    refine ⟨.pointer (some ⟨b, 1, none⟩), ?_, b, 1, u2, rfl, hb, c2, p2⟩
    simp [execOp, h1, h2, e1, e2, run_idxO1]
theorem aggOne (w : World) : (isAgg 115).run Tryz.prog w = .ok false w := by go_simp
theorem ok_loadCellO {o : One} (h : Opd need x (.val (IsCellO o))) : OpOk Tryz.prog ⟨d, .load 115 x, ty, pos, af, g⟩ need (.val (IsOne o)) false :=
  ok_via h fun ρ w B v ⟨b, j, u, e, hb, c1, p1⟩ h1 => by
    refine ⟨u, ?_, p1⟩
    simp only [execOp, h1, e, Instr.loadAt, Instr.sureAddr, Sem.run_bind, Sem.run_pure, Result.andThen_ok, loadVar, aggOne, Bool.false_eq_true, if_false]
    simp [load, c1, Sem.run]
end
section
variable {P : Program} {ops : Array Oper} {Q : Exit → Act → World → Prop} {N : Nat} {w0 : World} {B0 : Bx} {a : Act} {w : World} {B : Bx} {l : List (Tmp × FD)} {bxs : List Tmp}
theorem idx_store {i j : Nat} {rest : List Nat} {t t2 : TypeId} {n off : Nat} {zo : Operand} {s p y : Tmp} {u : Value} {D D' : VP} {ty1 ty2 : TypeId} {pos1 pos2 : String} {af1 af2 : Array Edge} {l' : List (Tmp × FD)} (kp ky : Nat)
    (H : St N w0 B0 a w B l bxs) (hoi : ops[i]? = some ⟨some s, .indexAddr t (.tmp p) zo, ty1, pos1, af1, none⟩) (hoj : ops[j]? = some ⟨none, .store t2 (.tmp s) (.tmp y), ty2, pos2, af2, none⟩)
    (hzo : Opd l zo (.val (Lit (.int .i64 off)))) (hrun1 : ∀ (b : Nat) (w : World), (Instr.indexAt t (.pointer (some ⟨b, 0, none⟩)) (.int .i64 off)).run P w = .ok (.pointer (some ⟨b, off, none⟩)) w) (hz : (P.info? t2).map (·.size) = some 1)
    (hp : l[kp]? = some (p, .box t n D)) (hy : l[ky]? = some (y, .val (Lit u))) (hone : u.oneCell' = true) (s0 : Shape n D) (hoff : off < n) (hD : ∀ cs w B, D.p (.agg cs) w B → D'.p (.agg (cs.setIfInBounds off u)) w B)
    (hc : (bxs.contains p && (!bxs.contains s) && decide (s < N) && decide (y ≠ s) && decide (p ≠ s) && l.all fun z => z.1 != s && (z.2.isVal || (z.2.isBox && bxs.contains z.1))) = true) (hl : stored p (.box t n D') l = l')
    (hK : ∀ a w, St N w0 B0 a w B l' bxs → wpOps P ops Q rest a w) : wpOps P ops Q (i :: j :: rest) a w := by
  simp only [Bool.and_eq_true, List.all_eq_true, Bool.or_eq_true, Bool.not_eq_true', decide_eq_true_eq, bne_iff_ne] at hc
  obtain ⟨⟨⟨⟨⟨hpb, hsb⟩, hsN⟩, hys⟩, hps⟩, hall⟩ := hc
  rw [List.contains_iff_mem] at hpb
  obtain ⟨b, cs, e1, hB, hlt, hrow, hcs, hD0⟩ := H.fc.get kp hp
  have hyv : a.tmps.getD y undef = u := H.fc.get ky hy
  obtain ⟨cs2, e2, hn2, hone2, hpl⟩ := s0 _ _ _ hD0
  injection e2 with e2
  subst e2
  have hs : ∀ d, (some s : Option Tmp) = some d → d < a.tmps.size := fun d hd2 => by
    injection hd2 with hd2
    subst hd2
    rw [H.sz]
    exact hsN
  have hput : ∀ v x, (a.put (some s) v).tmps.getD x undef = if (some s : Option Tmp) = some x then v else a.tmps.getD x undef := fun v x => put_getD hs
  have hold : ∀ v x, x ≠ s → (a.put (some s) v).tmps.getD x undef = a.tmps.getD x undef := fun v x hx => by
    rw [hput, if_neg ?_]
    intro e
    injection e with e
    exact hx e.symm
  rw [wpOps_cons]
  unfold wpOp
  simp only [hoi]
  rw [if_pos (by simp [Region.wanted])]
  refine .inl ?_
  unfold Oper.wp
  have e4 : a.eval (.tmp p) = .pointer (some ⟨b, 0, none⟩) := e1
  have e5 : a.eval zo = .int .i64 off := hzo a w B H.fc
  have hr1 : (execOp a.eval ⟨some s, .indexAddr t (.tmp p) zo, ty1, pos1, af1, none⟩).run P w = .ok (.value (.pointer (some ⟨b, off, none⟩))) w := by
    simp [execOp, e4, e5, hrun1]
  rw [hr1]
  show wpOps P ops Q (j :: rest) _ w
  rw [wpOps_cons]
  unfold wpOp
  simp only [hoj]
  rw [if_pos (by simp [Region.wanted])]
  refine .inl ?_
  unfold Oper.wp
  have hcell : w.cell? ⟨b, off, none⟩ = some (cs[off]'(by omega)) := by rw [cell_row hrow]; exact Array.getElem?_eq_getElem _
  have hfr : w.frozen? ⟨b, off, none⟩ = false := by simp [World.frozen?, hrow]
  have hcu : u.cells = #[u] := by cases u <;> first | rfl | simp [Value.oneCell'] at hone
  have hrun : (storeVar t2 ⟨b, off, none⟩ u).run P w = .ok () (w.setCell ⟨b, off, none⟩ u) := by
    obtain ⟨i0, hi, hz0⟩ := Option.map_eq_some_iff.1 hz
    have hs1 := run_store P w ⟨b, off, none⟩ u .plain hone
    rw [hcell, hfr] at hs1
    have e0 : (⟨b, off, none⟩ : Addr).add 0 = ⟨b, off, none⟩ := by unfold Addr.add; split <;> simp_all
    simp [storeVar, hcu, storeCells, sizeOf, typeInfo, hi, hz0, Sem.run_bind, e0]
    simpa using hs1
  have hr2 : (execOp (a.put (some s) (.pointer (some ⟨b, off, none⟩))).eval ⟨none, .store t2 (.tmp s) (.tmp y), ty2, pos2, af2, none⟩).run P w = .ok .skip (w.setCell ⟨b, off, none⟩ u) := by
    have e5 : (a.put (some s) (.pointer (some ⟨b, off, none⟩))).eval (.tmp s) = .pointer (some ⟨b, off, none⟩) := by
      show (a.put (some s) _).tmps.getD s undef = _
      rw [hput, if_pos rfl]
    have e6 : (a.put (some s) (.pointer (some ⟨b, off, none⟩))).eval (.tmp y) = u := by
      show (a.put (some s) _).tmps.getD y undef = _
      rw [hold _ _ hys]; exact hyv
    simp only [execOp, e5, e6, Instr.storeAt, Instr.sureAddr, Sem.run_bind, Sem.run_pure, Result.andThen_ok, hrun]
  rw [hr2]
  have hsame : ∀ k, k ≠ b → (w.setCell ⟨b, off, none⟩ u).heap[k]? = w.heap[k]? := fun k hk => by
    simp only [World.setCell, Array.getElem?_modify]
    rw [if_neg (fun e => hk e.symm)]
  have hnew : (w.setCell ⟨b, off, none⟩ u).heap[b]? = some (.cells (cs.setIfInBounds off u) t (0, 0)) := by
    simp only [World.setCell, Array.getElem?_modify, hrow, if_true, Option.map_some, Option.isSome_none]
    simp
  have hs0 : (w.setCell ⟨b, off, none⟩ u).heap.size = w.heap.size := by simp [World.setCell]
  have hmv : Mv w B (w.setCell ⟨b, off, none⟩ u) B := by
    refine ⟨Nat.le_of_eq hs0.symm, fun k hk => ?_, fun _ _ h => h⟩
    by_cases e : k = b
    · subst e
      refine .inr ⟨hB, fun a ik x ha hik hc => ?_⟩
      unfold World.cell? at hc
      rw [ha, hrow] at hc
      simp only at hc
      split at hc
      · cases hc
      · exact hpl _ _ _ hik hc
    · exact .inl (hsame k e)
  show wpOps P ops Q rest (a.put (some s) (.pointer (some ⟨b, off, none⟩))) (w.setCell ⟨b, off, none⟩ u)
  refine hK _ _ ⟨put_defers.trans H.df, put_size.trans H.sz, ?_, fun z hz2 => ?_, fun x hx z hz2 hxz => ?_, ?_, fun k hk => by rw [hs0]; exact H.own k hk, H.own0⟩
  · rw [← hl]
    refine Fct.of_all fun z hz2 => ?_
    obtain ⟨q, hq, rfl⟩ := List.mem_map.1 hz2
    have hqf := H.fc.all q hq
    obtain ⟨hqs, hqv⟩ := hall q hq
    by_cases ez : q.1 = p
    · rw [if_pos ez]
      show BoxP t n D' _ _ B
      rw [hold _ _ hps]
      exact ⟨b, _, e1, hB, by rw [hs0]; exact hlt, hnew, by simpa using hcs, D'.st _ _ _ _ _ hmv (hD _ _ _ hD0)⟩
    · rw [if_neg ez, hold _ _ hqs]
      rcases hqv with hv | hb
      · cases hf : q.2 with
        | val E => rw [hf] at hqf; exact E.st _ _ _ _ _ hmv hqf
        | box t n E => rw [hf] at hv; cases hv
        | ptr t n E off => rw [hf] at hv; cases hv
      · cases hf : q.2 with
        | val E => rw [hf] at hb; simp [FD.isBox] at hb
        | ptr t n E off => rw [hf] at hb; simp [FD.isBox] at hb
        | box t3 n3 E =>
          rw [hf] at hqf hb
          have hzb := List.contains_iff_mem.1 hb.2
          obtain ⟨c, cs3, g1, g2, g3, g4, g5, g6⟩ := hqf
          have hne : c ≠ b := by
            rintro rfl
            exact H.ap q.1 hzb p hpb ez (g1.trans e1.symm)
          exact ⟨c, cs3, g1, g2, by rw [hs0]; exact g3, (hsame c hne).trans g4, g5, E.st _ _ _ _ _ hmv g6⟩
  · have hne : z ≠ s := fun e => by
      subst e
      rw [← List.contains_iff_mem, hsb] at hz2
      cases hz2
    obtain ⟨c, g1, g2, g3⟩ := H.bx z hz2
    exact ⟨c, (hold _ _ hne).trans g1, by rw [hs0]; exact g2, g3⟩
  · have hne : ∀ q ∈ bxs, q ≠ s := fun q hq e => by
      subst e
      rw [← List.contains_iff_mem, hsb] at hq
      cases hq
    rw [hold _ _ (hne x hx), hold _ _ (hne z hz2)]
    exact H.ap x hx z hz2 hxz
  · obtain ⟨c, g1, g2, g3⟩ := H.bx p hpb
    rw [e1] at g1
    injection g1 with g1; injection g1 with g1; injection g1 with g1
    subst g1
    refine ⟨H.bel.os, H.bel.tape, H.bel.output, by rw [hs0]; exact H.bel.size, fun k hk => ?_⟩
    rw [hsame k (by omega)]
    exact H.bel.block k hk
end
end Go.Proofs.YtoimhjcpeifegaaGreatDoor

