/- Contracts of functions, and plain facts, part 5. -/
import Derived.WalkKit
import Derived.Laws.Tables
import Derived.Deep.MidRow
import Derived.Lib.SlicesS
import Derived.Test.YtoimhjcpeifegaaGreatDoorPk3
import Derived.Test.YtoimhjcpeifegaaGreatDoorPk4
set_option linter.unusedVariables false
set_option linter.unusedSimpArgs false
/- The operations of a region, one law for each kind; control; the call of a function by what it takes and answers. -/
namespace Go.Proofs.YtoimhjcpeifegaaGreatDoor
open Go Go.RowKit

section
variable {P : Program} {need : List (Tmp × FD)}
def Opd (need : List (Tmp × FD)) (x : Operand) (D : FD) : Prop := ∀ a w B, Fct a w B need → D.p (a.eval x) w B
theorem Opd.tmp (k : Nat) {s : Tmp} {D : FD} (h : need[k]? = some (s, D)) : Opd need (.tmp s) D := fun a w B hF => hF.get k h
theorem Opd.const {v : Value} {D : VP} (h : ∀ w B, D.p v w B) : Opd need (.const v) (.val D) := fun a w B _ => h w B
theorem Opd.lit {v : Value} : Opd need (.const v) (.val (Lit v)) := fun a w B _ => rfl
theorem Opd.weak {x : Operand} {D D' : VP} (h : Opd need x (.val D)) (hw : ∀ v w B, D.p v w B → D'.p v w B) : Opd need x (.val D') := fun a w B hF => hw _ _ _ (h a w B hF)

theorem OpOk.value {o : Oper} {D : FD} (h : ∀ a w B, Fct a w B need → ∃ v, (execOp a.eval o).run P w = .ok (.value v) w ∧ D.p v w B) : OpOk P o need D false := by
  intro Q K a w B hB hF hK
  obtain ⟨v, h1, h2⟩ := h a w B hF
  unfold Oper.wp
  rw [h1]
  exact hK v w B h2 (Bl.refl _ _) (Below.refl _ _) hB (by simp)

structure TyOk (P : Program) (t : TypeId) (n : Nat) : Prop where
  row : ∃ d, P.underlying t = some d ∧ d.isRow = true
  size : (P.info? t).map (·.size) = some n

variable {d : Option Tmp} {ty : TypeId} {pos : String} {af : Array Edge} {g : Option (Nat × Bool)}

theorem ok_move {x : Operand} {D : FD} (h : Opd need x D) : OpOk P ⟨d, .move x, ty, pos, af, g⟩ need D false :=
  OpOk.value fun a w B hF => ⟨a.eval x, rfl, h a w B hF⟩
theorem ok_assign {x : Operand} {D : FD} (h : Opd need x D) : OpOk P ⟨d, .assign x, ty, pos, af, g⟩ need D false :=
  OpOk.value fun a w B hF => ⟨a.eval x, rfl, h a w B hF⟩
theorem ok_load {x : Operand} {t : TypeId} {n : Nat} {D : VP} (T : TyOk P t n) (h : Opd need x (.box t n D)) : OpOk P ⟨d, .load t x, ty, pos, af, g⟩ need (.val D) false :=
  OpOk.value fun a w B hF => by
    obtain ⟨b, cs, h1, h2, h3, h4, h5, h6⟩ := h a w B hF
    obtain ⟨dd, hu, hd⟩ := T.row
    refine ⟨.agg cs, ?_, h6⟩
    have := run_loadVar_row (P := P) w b t t cs (0, 0) dd h4 hu (by cases dd <;> simp_all) (by rw [T.size, h5])
    simp only [execOp, h1, Instr.loadAt, Instr.sureAddr, Sem.run_bind, Sem.run_pure, Result.andThen_ok, this]
theorem cell_row {w : World} {b : Nat} {t : TypeId} {cs : Array Value} (h : w.heap[b]? = some (.cells cs t (0, 0))) (j : Nat) : w.cell? ⟨b, j, none⟩ = cs[j]? := by
  simp [World.cell?, h]
/-- A part of an aggregate that is an aggregate. -/
theorem ok_loadPtrA {x : Operand} {t t2 : TypeId} {n n2 off : Nat} {D D2 : VP} (T : TyOk P t2 n2) (h : Opd need x (.ptr t n D off)) (hn : off + n2 ≤ n) (hD : ∀ cs w B, D.p (.agg cs) w B → D2.p (.agg (cs.extract off (off + n2))) w B) : OpOk P ⟨d, .load t2 x, ty, pos, af, g⟩ need (.val D2) false :=
  OpOk.value fun a w B hF => by
    obtain ⟨b, cs, h1, h2, h3, h4, h5, h6⟩ := h a w B hF
    obtain ⟨dd, hu, hd⟩ := T.row
    refine ⟨.agg (cs.extract off (off + n2)), ?_, hD _ _ _ h6⟩
    have hl : (cs.extract off (off + n2)).toList.length = n2 := by simp; omega
    have := run_loadVar_mid (P := P) w b off t2 (cs.extract off (off + n2)).toList dd (fun j v hj => by
      have hj2 : j < n2 := by
        have := (List.getElem?_eq_some_iff.1 hj).1
        omega
      rw [cell_row h4]
      rw [Array.getElem?_toList, Array.getElem?_extract] at hj
      split at hj
      · exact hj
      · cases hj) hu hd (by rw [T.size, hl])
    simp only [execOp, h1, Instr.loadAt, Instr.sureAddr, Sem.run_bind, Sem.run_pure, Result.andThen_ok, this]
/-- A part that is one cell. -/
theorem ok_loadPtr1 {x : Operand} {t t2 : TypeId} {n off : Nat} {D D2 : VP} (hs : ∀ w : World, (isAgg t2).run P w = .ok false w) (h : Opd need x (.ptr t n D off)) (hn : off < n) (hD : ∀ cs v w B, D.p (.agg cs) w B → cs[off]? = some v → D2.p v w B) : OpOk P ⟨d, .load t2 x, ty, pos, af, g⟩ need (.val D2) false :=
  OpOk.value fun a w B hF => by
    obtain ⟨b, cs, h1, h2, h3, h4, h5, h6⟩ := h a w B hF
    have hc : cs[off]? = some (cs[off]'(by omega)) := Array.getElem?_eq_getElem _
    refine ⟨cs[off]'(by omega), ?_, hD _ _ _ _ h6 hc⟩
    have e : w.cell? ⟨b, off, none⟩ = some (cs[off]'(by omega)) := by rw [cell_row h4, hc]
    simp only [execOp, h1, Instr.loadAt, Instr.sureAddr, Sem.run_bind, Sem.run_pure, Result.andThen_ok, loadVar, hs, Bool.false_eq_true, if_false]
    simp [load, e, Sem.run]

theorem run_alloc_zero {t : TypeId} {cs0 : Array Value} (hz : (P.info? t).map (·.zero) = some (some (.agg cs0))) (w : World) : (Instr.alloc t true (.tuple #[])).run P w = .ok (.pointer (some ⟨w.heap.size, 0, none⟩)) (w.alloc (.cells cs0 t)) := by
  cases hq : P.info? t with
  | none => rw [hq] at hz; cases hz
  | some i =>
    rw [hq] at hz
    simp only [Option.map_some, Option.some.injEq] at hz
    simp [Instr.alloc, zeroValue, typeInfo, hq, hz, newVar, newRow, newObj, Sem.run_bind, Value.cells, Sem.run]
theorem box_new {w : World} {B : Bx} {t : TypeId} {n : Nat} {D : VP} {cs : Array Value} (hB : Own1 B w) (hn : cs.size = n) (hD : D.p (.agg cs) w B) :
    BoxP t n D (.pointer (some ⟨w.heap.size, 0, none⟩)) (w.alloc (.cells cs t)) (fun k => B k ∨ k = w.heap.size) ∧ Bl w B (w.alloc (.cells cs t)) (fun k => B k ∨ k = w.heap.size) ∧ Below w.heap.size w (w.alloc (.cells cs t)) ∧ Own1 (fun k => B k ∨ k = w.heap.size) (w.alloc (.cells cs t)) ∧ w.heap.size < (w.alloc (.cells cs t)).heap.size := by
  have hs : (w.alloc (.cells cs t)).heap.size = w.heap.size + 1 := by simp
  have hbel : Below w.heap.size w (w.alloc (.cells cs t)) := (Below.refl _ _).alloc (Nat.le_refl _) _
  have hbl : Bl w B (w.alloc (.cells cs t)) (fun k => B k ∨ k = w.heap.size) := ⟨by omega, hbel.block, fun k hk => ⟨fun h => h.resolve_right (by omega), fun h => .inl h⟩⟩
  refine ⟨⟨_, cs, rfl, .inr rfl, by omega, heap_alloc_new w _, hn, D.st _ _ _ _ _ hbl.mv hD⟩, hbl, hbel, ?_, by omega⟩
  rintro k (h | h)
  · have := hB k h; omega
  · omega
theorem ok_alloc {t : TypeId} {n : Nat} {D : VP} {cs0 : Array Value} (hz : (P.info? t).map (·.zero) = some (some (.agg cs0))) (hn : cs0.size = n) (hD : ∀ w B, D.p (.agg cs0) w B) : OpOk P ⟨d, .alloc t, ty, pos, af, g⟩ need (.box t n D) true := by
  intro Q K a w B hB hF hK
  obtain ⟨h1, h2, h3, h4, h5⟩ := box_new (t := t) (D := D) hB hn (hD w B)
  unfold Oper.wp
  simp only [execOp, Sem.run_bind, run_alloc_zero hz, Result.andThen_ok, Sem.run_pure]
  exact hK _ _ _ h1 h2 h3 h4 (fun _ => ⟨_, rfl, Nat.le_refl _, h5⟩)
theorem ok_box {t : TypeId} {n : Nat} {x : Operand} {D : VP} (h : Opd need x (.val D)) (hs : ∀ v w B, D.p v w B → ∃ cs, v = .agg cs ∧ cs.size = n) : OpOk P ⟨d, .box t x, ty, pos, af, g⟩ need (.box t n D) true := by
  intro Q K a w B hB hF hK
  have hx := h a w B hF
  obtain ⟨cs, e, hn⟩ := hs _ _ _ hx
  have hx2 : D.p (.agg cs) w B := by rw [← e]; exact hx
  obtain ⟨h1, h2, h3, h4, h5⟩ := box_new (t := t) (D := D) hB hn hx2
  have hr : (Instr.box t (a.eval x)).run P w = .ok (.pointer (some ⟨w.heap.size, 0, none⟩)) (w.alloc (.cells cs t)) := by
    simp [Instr.box, e, newVar, newRow, newObj, Sem.run_bind, Value.cells, Sem.run]
  unfold Oper.wp
  simp only [execOp, Sem.run_bind, hr, Result.andThen_ok, Sem.run_pure]
  exact hK _ _ _ h1 h2 h3 h4 (fun _ => ⟨_, rfl, Nat.le_refl _, h5⟩)

def VAll : List Value → List VP → World → Bx → Prop
  | [], [], _, _ => True
  | v :: vs, D :: Ds, w, B => D.p v w B ∧ VAll vs Ds w B
  | _, _, _, _ => False
theorem VAll.st {w w' : World} {B B' : Bx} (h : Mv w B w' B') : ∀ {vs : List Value} {Ds : List VP}, VAll vs Ds w B → VAll vs Ds w' B'
  | [], [], _ => trivial
  | v :: vs, D :: Ds, ⟨h1, h2⟩ => ⟨D.st _ _ _ _ _ h h1, VAll.st h h2⟩
/-- Function f takes what meets Ds and answers what meets R; nothing old turns. -/
structure Con (P : Program) (f : FuncId) (Ds : List VP) (R : VP) : Prop where
  enters : ∀ (vs : Array Value) (w : World), (callFunc f vs).run P w = .ok (.enter f vs) w
  calls : ∀ (vs : List Value) (w : World) (B : Bx), Own1 B w → VAll vs Ds w B → Calls P f vs.toArray w (fun e w' => ∃ v, e = .returned v ∧ R.p v w' B ∧ Below w.heap.size w w')
theorem Con.weak {f : FuncId} {Ds : List VP} {R R' : VP} (h : Con P f Ds R) (hw : ∀ v w B, R.p v w B → R'.p v w B) : Con P f Ds R' :=
  ⟨h.enters, fun vs w B hB hV => (h.calls vs w B hB hV).mono fun e w' ⟨v, e1, h1, h2⟩ => ⟨v, e1, hw _ _ _ h1, h2⟩⟩
inductive Opds (need : List (Tmp × FD)) : List Operand → List VP → Prop where
  | nil : Opds need [] []
  | cons {x : Operand} {D : VP} {xs : List Operand} {Ds : List VP} (h : Opd need x (.val D)) (t : Opds need xs Ds) : Opds need (x :: xs) (D :: Ds)
theorem Opds.all {xs : List Operand} {Ds : List VP} (h : Opds need xs Ds) {a : Act} {w : World} {B : Bx} (hF : Fct a w B need) : VAll (xs.map a.eval) Ds w B := by
  induction h with
  | nil => trivial
  | cons h t ih => exact ⟨h a w B hF, ih⟩
theorem ok_call {f : FuncId} {args : List Operand} {ts : Array TypeId} {Ds : List VP} {R : VP} (C : Con P f Ds R) (h : Opds need args Ds) : OpOk P ⟨d, .call { callee := .value (.func f), args := args.toArray, argTypes := ts }, ty, pos, af, g⟩ need (.val R) false := by
  intro Q K a w B hB hF hK
  have hr : (execOp a.eval ⟨d, .call { callee := .value (.func f), args := args.toArray, argTypes := ts }, ty, pos, af, g⟩).run P w = .ok (.enter f (args.map a.eval).toArray) w := by
    simp [execOp, resolve, Act.eval, Deferred.ofValue, invoke, Sem.run_bind, C.enters]
  unfold Oper.wp
  rw [hr]
  refine (C.calls (args.map a.eval) w B hB (h.all hF)).mono ?_
  rintro e w' ⟨v, rfl, h1, h2⟩
  have hbl := Bl.of_below B h2
  exact hK v w' B h1 hbl h2 (fun k hk => Nat.lt_of_lt_of_le (hB k hk) h2.size) (by simp)
def Tup (Ds : List VP) : VP := ⟨fun v w B => ∃ vs, v = .tuple vs.toArray ∧ VAll vs Ds w B, fun v w B w' B' h hp => by
  obtain ⟨vs, h1, h2⟩ := hp
  exact ⟨vs, h1, h2.st h⟩⟩
theorem VAll.get {w : World} {B : Bx} : ∀ {vs : List Value} {Ds : List VP}, VAll vs Ds w B → ∀ (k : Nat) (D : VP), Ds[k]? = some D → ∃ v, vs[k]? = some v ∧ D.p v w B
  | [], [], _, k, D, hk => by simp at hk
  | v :: vs, E :: Ds, ⟨h1, h2⟩, k, D, hk => by
    cases k with
    | zero => simp at hk; subst hk; exact ⟨v, rfl, h1⟩
    | succ k => exact VAll.get h2 k D (by simpa using hk)
theorem ok_extract {x : Operand} {Ds : List VP} (k : Nat) {D : VP} (h : Opd need x (.val (Tup Ds))) (hk : Ds[k]? = some D) : OpOk P ⟨d, .extract x k, ty, pos, af, g⟩ need (.val D) false :=
  OpOk.value fun a w B hF => by
    obtain ⟨vs, e, hv⟩ := h a w B hF
    obtain ⟨v, h1, h2⟩ := hv.get k D hk
    refine ⟨v, ?_, h2⟩
    simp [execOp, e, Instr.extract, h1, Sem.run_bind]
theorem ok_pickT {c x y : Operand} {D : FD} (hc : Opd need c (.val (IsB true))) (h : Opd need x D) : OpOk P ⟨d, .pick c x y, ty, pos, af, g⟩ need D false :=
  OpOk.value fun a w B hF => by
    have e : a.eval c = .bool true := hc a w B hF
    exact ⟨a.eval x, by simp [execOp, e, asBool, Sem.run_bind], h a w B hF⟩
theorem ok_pickF {c x y : Operand} {D : FD} (hc : Opd need c (.val (IsB false))) (h : Opd need y D) : OpOk P ⟨d, .pick c x y, ty, pos, af, g⟩ need D false :=
  OpOk.value fun a w B hF => by
    have e : a.eval c = .bool false := hc a w B hF
    exact ⟨a.eval y, by simp [execOp, e, asBool, Sem.run_bind], h a w B hF⟩
/-- D where c holds; else not carried out. -/
def Grd (c : Bool) (D : VP) : VP := ⟨fun v w B => (c = true → D.p v w B) ∧ (c = false → v = undef), fun v w B w' B' h hp => ⟨fun e => D.st _ _ _ _ _ h (hp.1 e), hp.2⟩⟩
/-- A guard that is a letter: D is shown where it lets the operation pass. -/
theorem StepOk.sym {ops : Array Oper} {o : Oper} {D : VP} (g : Nat) (b c t : Bool) {og : Oper} {s : Tmp} (hg : o.guard = some (g, b)) (hog : ops[g]? = some og) (hd : og.dst = some s)
    (k : Nat) {need' : List (Tmp × FD)} (hk : need[k]? = some (s, .val (IsB c))) (ht : (c == b) = t) (hw : ∀ a w B, t = true → Fct a w B need → Fct a w B need') (h : t = true → OpOk P o need' (.val D) false) : StepOk P ops o need (.val (Grd t D)) false := by
  intro Q K i a w B ho hB hF hK
  have hv : a.tmps.getD s undef = .bool c := hF.get k hk
  unfold wpOp
  simp only [ho]
  cases t with
  | true =>
    have e : c = b := by simpa using ht
    rw [if_pos (by simp [Region.wanted, hg, yielded_of hog hd hv, e])]
    refine .inl (h rfl Q K a w B hB (hw a w B rfl hF) fun v w' B' h1 h2 h3 h4 h5 => hK v w' B' ⟨fun _ => h1, fun e => by cases e⟩ h2 h3 h4 h5)
  | false =>
    have e : c ≠ b := by simpa using ht
    rw [if_neg (by simp [Region.wanted, hg, yielded_of hog hd hv, e])]
    exact hK undef w B ⟨fun e => by (cases e), fun _ => rfl⟩ (Bl.refl _ _) (Below.refl _ _) hB (by simp)
/-- if c then x (told under c) else y (told under not c). -/
theorem ok_pickS {c x y : Operand} (b : Bool) {D : VP} (hc : Opd need c (.val (IsB b))) (hx : b = true → Opd need x (.val D)) (hy : b = false → Opd need y (.val D)) : OpOk P ⟨d, .pick c x y, ty, pos, af, g⟩ need (.val D) false :=
  OpOk.value fun a w B hF => by
    have e : a.eval c = .bool b := hc a w B hF
    cases b with
    | true => exact ⟨a.eval x, by simp [execOp, e, asBool, Sem.run_bind], hx rfl a w B hF⟩
    | false => exact ⟨a.eval y, by simp [execOp, e, asBool, Sem.run_bind], hy rfl a w B hF⟩
theorem Opd.grd {x : Operand} {b : Bool} {D : VP} (h : Opd need x (.val (Grd b D))) (hb : b = true) : Opd need x (.val D) := fun a w B hF => (h a w B hF).1 hb
theorem Opd.eqB {x : Operand} {b c : Bool} (h : Opd need x (.val (IsB b))) (hb : b = c) : Opd need x (.val (IsB c)) := hb ▸ h
theorem OpOk.eqB {o : Oper} {b c : Bool} (h : OpOk P o need (.val (IsB b)) false) (e : b = c) : OpOk P o need (.val (IsB c)) false := e ▸ h
theorem run_eqBool {t : TypeId} {p q : Bool} (hu : P.underlying t = some .bool) (w : World) : (Op.equal t (.bool p) (.bool q)).run P w = .ok (p == q) w := by
  unfold Op.equal
  rw [show Op.maxDepth = (Op.maxDepth - 1) + 1 from rfl]
  generalize Op.maxDepth - 1 = m
  simp [Op.equalIn, Sem.run_bind, run_underlying hu]
theorem ok_eqB {x y : Operand} {p q : Bool} {t t' : TypeId} (hu : P.underlying t = some .bool) (h : Opd need x (.val (IsB p))) (h' : Opd need y (.val (IsB q))) : OpOk P ⟨d, .binOp .eql t x y t', ty, pos, af, g⟩ need (.val (IsB (p == q))) false :=
  OpOk.value fun a w B hF => by
    have e1 : a.eval x = .bool p := h a w B hF
    have e2 : a.eval y = .bool q := h' a w B hF
    refine ⟨.bool (p == q), ?_, rfl⟩
    simp [execOp, e1, e2, eqGuard, binOp, Sem.run_bind, run_eqBool hu]
    try rfl
theorem ok_eqS {x y : Operand} {p q : ByteArray} {b : Bool} {t t' : TypeId} (h : Opd need x (.val (Lit (.string p)))) (h' : Opd need y (.val (Lit (.string q)))) (hb : b = decide (p = q)) : OpOk P ⟨d, .binOp .eql t x y t', ty, pos, af, g⟩ need (.val (IsB b)) false :=
  OpOk.value fun a w B hF => by
    have e1 : a.eval x = .string p := h a w B hF
    have e2 : a.eval y = .string q := h' a w B hF
    refine ⟨.bool b, ?_, rfl⟩
    subst hb
    have hq : (p.toList == q.toList) = decide (p = q) := by
      by_cases e : p = q
      · rw [decide_eq_true e, (Lib.bytes_beq_iff _ _).2 e]
      · rw [decide_eq_false e, (Lib.bytes_beq_false_iff _ _).2 e]
    simp [execOp, e1, e2, eqGuard, binOp, Op.stringOp, Sem.run_bind, hq]
theorem ok_not {x : Operand} {b : Bool} {t : TypeId} (h : Opd need x (.val (IsB b))) : OpOk P ⟨d, .unOp .not t x, ty, pos, af, g⟩ need (.val (IsB (!b))) false :=
  OpOk.value fun a w B hF => by
    have e : a.eval x = .bool b := h a w B hF
    exact ⟨.bool (!b), by simp [execOp, e, Op.unary, Sem.run_bind], rfl⟩
/-- Any operation on known values. -/
theorem ok_lit1 {x : Operand} {o : Op} {u r : Value} (h : Opd need x (.val (Lit u))) (hr : ∀ (ρ : Operand → Value) (w : World), ρ x = u → (execOp ρ ⟨d, o, ty, pos, af, g⟩).run P w = .ok (.value r) w) : OpOk P ⟨d, o, ty, pos, af, g⟩ need (.val (Lit r)) false :=
  OpOk.value fun a w B hF => ⟨r, hr _ w (h a w B hF), rfl⟩
theorem ok_lit2 {x y : Operand} {o : Op} {u v r : Value} (h : Opd need x (.val (Lit u))) (k : Opd need y (.val (Lit v))) (hr : ∀ (ρ : Operand → Value) (w : World), ρ x = u → ρ y = v → (execOp ρ ⟨d, o, ty, pos, af, g⟩).run P w = .ok (.value r) w) : OpOk P ⟨d, o, ty, pos, af, g⟩ need (.val (Lit r)) false :=
  OpOk.value fun a w B hF => ⟨r, hr _ w (h a w B hF) (k a w B hF), rfl⟩
theorem ok_cmp {x y : Operand} {o : BinOp} {k : IntKind} {i j : Int} {b : Bool} {t t' : TypeId} (h : Opd need x (.val (Lit (.int k i)))) (h' : Opd need y (.val (Lit (.int k j))))
    (hr : match o with
      | .eql => b = decide (i = j) | .neq => b = decide (i ≠ j) | .lss => b = decide (i < j) | .leq => b = decide (i ≤ j) | .gtr => b = decide (j < i) | .geq => b = decide (j ≤ i)
      | _ => False) : OpOk P ⟨d, .binOp o t x y t', ty, pos, af, g⟩ need (.val (IsB b)) false :=
  OpOk.value fun a w B hF => by
    have e1 : a.eval x = .int k i := h a w B hF
    have e2 : a.eval y = .int k j := h' a w B hF
    refine ⟨.bool b, ?_, rfl⟩
    cases o <;> simp only at hr <;> first
      | exact hr.elim
      | (subst hr; simp [execOp, e1, e2, eqGuard, binOp, Op.intCmp, Sem.run_bind]; try rfl)
theorem ok_fieldAddr {x : Operand} {t : TypeId} {n : Nat} {D : VP} {fs : Array Field} {fd : Field} (k off : Nat) (hu : P.underlying t = some (.struct fs)) (hk : fs[k]? = some fd) (ho : fd.offset = off) (hs : ∀ w : World, ∃ m, (sizeOf fd.type).run P w = .ok m w ∧ m ≠ 0) (h : Opd need x (.box t n D)) :
    OpOk P ⟨d, .fieldAddr t x k, ty, pos, af, g⟩ need (.ptr t n D off) false :=
  OpOk.value fun a w B hF => by
    obtain ⟨b, cs, h1, h2, h3, h4, h5, h6⟩ := h a w B hF
    obtain ⟨m, hm, hm0⟩ := hs w
    refine ⟨.pointer (some ⟨b, off, none⟩), ?_, b, cs, rfl, h2, h3, h4, h5, h6⟩
    have hu2 : (underlying t).run P w = .ok (.struct fs) w := run_underlying hu w
    simp [execOp, Instr.fieldAt, Instr.sureAddr, h1, hu2, hk, fieldPlace, hm, hm0, Sem.run_bind, ho, Addr.add_mid]
theorem ok_via {x : Operand} {o : Op} {D R : VP} (h : Opd need x (.val D)) (hr : ∀ (ρ : Operand → Value) (w : World) (B : Bx) (v : Value), D.p v w B → ρ x = v → ∃ r, (execOp ρ ⟨d, o, ty, pos, af, g⟩).run P w = .ok (.value r) w ∧ R.p r w B) : OpOk P ⟨d, o, ty, pos, af, g⟩ need (.val R) false :=
  OpOk.value fun a w B hF => hr _ w B _ (h a w B hF) rfl
theorem ok_via2 {x y : Operand} {o : Op} {D E R : VP} (h : Opd need x (.val D)) (k : Opd need y (.val E)) (hr : ∀ (ρ : Operand → Value) (w : World) (B : Bx) (v u : Value), D.p v w B → E.p u w B → ρ x = v → ρ y = u → ∃ r, (execOp ρ ⟨d, o, ty, pos, af, g⟩).run P w = .ok (.value r) w ∧ R.p r w B) : OpOk P ⟨d, o, ty, pos, af, g⟩ need (.val R) false :=
  OpOk.value fun a w B hF => hr _ w B _ _ (h a w B hF) (k a w B hF) rfl rfl
end

section
variable {P : Program} {ops : Array Oper} {Q : Exit → Act → World → Prop} {md : Region.Mode}
def Shape (n : Nat) (D : VP) : Prop := ∀ v w B, D.p v w B → ∃ cs, v = .agg cs ∧ cs.size = n ∧ (cs.all (·.oneCell') = true) ∧ ∀ (j : Nat) (ik : IntKind) (x : Int), (ik = .u32 ∨ ik = .u8) → cs[j]? ≠ some (.int ik x)
def FD.isVal : FD → Bool
  | .val _ => true
  | _ => false
def FD.isBox : FD → Bool
  | .box .. => true
  | _ => false
def stored (p : Tmp) (f : FD) (l : List (Tmp × FD)) : List (Tmp × FD) := l.map fun x => if x.1 = p then (p, f) else x
theorem Mv.setRow {w : World} {B : Bx} {b : Nat} {cs0 cs : Array Value} {t : TypeId} (hb : B b) (h : w.heap[b]? = some (.cells cs0 t (0, 0))) (hp : ∀ (j : Nat) (ik : IntKind) (x : Int), (ik = .u32 ∨ ik = .u8) → cs0[j]? ≠ some (.int ik x)) : Mv w B (w.setRow b cs) B := by
  refine ⟨by simp [World.setRow], fun k hk => ?_, fun _ _ h => h⟩
  by_cases e : b = k
  · subst e
    refine .inr ⟨hb, fun a ik x ha hik hc => ?_⟩
    unfold World.cell? at hc
    rw [ha, h] at hc
    simp only at hc
    split at hc
    · cases hc
    · exact hp _ _ _ hik hc
  · exact .inl (by simp [World.setRow, Array.getElem?_modify, e])
theorem store_op {i : Nat} {K : Act → World → Prop} {N : Nat} {w0 : World} {B0 : Bx} {a : Act} {w : World} {B : Bx} {l l' : List (Tmp × FD)} {bxs : List Tmp} {t : TypeId} {n : Nat} {p : Tmp} {x : Operand} {D0 D : VP} {ty : TypeId} {pos : String} {af : Array Edge} (kp : Nat)
    (H : St N w0 B0 a w B l bxs) (ho : ops[i]? = some ⟨none, .store t (.tmp p) x, ty, pos, af, none⟩) (T : TyOk P t n) (hp : l[kp]? = some (p, .box t n D0)) (hx : Opd l x (.val D)) (s0 : Shape n D0) (s1 : Shape n D)
    (hc : (bxs.contains p && l.all fun y => y.2.isVal || (y.2.isBox && bxs.contains y.1)) = true) (hl : stored p (.box t n D) l = l')
    (hK : ∀ w, St N w0 B0 a w B l' bxs → K a w) : wpOp P ops Q i K a w := by
  obtain ⟨b, cs0, e1, hB, hlt, hrow, hsz, hD0⟩ := H.fc.get kp hp
  have hxv := hx a w B H.fc
  obtain ⟨cs, e2, hn, hone, hpl⟩ := s1 _ _ _ hxv
  obtain ⟨cs1, e3, hn1, hone1, hpl1⟩ := s0 _ _ _ hD0
  injection e3 with e3
  subst e3
  have hrun : (storeVar t ⟨b, 0, none⟩ (.agg cs)).run P w = .ok () (w.setRow b cs) := run_storeVar_row w b t t cs0 cs hrow (by rw [T.size, hn]) (by omega) hone
  have hmv : Mv w B (w.setRow b cs) B := Mv.setRow hB hrow hpl1
  simp only [Bool.and_eq_true, List.all_eq_true, Bool.or_eq_true] at hc
  obtain ⟨hpb, hall⟩ := hc
  rw [List.contains_iff_mem] at hpb
  have hsame : ∀ k, k ≠ b → (w.setRow b cs).heap[k]? = w.heap[k]? := fun k hk => by simp [World.setRow, Array.getElem?_modify, Ne.symm hk]
  have hs : (w.setRow b cs).heap.size = w.heap.size := by simp [World.setRow]
  have hD1 : D.p (.agg cs) w B := by rw [← e2]; exact hxv
  unfold wpOp
  simp only [ho]
  rw [if_pos (by simp [Region.wanted])]
  refine .inl ?_
  unfold Oper.wp
  have hr2 : (execOp a.eval ⟨none, .store t (.tmp p) x, ty, pos, af, none⟩).run P w = .ok .skip (w.setRow b cs) := by
    have e4 : a.eval (.tmp p) = .pointer (some ⟨b, 0, none⟩) := e1
    simp only [execOp, e4, e2, Instr.storeAt, Instr.sureAddr, Sem.run_bind, Sem.run_pure, Result.andThen_ok, hrun]
  rw [hr2]
  show K a (w.setRow b cs)
  refine hK _ ⟨H.df, H.sz, ?_, fun s hs2 => ?_, H.ap, ?_, fun k hk => by rw [hs]; exact H.own k hk, H.own0⟩
  · rw [← hl]
    refine Fct.of_all fun y hy => ?_
    obtain ⟨z, hz, rfl⟩ := List.mem_map.1 hy
    have hzf := H.fc.all z hz
    by_cases ez : z.1 = p
    · rw [if_pos ez]
      exact ⟨b, cs, e1, hB, by rw [hs]; exact hlt, setRow_heap w b cs0 cs t (0, 0) hrow, hn, D.st _ _ _ _ _ hmv hD1⟩
    · rw [if_neg ez]
      rcases hall z hz with hv | hb
      · cases hf : z.2 with
        | val E => rw [hf] at hzf; exact E.st _ _ _ _ _ hmv hzf
        | box t n E => rw [hf] at hv; cases hv
        | ptr t n E off => rw [hf] at hv; cases hv
      · cases hf : z.2 with
        | val E => rw [hf] at hb; simp [FD.isBox] at hb
        | ptr t n E off => rw [hf] at hb; simp [FD.isBox] at hb
        | box t2 n2 E =>
          rw [hf] at hzf hb
          have hzb := List.contains_iff_mem.1 hb.2
          obtain ⟨c, cs2, g1, g2, g3, g4, g5, g6⟩ := hzf
          have hne : c ≠ b := by
            rintro rfl
            exact H.ap z.1 hzb p hpb ez (g1.trans e1.symm)
          exact ⟨c, cs2, g1, g2, by rw [hs]; exact g3, (hsame c hne).trans g4, g5, E.st _ _ _ _ _ hmv g6⟩
  · obtain ⟨c, g1, g2, g3⟩ := H.bx s hs2
    exact ⟨c, g1, by rw [hs]; exact g2, g3⟩
  · obtain ⟨c, g1, g2, g3⟩ := H.bx p hpb
    rw [e1] at g1
    injection g1 with g1; injection g1 with g1; injection g1 with g1
    subst g1
    refine ⟨H.bel.os, H.bel.tape, H.bel.output, by rw [hs]; exact H.bel.size, fun k hk => ?_⟩
    rw [hsame k (by omega)]
    exact H.bel.block k hk
theorem tail_op {i : Nat} {K : Act → World → Prop} {N : Nat} {w0 : World} {B0 : Bx} {a : Act} {w : World} {B : Bx} {l l' : List (Tmp × FD)} {bxs : List Tmp} {o : Oper} {D : FD} {s : Tmp}
    (H : St N w0 B0 a w B l bxs) (ho : ops[i]? = some o) (hd : o.dst = some s) (hsN : decide (s < N) = true) (h : StepOk P ops o l D false) (hl : (s, D) :: l.filter (fun x => x.1 != s) = l') (hb : bxs.contains s = false)
    (hK : ∀ a w B, St N w0 B0 a w B l' bxs → K a w) : wpOp P ops Q i K a w := by
  refine h Q K i a w B ho H.own H.fc fun v w' B' hp hbl hbel hown _ => hK _ _ B' ?_
  have hs : ∀ d, o.dst = some d → d < a.tmps.size := fun d hd2 => by
    rw [hd] at hd2
    injection hd2 with hd2
    subst hd2
    rw [H.sz]
    exact of_decide_eq_true hsN
  have hput : ∀ x, (a.put o.dst v).tmps.getD x undef = if o.dst = some x then v else a.tmps.getD x undef := fun x => put_getD hs
  have hold : ∀ x, x ∈ bxs → (a.put o.dst v).tmps.getD x undef = a.tmps.getD x undef := fun x hx => by
    rw [hput, if_neg ?_]
    intro e
    rw [hd] at e
    injection e with e
    subst e
    rw [← List.contains_iff_mem, hb] at hx
    cases hx
  refine ⟨put_defers.trans H.df, put_size.trans H.sz, ?_, fun x hx => ?_, fun x hx y hy hxy => ?_, below_then H.bel H.bel.size hbel, hown, fun k hk => ?_⟩
  · rw [← hl]
    refine Fct.of_all fun x hx => ?_
    rcases List.mem_cons.1 hx with rfl | hx
    · show D.p _ w' B'
      rw [hput, if_pos hd]; exact hp
    · rw [List.mem_filter] at hx
      have hne : x.1 ≠ s := by simpa using hx.2
      rw [hput, if_neg (fun e => hne (by rw [hd] at e; injection e with e; exact e.symm))]
      exact x.2.st hbl (H.fc.all x hx.1)
  · obtain ⟨b, h1, h2, h3⟩ := H.bx x hx
    exact ⟨b, (hold x hx).trans h1, Nat.lt_of_lt_of_le h2 hbel.size, h3⟩
  · rw [hold x hx, hold y hy]; exact H.ap x hx y hy hxy
  · have h1 := H.own0 k hk
    exact (hbl.box k (H.own k h1)).2 h1
theorem any_done {fuel : Nat} {l : Array Bool} {a : Act} {w : World} (hr : Region.ready md ops l = []) (h : Q .normal a w) : wpAny P md ops Q fuel l a w := by
  cases fuel with
  | zero => exact ⟨hr, h⟩
  | succ n => exact ⟨fun _ => h, fun j hj => by rw [hr] at hj; cases hj⟩
theorem ops_one {i : Nat} {rest : List Nat} {a : Act} {w : World} (h : wpOp P ops Q i (fun a' w' => wpOps P ops Q rest a' w') a w) : wpOps P ops Q (i :: rest) a w := by
  rw [wpOps_cons]; exact h
theorem ops_done {a : Act} {w : World} (h : Q .normal a w) : wpOps P ops Q [] a w := h
end

section
variable {P : Program} {Q : Exit → Act → World → Prop} {N : Nat} {w0 : World} {B0 : Bx} {a : Act} {w : World} {B : Bx} {l : List (Tmp × FD)} {bxs : List Tmp}
theorem f_cond {c : Operand} {x y : Code} {b : Bool} (H : St N w0 B0 a w B l bxs) (hc : Opd l c (.val (IsB b))) (ht : b = true → x.wp P Q a w) (hf : b = false → y.wp P Q a w) : (Code.cond c x y).wp P Q a w :=
  wp_cond_split (hc a w B H.fc) ht hf
theorem f_condT {c : Operand} {x y : Code} (H : St N w0 B0 a w B l bxs) (hc : Opd l c (.val (IsB true))) (h : x.wp P Q a w) : (Code.cond c x y).wp P Q a w := wp_cond_true (hc a w B H.fc) h
theorem f_condF {c : Operand} {x y : Code} (H : St N w0 B0 a w B l bxs) (hc : Opd l c (.val (IsB false))) (h : y.wp P Q a w) : (Code.cond c x y).wp P Q a w := wp_cond_false (hc a w B H.fc) h
/-- A bool of which something is known. -/
def IsIf (T F : Prop) : VP := ⟨fun v _ _ => ∃ b : Bool, v = .bool b ∧ (b = true → T) ∧ (b = false → F), fun _ _ _ _ _ _ h => h⟩
theorem f_condI {c : Operand} {x y : Code} {T F : Prop} (H : St N w0 B0 a w B l bxs) (hc : Opd l c (.val (IsIf T F))) (ht : T → x.wp P Q a w) (hf : F → y.wp P Q a w) : (Code.cond c x y).wp P Q a w := by
  obtain ⟨b, e, h1, h2⟩ := hc a w B H.fc
  exact wp_cond_split e (fun h => ht (h1 h)) (fun h => hf (h2 h))
theorem f_enter {f : FuncId} {fn : Func} {c : Code} {Ds : List VP} {R : VP} {N : Nat} (hN : fn.ntmps = N) (he : ∀ (vs : Array Value) (w : World), (callFunc f vs).run P w = .ok (.enter f vs) w) (hf : P.funcs[f]? = some fn) (hb : fn.body = some c) (hn : Ds.length ≤ N)
    (h : ∀ (a : Act) (w : World) (B : Bx), St N w B a w B (Ds.zipIdx.map fun x => (x.2, .val x.1)) [] → c.wp P (bodyPost P fn fun e w' => ∃ v, e = .returned v ∧ R.p v w' B ∧ Below w.heap.size w w') a w) : Con P f Ds R := by
  refine ⟨he, fun vs w B hB hV => calls_of_wp hf hb (h _ w B ⟨rfl, ?_, Fct.of_all fun x hx => ?_, by simp, by simp, Below.refl _ _, hB, fun _ h => h⟩)⟩
  · have hl : vs.length = Ds.length := by
      clear hn h hB
      induction vs generalizing Ds with
      | nil => cases Ds with
        | nil => rfl
        | cons D Ds => exact hV.elim
      | cons v vs ih => cases Ds with
        | nil => exact hV.elim
        | cons D Ds => simp [ih hV.2]
    simp [hN]; omega
  · obtain ⟨y, hy, rfl⟩ := List.mem_map.1 hx
    have h1 := List.mem_zipIdx_iff_getElem?.1 hy
    obtain ⟨v, h2, h3⟩ := hV.get y.2 y.1 h1
    have hlt : y.2 < vs.length := (List.getElem?_eq_some_iff.1 h2).1
    have e : (vs.toArray ++ Array.replicate (fn.ntmps - vs.toArray.size) undef).getD y.2 undef = v := by
      rw [Array.getD_eq_getD_getElem?, Array.getElem?_append_left (by simpa using hlt)]
      simp [h2]
    show y.1.p _ w B
    rw [e]
    exact h3
/-- Back, the answer in a slot. -/
theorem f_ret {fn : Func} {R : VP} {s : Tmp} (H : St N w0 B0 a w B l bxs) (hr : fn.results = #[.tmp s]) (k : Nat) {D : VP} (hk : l[k]? = some (s, .val D)) (hD : ∀ v w B, D.p v w B → R.p v w B) : bodyPost P fn (fun e w' => ∃ v, e = .returned v ∧ R.p v w' B0 ∧ Below w0.heap.size w0 w') .ret a w := by
  refine ⟨H.df, a.tmps.getD s undef, ?_, _, rfl, R.st _ _ _ _ _ (Mv.shrink H.own0) (hD _ _ _ (H.fc.get k hk)), H.bel⟩
  simp [results, hr]
/-- ... in a variable. -/
theorem f_retC {fn : Func} {R : VP} {s : Tmp} {t : TypeId} {n : Nat} (H : St N w0 B0 a w B l bxs) (T : TyOk P t n) (hr : fn.results = #[.cell s t]) (k : Nat) {D : VP} (hk : l[k]? = some (s, .box t n D)) (hD : ∀ v w B, D.p v w B → R.p v w B) : bodyPost P fn (fun e w' => ∃ v, e = .returned v ∧ R.p v w' B0 ∧ Below w0.heap.size w0 w') .ret a w := by
  obtain ⟨b, cs, h1, h2, h3, h4, h5, h6⟩ := H.fc.get k hk
  obtain ⟨dd, hu, hd⟩ := T.row
  refine ⟨H.df, .agg cs, results_cell_row hr _ _ b t cs (0, 0) dd h1 h4 hu (by cases dd <;> simp_all) (by rw [T.size, h5]), _, rfl, R.st _ _ _ _ _ (Mv.shrink H.own0) (hD _ _ _ h6), H.bel⟩
theorem block_normal {id : Nat} (h : Q .normal a w) : Exit.inBlock id Q .normal a w := h
theorem block_ret {id : Nat} (h : Q .ret a w) : Exit.inBlock id Q .ret a w := h
theorem block_exit {id : Nat} (h : Q .normal a w) : Exit.inBlock id Q (.exit id) a w := by
  show (if id = id then Q .normal a w else Q (.exit id) a w)
  rw [if_pos rfl]; exact h
theorem then_exit {K : Act → World → Prop} {id : Nat} (h : Q (.exit id) a w) : Exit.then K Q (.exit id) a w := h
/-- A region that draws, its list of what has come up written out. -/
theorem flow_drawT {id : Nat} {N : Nat} {opl : List Oper} {dsts : List (Option Tmp)} {refs : List (List Ref)} {outs : List Ref} {als : List Bool} {posts : List FD} {pre out : List (Tmp × FD)} {bxs nb : List Tmp} (H : St N w0 B0 a w B pre bxs)
    (hm : P.follows .mixedOrders = true) (m : Nat) (fuel : Nat) (lst : Array Bool)
    (hck : flowCheck true .any opl.toArray m N dsts (pre.map Prod.fst) bxs refs outs als = true) (hls : (decide (coreFull opl.toArray.size m = lst) && decide (unlisted lst = fuel)) = true) (hout : outs.map (lookR dsts posts pre) = out) (hnb : newBx dsts als = nb)
    (hall : AllOk P opl.toArray (lookR dsts posts pre) opl refs posts als)
    (hfull : ∀ a w B, St N w0 B0 a w B out (nb ++ bxs) → wpAny P .any opl.toArray Q fuel lst a w) : (Code.region id opl.toArray true).wp P Q a w := by
  rw [Bool.and_eq_true, decide_eq_true_eq, decide_eq_true_eq] at hls
  refine flow_draw H hm m hck hout hnb hall fun a w B h => ?_
  rw [hls.1, hls.2]
  exact hfull a w B h
theorem then_normal {K : Act → World → Prop} (h : K a w) : Exit.then K Q .normal a w := h
theorem then_ret {K : Act → World → Prop} (h : Q .ret a w) : Exit.then K Q .ret a w := h
end
end Go.Proofs.YtoimhjcpeifegaaGreatDoor

