/- Contracts of functions, and plain facts, part 28. -/
import Derived.Test.YtoimhjcpeifegaaGreatDoorPk27
set_option linter.unusedVariables false
set_option linter.unusedSimpArgs false
/- Values in the kit: what a variable of type Value holds, its fields; numbers as interface values. -/
set_option maxRecDepth 50000
namespace Go.Proofs.YtoimhjcpeifegaaGreatDoor
open Go Go.RowKit

/-- An empty list of values. -/
def K0 : VP := ⟨fun v _ _ => ∃ ad c, v = .slice ad 0 c, fun _ _ _ _ _ _ h => h⟩
def PVal (k N : Int) (I : VP) (b x : Int) (t : ByteArray) (K : VP) (v : Value) (w : World) (B : Bx) : Prop :=
  ∃ p q kd, v = .agg #[.int .i8 k, .int .u64 N, p, q, .int .u64 b, .int .i8 x, .string t, kd] ∧ I.p (.agg #[p, q]) w B ∧ K.p kd w B
def IsVal (k N : Int) (I : VP) (b x : Int) (t : ByteArray) (K : VP) : VP := ⟨PVal k N I b x t K, fun v w B w' B' h ⟨p, q, kd, e, h1, h2⟩ => ⟨p, q, kd, e, I.st _ _ _ _ _ h h1, K.st _ _ _ _ _ h h2⟩⟩
def OneC (K : VP) : Prop := ∀ v w B, K.p v w B → v.oneCell' = true ∧ ∀ (ik : IntKind) (x : Int), v ≠ .int ik x
theorem oneK0 : OneC K0 := fun v w B ⟨ad, c, e⟩ => by subst e; exact ⟨rfl, fun _ _ h => by cases h⟩
theorem shape_Val {k N : Int} {I : VP} {b x : Int} {t : ByteArray} {K : VP} (hI : Shape 2 I) (hK : OneC K) : Shape 8 (IsVal k N I b x t K) := fun v w B ⟨p, q, kd, e, h1, h2⟩ => by
  obtain ⟨cs, e1, _, h3, h4⟩ := hI _ _ _ h1
  injection e1 with e1
  subst e1
  obtain ⟨h5, h6⟩ := hK _ _ _ h2
  refine ⟨_, e, rfl, ?_, fun j ik x hk => ?_⟩
  · simp only [List.all_toArray, List.all_cons, List.all_nil, Bool.and_true, Bool.and_eq_true] at h3 ⊢
    exact ⟨rfl, rfl, h3.1, h3.2, rfl, rfl, rfl, h5⟩
  · have g0 := h4 0 ik x hk
    have g1 := h4 1 ik x hk
    have g7 := h6 ik x
    rcases j with _ | _ | _ | _ | _ | _ | _ | _ | j <;> simp at g0 g1 g7 ⊢ <;> first | assumption | (rintro rfl; rcases hk with hk | hk <;> cases hk) | skip
section
variable {need : List (Tmp × FD)} {d : Option Tmp} {ty : TypeId} {pos : String} {af : Array Edge} {g : Option (Nat × Bool)} {x : Operand} {D : VP}
theorem tyV : TyOk Tryz.prog 37 8 := ⟨⟨_, Tryz.underlying37, rfl⟩, by kernel_rfl⟩
theorem zeroVal : (Tryz.prog.info? 37).map (·.zero) = some (some (.agg #[.int .i8 0, .int .u64 0, .bool false, .slice none 0 0, .int .u64 0, .int .i8 0, .string ⟨#[]⟩, .slice none 0 0])) := by kernel_rfl
theorem ok_allocV : OpOk Tryz.prog ⟨d, .alloc 37, ty, pos, af, g⟩ need (.box 37 8 (IsVal 0 0 (IsI 0) 0 0 ⟨#[]⟩ K0)) true :=
  ok_alloc zeroVal rfl fun w B => ⟨_, _, _, rfl, zero_isI w B, none, 0, rfl⟩
theorem ok_addrV0 (h : Opd need x (.box 37 8 D)) : OpOk Tryz.prog ⟨d, .fieldAddr 37 x 0, ty, pos, af, g⟩ need (.ptr 37 8 D 0) false := ok_fieldAddr 0 0 Tryz.underlying37 rfl rfl (fun w => ⟨1, by go_simp, by decide⟩) h
theorem ok_addrV1 (h : Opd need x (.box 37 8 D)) : OpOk Tryz.prog ⟨d, .fieldAddr 37 x 1, ty, pos, af, g⟩ need (.ptr 37 8 D 1) false := ok_fieldAddr 1 1 Tryz.underlying37 rfl rfl (fun w => ⟨1, by go_simp, by decide⟩) h
theorem ok_addrV2 (h : Opd need x (.box 37 8 D)) : OpOk Tryz.prog ⟨d, .fieldAddr 37 x 2, ty, pos, af, g⟩ need (.ptr 37 8 D 2) false := ok_fieldAddr 2 2 Tryz.underlying37 rfl rfl (fun w => ⟨2, by go_simp, by decide⟩) h
theorem ok_addrV3 (h : Opd need x (.box 37 8 D)) : OpOk Tryz.prog ⟨d, .fieldAddr 37 x 3, ty, pos, af, g⟩ need (.ptr 37 8 D 4) false := ok_fieldAddr 3 4 Tryz.underlying37 rfl rfl (fun w => ⟨1, by go_simp, by decide⟩) h
theorem ok_addrV4 (h : Opd need x (.box 37 8 D)) : OpOk Tryz.prog ⟨d, .fieldAddr 37 x 4, ty, pos, af, g⟩ need (.ptr 37 8 D 5) false := ok_fieldAddr 4 5 Tryz.underlying37 rfl rfl (fun w => ⟨1, by go_simp, by decide⟩) h
theorem ok_addrV5 (h : Opd need x (.box 37 8 D)) : OpOk Tryz.prog ⟨d, .fieldAddr 37 x 5, ty, pos, af, g⟩ need (.ptr 37 8 D 6) false := ok_fieldAddr 5 6 Tryz.underlying37 rfl rfl (fun w => ⟨1, by go_simp, by decide⟩) h
theorem ok_addrV6 (h : Opd need x (.box 37 8 D)) : OpOk Tryz.prog ⟨d, .fieldAddr 37 x 6, ty, pos, af, g⟩ need (.ptr 37 8 D 7) false := ok_fieldAddr 6 7 Tryz.underlying37 rfl rfl (fun w => ⟨1, by go_simp, by decide⟩) h
theorem aggKind (w : World) : (isAgg 30).run Tryz.prog w = .ok false w := by go_simp
theorem aggU64 (w : World) : (isAgg 24).run Tryz.prog w = .ok false w := by go_simp
theorem aggI8 (w : World) : (isAgg 29).run Tryz.prog w = .ok false w := by go_simp
theorem aggStr (w : World) : (isAgg 9).run Tryz.prog w = .ok false w := by go_simp
theorem aggVals (w : World) : (isAgg 35).run Tryz.prog w = .ok false w := by go_simp
variable {k N b e : Int} {I K : VP} {t : ByteArray}
theorem ok_loadV0 (h : Opd need x (.ptr 37 8 (IsVal k N I b e t K) 0)) : OpOk Tryz.prog ⟨d, .load 30 x, ty, pos, af, g⟩ need (.val (Lit (.int .i8 k))) false :=
  ok_loadPtr1 aggKind h (by decide) fun cs v w B ⟨p, q, kd, e, _⟩ hv => by
    injection e with e
    subst e
    simp at hv
    exact hv.symm
theorem ok_loadV1 (h : Opd need x (.ptr 37 8 (IsVal k N I b e t K) 1)) : OpOk Tryz.prog ⟨d, .load 24 x, ty, pos, af, g⟩ need (.val (Lit (.int .u64 N))) false :=
  ok_loadPtr1 aggU64 h (by decide) fun cs v w B ⟨p, q, kd, e, _⟩ hv => by
    injection e with e
    subst e
    simp at hv
    exact hv.symm
theorem ok_loadV2 (h : Opd need x (.ptr 37 8 (IsVal k N I b e t K) 2)) : OpOk Tryz.prog ⟨d, .load 34 x, ty, pos, af, g⟩ need (.val I) false :=
  ok_loadPtrA tyI h (by decide) fun cs w B ⟨p, q, kd, e, h1, _⟩ => by
    injection e with e
    subst e
    exact h1
theorem ok_loadV3 (h : Opd need x (.ptr 37 8 (IsVal k N I b e t K) 4)) : OpOk Tryz.prog ⟨d, .load 24 x, ty, pos, af, g⟩ need (.val (Lit (.int .u64 b))) false :=
  ok_loadPtr1 aggU64 h (by decide) fun cs v w B ⟨p, q, kd, e, _⟩ hv => by
    injection e with e
    subst e
    simp at hv
    exact hv.symm
theorem ok_loadV4 (h : Opd need x (.ptr 37 8 (IsVal k N I b e t K) 5)) : OpOk Tryz.prog ⟨d, .load 29 x, ty, pos, af, g⟩ need (.val (Lit (.int .i8 e))) false :=
  ok_loadPtr1 aggI8 h (by decide) fun cs v w B ⟨p, q, kd, e, _⟩ hv => by
    injection e with e
    subst e
    simp at hv
    exact hv.symm
theorem ok_loadV5 (h : Opd need x (.ptr 37 8 (IsVal k N I b e t K) 6)) : OpOk Tryz.prog ⟨d, .load 9 x, ty, pos, af, g⟩ need (.val (Lit (.string t))) false :=
  ok_loadPtr1 aggStr h (by decide) fun cs v w B ⟨p, q, kd, e, _⟩ hv => by
    injection e with e
    subst e
    simp at hv
    exact hv.symm
theorem ok_loadV6 (h : Opd need x (.ptr 37 8 (IsVal k N I b e t K) 7)) : OpOk Tryz.prog ⟨d, .load 35 x, ty, pos, af, g⟩ need (.val K) false :=
  ok_loadPtr1 aggVals h (by decide) fun cs v w B ⟨p, q, kd, e, h1, h2⟩ hv => by
    injection e with e
    subst e
    simp at hv
    rw [← hv]
    exact h2
theorem ok_lenK0 (h : Opd need x (.val K0)) : OpOk Tryz.prog ⟨d, .call { callee := .builtin .len, args := #[x], argTypes := #[35] }, 3, pos, af, g⟩ need (.val (Lit (.int .i64 0))) false :=
  ok_via h fun ρ w B v ⟨ad, c, e1⟩ h1 => by
    refine ⟨_, ?_, rfl⟩
    unfold execOp
    simp only [h1, e1, resolve, List.map_toArray, List.map_cons, List.map_nil]
    go_simp
theorem run_buildVI (k : Int) (p q : Value) (w : World) : (Instr.build 37 #[(0, .int .i8 k), (2, .agg #[p, q])]).run Tryz.prog w = .ok (.agg #[.int .i8 k, .int .u64 0, p, q, .int .u64 0, .int .i8 0, .string ⟨#[]⟩, .slice none 0 0]) w := by go_simp
theorem run_buildVF (k b : Int) (w : World) : (Instr.build 37 #[(0, .int .i8 k), (3, .int .u64 b)]).run Tryz.prog w = .ok (.agg #[.int .i8 k, .int .u64 0, .bool false, .slice none 0 0, .int .u64 b, .int .i8 0, .string ⟨#[]⟩, .slice none 0 0]) w := by go_simp
theorem ok_buildVI {y : Operand} (h : Opd need x (.val (Lit (.int .i8 k)))) (h' : Opd need y (.val I)) (hI : Shape 2 I) : OpOk Tryz.prog ⟨d, .build 37 #[(0, x), (2, y)], ty, pos, af, g⟩ need (.val (IsVal k 0 I 0 0 ⟨#[]⟩ K0)) false :=
  ok_via2 h h' fun ρ w B v u e1 e2 h1 h2 => by
    obtain ⟨cs, e3, hn, _⟩ := hI _ _ _ e2
    obtain ⟨p, q, rfl⟩ : ∃ p q, cs = #[p, q] := by
      rcases cs with ⟨l⟩
      rcases l with _ | ⟨p, _ | ⟨q, _ | ⟨r, l⟩⟩⟩ <;> simp at hn
      exact ⟨p, q, rfl⟩
    have e1 : v = .int .i8 k := e1
    refine ⟨_, ?_, p, q, .slice none 0 0, rfl, e3 ▸ e2, none, 0, rfl⟩
    have := run_buildVI k p q w
    simp [execOp, h1, h2, e1, e3, this]
theorem ok_buildVF {y : Operand} (h : Opd need x (.val (Lit (.int .i8 k)))) (h' : Opd need y (.val (Lit (.int .u64 b)))) : OpOk Tryz.prog ⟨d, .build 37 #[(0, x), (3, y)], ty, pos, af, g⟩ need (.val (IsVal k 0 (IsI 0) b 0 ⟨#[]⟩ K0)) false :=
  ok_via2 h h' fun ρ w B v u e1 e2 h1 h2 => by
    have e1 : v = .int .i8 k := e1
    have e2 : u = .int .u64 b := e2
    refine ⟨_, ?_, .bool false, .slice none 0 0, .slice none 0 0, rfl, zero_isI w B, none, 0, rfl⟩
    have := run_buildVF k b w
    simp [execOp, h1, h2, e1, e2, this]
end

/-- A number as a value. -/
inductive NV where
  | int (X : Int)
  | flt (b : Int)
deriving DecidableEq
def NV.k : NV → Int
  | .int _ => 3
  | .flt _ => 4
def NV.i : NV → Int
  | .int X => X
  | .flt _ => 0
def NV.b : NV → Int
  | .int _ => 0
  | .flt b => b
abbrev IsNum (z : NV) : VP := IsVal z.k 0 (IsI z.i) z.b 0 ⟨#[]⟩ K0
theorem shape_Num {z : NV} : Shape 8 (IsNum z) := shape_Val shape_I oneK0
/-- What a value is as a number. -/
inductive One where
  | none
  | exact (X : Int)
  | broken (b : Int)
  | endless (b : Int)
  | nothing (b : Int)
def POne (o : One) (v : Value) (w : World) (B : Bx) : Prop := match o with
  | .none => v = .nilIface
  | .exact X => ∃ p q, v = .iface 166 (.agg #[p, q]) ∧ (IsI X).p (.agg #[p, q]) w B
  | .broken b => v = .iface 167 (.agg #[.int .u64 b])
  | .endless b => v = .iface 124 (.agg #[.int .u64 b])
  | .nothing b => v = .iface 123 (.agg #[.int .u64 b])
def IsOne (o : One) : VP := ⟨POne o, fun v w B w' B' h hp => by
  cases o with
  | exact X =>
    obtain ⟨p, q, e, h1⟩ := hp
    exact ⟨p, q, e, (IsI X).st _ _ _ _ _ h h1⟩
  | _ => exact hp⟩
def One.isNone : One → Bool
  | .none => true
  | _ => false
/-- An error that is none, or one. -/
def IsErr (ok : Bool) : VP := ⟨fun v _ _ => if ok then v = .nilIface else ∃ t u, v = .iface t u, fun _ _ _ _ _ _ h => h⟩
def IsEx (X : Int) : VP := ⟨fun v w B => ∃ p q, v = .agg #[p, q] ∧ (IsI X).p (.agg #[p, q]) w B, fun v w B w' B' h ⟨p, q, e, h1⟩ => ⟨p, q, e, (IsI X).st _ _ _ _ _ h h1⟩⟩
section
variable {need : List (Tmp × FD)} {d : Option Tmp} {ty : TypeId} {pos : String} {af : Array Edge} {g : Option (Nat × Bool)} {x : Operand}
theorem ok_nilIface : Opd need (.const .nilIface) (.val (IsOne .none)) := fun a w B _ => rfl
theorem run_eqNil1 (ρ : Operand → Value) (w : World) (h1 : ρ x = .nilIface) (hc : ρ (.const .nilIface) = .nilIface) : (execOp ρ ⟨d, .binOp .eql 115 x (.const .nilIface) 115, ty, pos, af, g⟩).run Tryz.prog w = .ok (.value (.bool true)) w := by
  unfold execOp
  simp only [h1, hc]
  go_simp
theorem run_eqNil2 (ρ : Operand → Value) (w : World) (t : TypeId) (u : Value) (h1 : ρ x = .iface t u) (hc : ρ (.const .nilIface) = .nilIface) : (execOp ρ ⟨d, .binOp .eql 115 x (.const .nilIface) 115, ty, pos, af, g⟩).run Tryz.prog w = .ok (.value (.bool false)) w := by
  unfold execOp
  simp only [h1, hc]
  go_simp
theorem ok_eqNil {o : One} {c : Bool} (h : Opd need x (.val (IsOne o))) (hc : c = o.isNone) : OpOk Tryz.prog ⟨d, .binOp .eql 115 x (.const .nilIface) 115, ty, pos, af, g⟩ need (.val (IsB c)) false :=
  ok_via2 h .lit fun ρ w B v u hv hu h1 h2 => by
    obtain rfl := hu
    subst hc
    cases o with
    | none =>
      obtain rfl := hv
      exact ⟨_, run_eqNil1 ρ w h1 h2, rfl⟩
    | exact X =>
      obtain ⟨p, q, rfl, _⟩ := hv
      exact ⟨_, run_eqNil2 ρ w _ _ h1 h2, rfl⟩
    | broken b =>
      obtain rfl := hv
      exact ⟨_, run_eqNil2 ρ w _ _ h1 h2, rfl⟩
    | endless b =>
      obtain rfl := hv
      exact ⟨_, run_eqNil2 ρ w _ _ h1 h2, rfl⟩
    | nothing b =>
      obtain rfl := hv
      exact ⟨_, run_eqNil2 ρ w _ _ h1 h2, rfl⟩
theorem run_neErr1 (ρ : Operand → Value) (w : World) (h1 : ρ x = .nilIface) (hc : ρ (.const .nilIface) = .nilIface) : (execOp ρ ⟨d, .binOp .neq 67 x (.const .nilIface) 67, ty, pos, af, g⟩).run Tryz.prog w = .ok (.value (.bool false)) w := by
  unfold execOp
  simp only [h1, hc]
  go_simp
theorem run_neErr2 (ρ : Operand → Value) (w : World) (t : TypeId) (u : Value) (h1 : ρ x = .iface t u) (hc : ρ (.const .nilIface) = .nilIface) : (execOp ρ ⟨d, .binOp .neq 67 x (.const .nilIface) 67, ty, pos, af, g⟩).run Tryz.prog w = .ok (.value (.bool true)) w := by
  unfold execOp
  simp only [h1, hc]
  go_simp
theorem ok_neErr {b : Bool} (h : Opd need x (.val (IsErr b))) : OpOk Tryz.prog ⟨d, .binOp .neq 67 x (.const .nilIface) 67, ty, pos, af, g⟩ need (.val (IsB (!b))) false :=
  ok_via2 h .lit fun ρ w B v u hv hu h1 h2 => by
    obtain rfl := hu
    cases b with
    | true =>
      have hv : v = .nilIface := hv
      subst hv
      exact ⟨_, run_neErr1 ρ w h1 h2, rfl⟩
    | false =>
      have hv : ∃ t u, v = .iface t u := hv
      obtain ⟨t, u, rfl⟩ := hv
      exact ⟨_, run_neErr2 ρ w _ _ h1 h2, rfl⟩
abbrev U1 (b : Int) : VP := Lit (.agg #[.int .u64 b])
theorem shape_U1 {b : Int} : Shape 1 (U1 b) := fun v w B h => ⟨_, h, rfl, by simp [Value.oneCell'], fun j ik x hk => by rcases j with _ | j <;> simp; rintro rfl; rcases hk with hk | hk <;> cases hk⟩
theorem shape_Ex {X : Int} : Shape 2 (IsEx X) := fun v w B ⟨p, q, e, h⟩ => by
  obtain ⟨cs, e1, h3⟩ := shape_I _ _ _ h
  exact ⟨cs, e.trans e1, h3⟩
theorem run_buildEx (p q : Value) (w : World) : (Instr.build 166 #[(0, .agg #[p, q])]).run Tryz.prog w = .ok (.agg #[p, q]) w := by go_simp
theorem run_buildB (b : Int) (w : World) : (Instr.build 167 #[(0, .int .u64 b)]).run Tryz.prog w = .ok (.agg #[.int .u64 b]) w := by go_simp
theorem run_buildE (b : Int) (w : World) : (Instr.build 124 #[(0, .int .u64 b)]).run Tryz.prog w = .ok (.agg #[.int .u64 b]) w := by go_simp
theorem run_buildN (b : Int) (w : World) : (Instr.build 123 #[(0, .int .u64 b)]).run Tryz.prog w = .ok (.agg #[.int .u64 b]) w := by go_simp
theorem ok_buildEx {X : Int} (h : Opd need x (.val (IsI X))) : OpOk Tryz.prog ⟨d, .build 166 #[(0, x)], ty, pos, af, g⟩ need (.val (IsEx X)) false :=
  ok_via h fun ρ w B v hv h1 => by
    have hv2 := hv
    obtain ⟨ad, n, c, rfl, _⟩ := hv2
    refine ⟨_, ?_, _, _, rfl, hv⟩
    have := run_buildEx (.bool (decide (X < 0))) (.slice ad n c) w
    simp [execOp, h1, this]
theorem ok_buildB {b : Int} (h : Opd need x (.val (Lit (.int .u64 b)))) : OpOk Tryz.prog ⟨d, .build 167 #[(0, x)], ty, pos, af, g⟩ need (.val (U1 b)) false :=
  ok_lit1 h fun ρ w e1 => by have := run_buildB b w; simp [execOp, e1, this]
theorem ok_buildE {b : Int} (h : Opd need x (.val (Lit (.int .u64 b)))) : OpOk Tryz.prog ⟨d, .build 124 #[(0, x)], ty, pos, af, g⟩ need (.val (U1 b)) false :=
  ok_lit1 h fun ρ w e1 => by have := run_buildE b w; simp [execOp, e1, this]
theorem ok_buildN {b : Int} (h : Opd need x (.val (Lit (.int .u64 b)))) : OpOk Tryz.prog ⟨d, .build 123 #[(0, x)], ty, pos, af, g⟩ need (.val (U1 b)) false :=
  ok_lit1 h fun ρ w e1 => by have := run_buildN b w; simp [execOp, e1, this]
theorem run_mkI (t : TypeId) (v : Value) (w : World) (ht : t = 166 ∨ t = 167 ∨ t = 124 ∨ t = 123) : (Instr.makeInterface t v).run Tryz.prog w = .ok (.iface t v) w := by
  rcases ht with rfl | rfl | rfl | rfl <;> go_simp
theorem ok_mkEx {X : Int} (h : Opd need x (.val (IsEx X))) : OpOk Tryz.prog ⟨d, .makeInterface 166 x, ty, pos, af, g⟩ need (.val (IsOne (.exact X))) false :=
  ok_via h fun ρ w B v ⟨p, q, e, hI⟩ h1 => by
    subst e
    refine ⟨_, ?_, p, q, rfl, hI⟩
    have := run_mkI 166 (.agg #[p, q]) w (.inl rfl)
    simp [execOp, h1, this]
theorem ok_mkB {b : Int} (h : Opd need x (.val (U1 b))) : OpOk Tryz.prog ⟨d, .makeInterface 167 x, ty, pos, af, g⟩ need (.val (IsOne (.broken b))) false :=
  ok_via h fun ρ w B v e h1 => by
    obtain rfl := e
    refine ⟨_, ?_, rfl⟩
    have := run_mkI 167 (.agg #[.int .u64 b]) w (.inr (.inl rfl))
    simp [execOp, h1, this]
theorem ok_mkE {b : Int} (h : Opd need x (.val (U1 b))) : OpOk Tryz.prog ⟨d, .makeInterface 124 x, ty, pos, af, g⟩ need (.val (IsOne (.endless b))) false :=
  ok_via h fun ρ w B v e h1 => by
    obtain rfl := e
    refine ⟨_, ?_, rfl⟩
    have := run_mkI 124 (.agg #[.int .u64 b]) w (.inr (.inr (.inl rfl)))
    simp [execOp, h1, this]
theorem ok_mkN {b : Int} (h : Opd need x (.val (U1 b))) : OpOk Tryz.prog ⟨d, .makeInterface 123 x, ty, pos, af, g⟩ need (.val (IsOne (.nothing b))) false :=
  ok_via h fun ρ w B v e h1 => by
    obtain rfl := e
    refine ⟨_, ?_, rfl⟩
    have := run_mkI 123 (.agg #[.int .u64 b]) w (.inr (.inr (.inr rfl)))
    simp [execOp, h1, this]
theorem ok_addrEx {D : VP} (h : Opd need x (.box 166 2 D)) : OpOk Tryz.prog ⟨d, .fieldAddr 166 x 0, ty, pos, af, g⟩ need (.ptr 166 2 D 0) false := ok_fieldAddr 0 0 Tryz.underlying166 rfl rfl (fun w => ⟨2, by go_simp, by decide⟩) h
theorem ok_addrBr {D : VP} (h : Opd need x (.box 167 1 D)) : OpOk Tryz.prog ⟨d, .fieldAddr 167 x 0, ty, pos, af, g⟩ need (.ptr 167 1 D 0) false := ok_fieldAddr 0 0 Tryz.underlying167 rfl rfl (fun w => ⟨1, by go_simp, by decide⟩) h
theorem ok_addrEn {D : VP} (h : Opd need x (.box 124 1 D)) : OpOk Tryz.prog ⟨d, .fieldAddr 124 x 0, ty, pos, af, g⟩ need (.ptr 124 1 D 0) false := ok_fieldAddr 0 0 Tryz.underlying124 rfl rfl (fun w => ⟨1, by go_simp, by decide⟩) h
theorem ok_addrNo {D : VP} (h : Opd need x (.box 123 1 D)) : OpOk Tryz.prog ⟨d, .fieldAddr 123 x 0, ty, pos, af, g⟩ need (.ptr 123 1 D 0) false := ok_fieldAddr 0 0 Tryz.underlying123 rfl rfl (fun w => ⟨1, by go_simp, by decide⟩) h
theorem ok_loadU1 {t : TypeId} {b : Int} (h : Opd need x (.ptr t 1 (U1 b) 0)) : OpOk Tryz.prog ⟨d, .load 24 x, ty, pos, af, g⟩ need (.val (Lit (.int .u64 b))) false :=
  ok_loadPtr1 aggU64 h (by decide) fun cs v w B e hv => by
    injection e with e
    subst e
    simp at hv
    exact hv.symm
theorem ok_loadEx {t : TypeId} {X : Int} (h : Opd need x (.ptr t 2 (IsEx X) 0)) : OpOk Tryz.prog ⟨d, .load 34 x, ty, pos, af, g⟩ need (.val (IsI X)) false :=
  ok_loadPtrA tyI h (by decide) fun cs w B ⟨p, q, e, h1⟩ => by
    injection e with e
    subst e
    exact h1
theorem tyEx : TyOk Tryz.prog 166 2 := ⟨⟨_, Tryz.underlying166, rfl⟩, by kernel_rfl⟩
theorem tyBr : TyOk Tryz.prog 167 1 := ⟨⟨_, Tryz.underlying167, rfl⟩, by kernel_rfl⟩
theorem zeroEx : (Tryz.prog.info? 166).map (·.zero) = some (some (.agg #[.bool false, .slice none 0 0])) := by kernel_rfl
theorem zeroBr : (Tryz.prog.info? 167).map (·.zero) = some (some (.agg #[.int .u64 0])) := by kernel_rfl
theorem ok_allocEx : OpOk Tryz.prog ⟨d, .alloc 166, ty, pos, af, g⟩ need (.box 166 2 (IsEx 0)) true := ok_alloc zeroEx rfl fun w B => ⟨_, _, rfl, zero_isI w B⟩
theorem ok_allocBr : OpOk Tryz.prog ⟨d, .alloc 167, ty, pos, af, g⟩ need (.box 167 1 (U1 0)) true := ok_alloc zeroBr rfl fun w B => rfl
/-- Is it of the kind? -/
theorem run_ta1 (t : TypeId) (v : Value) (w : World) (ht : t = 166 ∨ t = 167 ∨ t = 124 ∨ t = 123) : (Instr.typeAssert (.iface t v) 115 t true).run Tryz.prog w = .ok (.tuple #[v, .bool true]) w := by
  rcases ht with rfl | rfl | rfl | rfl
  · simp [Instr.typeAssert, Sem.run_bind, run_underlying Tryz.underlying166]
  · simp [Instr.typeAssert, Sem.run_bind, run_underlying Tryz.underlying167]
  · simp [Instr.typeAssert, Sem.run_bind, run_underlying Tryz.underlying124]
  · simp [Instr.typeAssert, Sem.run_bind, run_underlying Tryz.underlying123]
theorem run_ta0 (t t2 : TypeId) (v : Value) (w : World) (ht2 : t2 = 166 ∨ t2 = 167 ∨ t2 = 124 ∨ t2 = 123) (hne : t ≠ t2) : ∃ z, (Instr.typeAssert (.iface t v) 115 t2 true).run Tryz.prog w = .ok (.tuple #[z, .bool false]) w := by
  have hz : ∃ z, (zeroValue t2).run Tryz.prog w = .ok z w := by
    rcases ht2 with rfl | rfl | rfl | rfl <;> exact ⟨_, by go_simp; rfl⟩
  obtain ⟨z, hz⟩ := hz
  refine ⟨z, ?_⟩
  rcases ht2 with rfl | rfl | rfl | rfl
  · simp [Instr.typeAssert, Sem.run_bind, run_underlying Tryz.underlying166, hne, hz]
  · simp [Instr.typeAssert, Sem.run_bind, run_underlying Tryz.underlying167, hne, hz]
  · simp [Instr.typeAssert, Sem.run_bind, run_underlying Tryz.underlying124, hne, hz]
  · simp [Instr.typeAssert, Sem.run_bind, run_underlying Tryz.underlying123, hne, hz]
def One.tid : One → TypeId
  | .none => 0
  | .exact _ => 166
  | .broken _ => 167
  | .endless _ => 124
  | .nothing _ => 123
def One.pay : One → VP
  | .exact X => IsEx X
  | .broken b => U1 b
  | .endless b => U1 b
  | .nothing b => U1 b
  | .none => VP.top
theorem POne.open {o : One} {v : Value} {w : World} {B : Bx} (h : (IsOne o).p v w B) (ho : o.isNone = false) : ∃ u, v = .iface o.tid u ∧ o.pay.p u w B := by
  cases o with
  | none => cases ho
  | exact X =>
    obtain ⟨p, q, e, hI⟩ := h
    exact ⟨_, e, p, q, rfl, hI⟩
  | broken b => exact ⟨_, h, rfl⟩
  | endless b => exact ⟨_, h, rfl⟩
  | nothing b => exact ⟨_, h, rfl⟩
theorem One.tys {o : One} (ho : o.isNone = false) : o.tid = 166 ∨ o.tid = 167 ∨ o.tid = 124 ∨ o.tid = 123 := by
  cases o with
  | none => cases ho
  | exact X => exact .inl rfl
  | broken b => exact .inr (.inl rfl)
  | endless b => exact .inr (.inr (.inl rfl))
  | nothing b => exact .inr (.inr (.inr rfl))
theorem ok_ta1 {o : One} {t : TypeId} {D : VP} (h : Opd need x (.val (IsOne o))) (ho : o.isNone = false) (ht : o.tid = t) (hD : o.pay = D) : OpOk Tryz.prog ⟨d, .typeAssert x 115 t true, ty, pos, af, g⟩ need (.val (Tup [D, IsB true])) false :=
  ok_via h fun ρ w B v hv h1 => by
    subst ht hD
    obtain ⟨u, rfl, hp⟩ := POne.open hv ho
    refine ⟨.tuple #[u, .bool true], ?_, [u, .bool true], rfl, hp, rfl, trivial⟩
    have := run_ta1 o.tid u w (One.tys ho)
    simp [execOp, h1, this]
theorem ok_ta0 {o : One} {t : TypeId} (h : Opd need x (.val (IsOne o))) (ho : o.isNone = false) (ht2 : t = 166 ∨ t = 167 ∨ t = 124 ∨ t = 123) (ht : o.tid ≠ t) : OpOk Tryz.prog ⟨d, .typeAssert x 115 t true, ty, pos, af, g⟩ need (.val (Tup [VP.top, IsB false])) false :=
  ok_via h fun ρ w B v hv h1 => by
    obtain ⟨u, rfl, hp⟩ := POne.open hv ho
    obtain ⟨z, hz⟩ := run_ta0 o.tid t u w ht2 ht
    refine ⟨.tuple #[z, .bool false], ?_, [z, .bool false], rfl, trivial, rfl, trivial⟩
    simp [execOp, h1, hz]
end
end Go.Proofs.YtoimhjcpeifegaaGreatDoor

