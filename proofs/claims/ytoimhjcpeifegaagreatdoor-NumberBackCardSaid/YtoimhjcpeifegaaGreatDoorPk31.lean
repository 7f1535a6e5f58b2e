/- Contracts of functions, and plain facts, part 31. -/
import Derived.Test.YtoimhjcpeifegaaGreatDoorPk29
set_option linter.unusedVariables false
set_option linter.unusedSimpArgs false
/- Values of any kind: what the operations do with them. -/
set_option maxRecDepth 50000
namespace Go.Proofs.YtoimhjcpeifegaaGreatDoor
open Go Go.RowKit

theorem RdV.open {m : Nat} {w : World} {B : Bx} {t : VT} {cs : Array Value} (h : RdV m w B t (.agg cs)) : ∃ (ad : Option Addr) (n c : Nat) (kd : Value),
    cs = #[.int .i8 t.d.k, .int .u64 t.d.n, .bool t.d.ng, .slice ad n c, .int .u64 t.d.b, .int .i8 t.d.x, .string t.d.t, kd] ∧
      (IsLb m .u32 t.d.xs).p (.slice ad n c) w B ∧ Arg w ad n c t.d.xs ∧ (IsVs m m t.kids).p kd w B ∧ n ≤ BIG ∧ t.kids.length ≤ BIG ∧ t.d.t.size ≤ BIG := by
  cases t with
  | node d l =>
    unfold RdV at h
    obtain ⟨ad, n, c, ka, kc, e, h1, h2, h3, h4, h5, h6⟩ := h
    injection e with e
    refine ⟨ad, n, c, _, e, ⟨.inl rfl, ad, n, c, rfl, h1.rds, h2⟩, h1, ⟨ka, kc, rfl, h4, fun h0 => ?_⟩, h3, h4, h5⟩
    have h0 : 0 < l.length := h0
    cases ka with
    | none =>
      cases l with
      | nil => simp at h0
      | cons u us => unfold RdL at h6; exact h6.elim
    | some a =>
      have key : ∀ (j : Nat) (t : VT), l[j]? = some t → a.block < m ∧ ¬ B a.block ∧ ∃ cs, At8 w (a.add (8 * (0 + j))) cs ∧ RdV m w B t (.agg cs.toArray) := RdL.get h6
      obtain ⟨g1, g2, _⟩ := key 0 _ (List.getElem?_eq_getElem h0)
      refine ⟨a, rfl, g1, g2, fun j t hj => ?_⟩
      obtain ⟨_, _, g3⟩ := key j t hj
      rwa [Nat.zero_add] at g3
section
variable {P : Program} {need : List (Tmp × FD)} {d : Option Tmp} {ty : TypeId} {pos : String} {af : Array Edge} {g : Option (Nat × Bool)} {x y : Operand} {q m : Nat} {l : List VT} {t : VT}
theorem ok_lenVs {tt e : TypeId} (hs : P.underlying tt = some (.slice e)) (h : Opd need x (.val (IsVs q m l))) : OpOk P ⟨d, .call { callee := .builtin .len, args := #[x], argTypes := #[tt] }, ty, pos, af, g⟩ need (.val (Lit (.int .i64 (l.length : Int)))) false :=
  ok_via h fun ρ w B v ⟨ad, c, e1, _⟩ h1 => by
    refine ⟨_, ?_, rfl⟩
    have hl : (Builtin.len_ #[tt] ty #[.slice ad l.length c]).run P w = .ok (.int .i64 l.length) w := by
      simp [Builtin.len_, Sem.run_bind, run_underlying hs, goInt]
    simp [execOp, h1, e1, resolve, invoke, builtin, Sem.run_bind, hl]
theorem ok_lenNv {gg : Option Nat} {tt e : TypeId} (hs : P.underlying tt = some (.slice e)) (h : Opd need x (.val (IsNv gg q m l))) : OpOk P ⟨d, .call { callee := .builtin .len, args := #[x], argTypes := #[tt] }, ty, pos, af, g⟩ need (.val (Lit (.int .i64 (l.length : Int)))) false :=
  ok_via h fun ρ w B v ⟨_, _, css, _, _, h3⟩ h1 => by
    have : ∃ ad c, v = .slice ad l.length c := by
      rcases h3.2 with ⟨rfl, h4⟩ | ⟨b, cap, cur, rfl, _⟩
      · exact ⟨none, 0, by rw [h4]⟩
      · exact ⟨_, cap, rfl⟩
    obtain ⟨ad, c, rfl⟩ := this
    refine ⟨_, ?_, rfl⟩
    have hl : (Builtin.len_ #[tt] ty #[.slice ad l.length c]).run P w = .ok (.int .i64 l.length) w := by
      simp [Builtin.len_, Sem.run_bind, run_underlying hs, goInt]
    simp [execOp, h1, resolve, invoke, builtin, Sem.run_bind, hl]
theorem run_indexAt8 {tt e : TypeId} {k : IntKind} {n c j s : Nat} {a : Addr} (hs : P.underlying tt = some (.slice e)) (hz : (P.info? e).map (·.size) = some s) (hs0 : 0 < s) (hj : j < n) (w : World) : (Instr.indexAt tt (.slice (some a) n c) (.int k j)).run P w = .ok (.pointer (some (a.add (j * s)))) w := by
  obtain ⟨i0, hi, hz0⟩ := Option.map_eq_some_iff.1 hz
  have h2 : (0 : Int) ≤ (j : Int) ∧ (j : Int) < (n : Int) := by omega
  have h3 : i0.size ≠ 0 := by omega
  subst hz0
  simp [Instr.indexAt, asIntOf, Sem.run_bind, run_underlying hs, sizeOf, typeInfo, hi, h2, h3]
  first | done | (intro hh; omega)
theorem ok_idxVs {tt e : TypeId} {k2 : IntKind} {i : Int} (j : Nat) (hs : P.underlying tt = some (.slice e)) (hz : (P.info? e).map (·.size) = some 8) (h : Opd need x (.val (IsVs q m l))) (h' : Opd need y (.val (Lit (.int k2 i)))) (hi : i = j) (hj : l[j]? = some t) : OpOk P ⟨d, .indexAddr tt x y, ty, pos, af, g⟩ need (.val (IsPv q m t 0)) false :=
  ok_via2 h h' fun ρ w B v u ⟨ad, c, e1, hl, hh⟩ e2 h1 h2 => by
    subst hi
    have hjn : j < l.length := (List.getElem?_eq_some_iff.1 hj).1
    obtain ⟨a, rfl, h3, h4, h5⟩ := hh (by omega)
    obtain ⟨cs, h6, h7⟩ := h5 j t hj
    have e2 : u = .int k2 j := e2
    refine ⟨.pointer (some (a.add (j * 8))), ?_, a.add (8 * j), cs, by rw [addr_add, Nat.add_zero, Nat.mul_comm], by rw [blk_add]; exact h3, by rw [blk_add]; exact h4, h6, h7⟩
    simp [execOp, h1, h2, e1, e2, run_indexAt8 hs hz (by omega) hjn]
theorem ok_fldPv {t2 : TypeId} {o : Nat} {fs : Array Field} {fd : Field} (k off : Nat) (hu : P.underlying t2 = some (.struct fs)) (hk : fs[k]? = some fd) (ho : fd.offset = off) (hs : ∀ w : World, ∃ m, (sizeOf fd.type).run P w = .ok m w ∧ m ≠ 0) (h : Opd need x (.val (IsPv q m t o))) :
    OpOk P ⟨d, .fieldAddr t2 x k, ty, pos, af, g⟩ need (.val (IsPv q m t (o + off))) false :=
  ok_via h fun ρ w B v ⟨a, cs, e1, h3⟩ h1 => by
    obtain ⟨mm, hm, hm0⟩ := hs w
    refine ⟨.pointer (some ((a.add o).add off)), ?_, a, cs, by rw [addr_add], h3⟩
    have hu2 : (underlying t2).run P w = .ok (.struct fs) w := run_underlying hu w
    simp [execOp, Instr.fieldAt, Instr.sureAddr, h1, e1, hu2, hk, fieldPlace, hm, hm0, Sem.run_bind, ho]
theorem ok_loadPv {t2 : TypeId} {j : Nat} {D : VP} (hs : ∀ w : World, (isAgg t2).run P w = .ok false w) (h : Opd need x (.val (IsPv q m t j))) (hj : j < 8) (hD : ∀ (cs : Array Value) (v : Value) (w : World) (B : Bx), RdV m w B t (.agg cs) → cs[j]? = some v → D.p v w B) : OpOk P ⟨d, .load t2 x, ty, pos, af, g⟩ need (.val D) false :=
  ok_via h fun ρ w B v ⟨a, cs, e1, h3, h4, h5, h6⟩ h1 => by
    have hl : j < cs.length := by rw [h5.1]; exact hj
    have hc := h5.2 j _ (List.getElem?_eq_getElem hl)
    refine ⟨cs[j], ?_, hD _ _ _ _ h6 (by simp [hl])⟩
    simp only [execOp, h1, e1, Instr.loadAt, Instr.sureAddr, Sem.run_bind, Sem.run_pure, Result.andThen_ok, loadVar, hs, Bool.false_eq_true, if_false]
    simp [load, hc, Sem.run]
theorem ok_loadV8 {t2 : TypeId} (T : TyOk P t2 8) (h : Opd need x (.val (IsPv q m t 0))) : OpOk P ⟨d, .load t2 x, ty, pos, af, g⟩ need (.val (IsV m t)) false :=
  ok_via h fun ρ w B v ⟨a, cs, e1, h3, h4, h5, h6⟩ h1 => by
    obtain ⟨dd, hu, hd⟩ := T.row
    refine ⟨.agg cs.toArray, ?_, h6⟩
    have h2 : (loadCells a cs.length).run P w = .ok cs.toArray w := run_loadCells_list (P := P) w a cs (fun j v hv => h5.2 j v hv)
    obtain ⟨i0, hi, hz0⟩ := Option.map_eq_some_iff.1 T.size
    have hagg : (isAgg t2).run P w = .ok true w := by
      unfold isAgg
      cases dd <;> simp_all [Sem.run_bind, run_underlying hu]
    have h00 : a.add 0 = a := rfl
    rw [h5.1] at h2
    simp only [execOp, h1, e1, Instr.loadAt, Instr.sureAddr, Sem.run_bind, Sem.run_pure, Result.andThen_ok, loadVar, hagg, if_true, h00]
    simp [sizeOf, typeInfo, hi, hz0, h2, Sem.run_bind]
end
theorem szV : (Tryz.prog.info? 37).map (·.size) = some 8 := by kernel_rfl
theorem infoV : (Tryz.prog.info? 37).map (fun i => (i.zero, i.size, i.bytes)) = some (some (.agg #[.int .i8 0, .int .u64 0, .bool false, .slice none 0 0, .int .u64 0, .int .i8 0, .string ⟨#[]⟩, .slice none 0 0]), 8, 104) := by kernel_rfl
section
variable {need : List (Tmp × FD)} {d : Option Tmp} {ty : TypeId} {pos : String} {af : Array Edge} {g : Option (Nat × Bool)} {x y : Operand} {q m : Nat} {l : List VT} {t : VT}
theorem ok_pvF2 (h : Opd need x (.val (IsPv q m t 0))) : OpOk Tryz.prog ⟨d, .fieldAddr 37 x 2, ty, pos, af, g⟩ need (.val (IsPv q m t 2)) false := ok_fldPv 2 2 Tryz.underlying37 rfl rfl (fun w => ⟨2, by go_simp, by decide⟩) h
theorem ok_pvF5 (h : Opd need x (.val (IsPv q m t 0))) : OpOk Tryz.prog ⟨d, .fieldAddr 37 x 5, ty, pos, af, g⟩ need (.val (IsPv q m t 6)) false := ok_fldPv 5 6 Tryz.underlying37 rfl rfl (fun w => ⟨1, by go_simp, by decide⟩) h
theorem ok_pvF6 (h : Opd need x (.val (IsPv q m t 0))) : OpOk Tryz.prog ⟨d, .fieldAddr 37 x 6, ty, pos, af, g⟩ need (.val (IsPv q m t 7)) false := ok_fldPv 6 7 Tryz.underlying37 rfl rfl (fun w => ⟨1, by go_simp, by decide⟩) h
theorem ok_pvI1 (h : Opd need x (.val (IsPv q m t 2))) : OpOk Tryz.prog ⟨d, .fieldAddr 34 x 1, ty, pos, af, g⟩ need (.val (IsPv q m t 3)) false := ok_fldPv 1 1 Tryz.underlying34 rfl rfl (fun w => ⟨1, by go_simp, by decide⟩) h
theorem ok_pvMag (h : Opd need x (.val (IsPv q m t 3))) : OpOk Tryz.prog ⟨d, .load 32 x, ty, pos, af, g⟩ need (.val (IsLb m .u32 t.d.xs)) false :=
  ok_loadPv aggNat h (by decide) fun cs v w B hr hv => by
    obtain ⟨ad, n, c, kd, rfl, h1, _⟩ := hr.open
    simp at hv
    rw [← hv]; exact h1
theorem ok_pvText (h : Opd need x (.val (IsPv q m t 6))) : OpOk Tryz.prog ⟨d, .load 9 x, ty, pos, af, g⟩ need (.val (Lit (.string t.d.t))) false :=
  ok_loadPv aggStr h (by decide) fun cs v w B hr hv => by
    obtain ⟨ad, n, c, kd, rfl, h1, _⟩ := hr.open
    simp at hv
    exact hv.symm
theorem ok_pvKids (h : Opd need x (.val (IsPv q m t 7))) : OpOk Tryz.prog ⟨d, .load 35 x, ty, pos, af, g⟩ need (.val (IsVs m m t.kids)) false :=
  ok_loadPv aggVals h (by decide) fun cs v w B hr hv => by
    obtain ⟨ad, n, c, kd, rfl, _, _, h1, _⟩ := hr.open
    simp at hv
    rw [← hv]; exact h1
end
/-- What lies at one place after the other, chosen. -/
theorem choose_cells {l : List VT} {Q : Nat → VT → List Value → Prop} (h : ∀ (j : Nat) (t : VT), l[j]? = some t → ∃ cs, Q j t cs) : ∃ css : List (List Value), css.length = l.length ∧ ∀ (j : Nat) (cs : List Value), css[j]? = some cs → ∃ t, l[j]? = some t ∧ Q j t cs := by
  induction l generalizing Q with
  | nil => exact ⟨[], rfl, fun j cs hj => by simp at hj⟩
  | cons u us ih =>
    obtain ⟨c0, h0⟩ := h 0 u rfl
    obtain ⟨css, h1, h2⟩ := ih (Q := fun j => Q (j + 1)) fun j t hj => h (j + 1) t (by simpa using hj)
    refine ⟨c0 :: css, by simp [h1], fun j cs hj => ?_⟩
    cases j with
    | zero => simp at hj; subst hj; exact ⟨u, rfl, h0⟩
    | succ j => simpa using h2 j cs (by simpa using hj)
theorem flat8_get : ∀ (L : List (List Value)), (∀ c ∈ L, c.length = 8) → ∀ (k : Nat) (u : Value), L.flatten[k]? = some u → ∃ c, L[k / 8]? = some c ∧ c[k % 8]? = some u
  | [], _, k, u, hk => by simp at hk
  | c0 :: L, hL, k, u, hk => by
    have hc0 := hL c0 (List.mem_cons_self ..)
    rw [List.flatten_cons] at hk
    by_cases h : k < 8
    · rw [List.getElem?_append_left (by omega)] at hk
      exact ⟨c0, by rw [Nat.div_eq_of_lt h]; rfl, by rw [Nat.mod_eq_of_lt h]; exact hk⟩
    · rw [List.getElem?_append_right (by omega), hc0] at hk
      obtain ⟨c, h1, h2⟩ := flat8_get L (fun c hc => hL c (List.mem_cons_of_mem _ hc)) (k - 8) u hk
      obtain ⟨k2, rfl⟩ : ∃ k2, k = k2 + 8 := ⟨k - 8, by omega⟩
      rw [Nat.add_sub_cancel] at h1 h2
      exact ⟨c, by rw [Nat.add_div_right _ (by omega)]; simpa using h1, by rw [Nat.add_mod_right]; exact h2⟩
theorem flat8_len : ∀ (L : List (List Value)), (∀ c ∈ L, c.length = 8) → L.flatten.length = L.length * 8
  | [], _ => rfl
  | c0 :: L, hL => by
    rw [List.flatten_cons, List.length_append, hL c0 (List.mem_cons_self ..), flat8_len L fun c hc => hL c (List.mem_cons_of_mem _ hc), List.length_cons]
    omega
theorem RdV.one {m : Nat} {w : World} {B : Bx} {t : VT} {cs : List Value} (h : RdV m w B t (.agg cs.toArray)) : ∀ u ∈ cs, u.oneCell' = true := by
  obtain ⟨ad, n, c, kd, e, _, _, ⟨ka, kc, rfl, _⟩, _⟩ := h.open
  have : cs = [.int .i8 t.d.k, .int .u64 t.d.n, .bool t.d.ng, .slice ad n c, .int .u64 t.d.b, .int .i8 t.d.x, .string t.d.t, .slice ka t.kids.length kc] := by
    have := congrArg Array.toList e
    simpa using this
  subst this
  intro u hu
  simp only [List.mem_cons, List.not_mem_nil, or_false] at hu
  rcases hu with rfl | rfl | rfl | rfl | rfl | rfl | rfl | rfl <;> rfl
theorem weakNvl {g : Option Nat} {q m : Nat} {l : List VT} (hl : l.length ≤ BIG) (v : Value) (w : World) (B : Bx) (h : (IsNv g q m l).p v w B) : (IsVl m l).p v w B := PNv.list h hl
theorem PVs.len {q m : Nat} {l : List VT} {v : Value} {w : World} {B : Bx} (h : PVs q m l v w B) : l.length ≤ BIG := by
  obtain ⟨_, _, _, hl, _⟩ := h
  exact hl
theorem PVs.elem {q m : Nat} {l : List VT} {v : Value} {w : World} {B : Bx} (h : PVs q m l v w B) {j : Nat} {t : VT} (hj : l[j]? = some t) : t.d.xs.length ≤ BIG ∧ t.kids.length ≤ BIG ∧ t.d.t.size ≤ BIG := by
  obtain ⟨ad, c, e, hl, h⟩ := h
  obtain ⟨a, _, _, _, h3⟩ := h (by have := (List.getElem?_eq_some_iff.1 hj).1; omega)
  obtain ⟨cs, _, h5⟩ := h3 j t hj
  obtain ⟨ad, n, c, kd, _, _, k, _, g1, g2, g3⟩ := h5.open
  exact ⟨by rw [k.rds.len]; exact g1, g2, g3⟩
theorem RdV.agg {m : Nat} {w : World} {B : Bx} {t : VT} {v : Value} (h : RdV m w B t v) : ∃ cs, v = .agg cs := by
  cases t with
  | node d l =>
    unfold RdV at h
    obtain ⟨_, _, _, _, _, e, _⟩ := h
    exact ⟨_, e⟩
/-- One value as a list. -/
theorem oneV_at {d : Option Tmp} {ty : TypeId} {pos : String} {af : Array Edge} {g : Option (Nat × Bool)} {x : Operand} {m : Nat} {t : VT} {a : Act} {w : World} {B : Bx} (hB : Own1 B w) (hv : RdV m w B t (a.eval x)) :
    ∃ v w', (execOp a.eval ⟨d, .buildSlice 35 1 #[(0, x)], ty, pos, af, g⟩).run Tryz.prog w = .ok (.value v) w' ∧ PVs w'.heap.size m [t] v w' B ∧ Below w.heap.size w w' := by
  obtain ⟨cs, e⟩ := hv.agg
  have h2 : RdV m w B t (.agg cs) := e ▸ hv
  obtain ⟨ad, n, c, kd, rfl, _⟩ := h2.open
  have hbel : Below w.heap.size w (w.alloc (.cells #[.int .i8 t.d.k, .int .u64 t.d.n, .bool t.d.ng, .slice ad n c, .int .u64 t.d.b, .int .i8 t.d.x, .string t.d.t, kd] 37)) := (Below.refl _ _).alloc (Nat.le_refl _) _
  have hr : (execOp a.eval ⟨d, .buildSlice 35 1 #[(0, x)], ty, pos, af, g⟩).run Tryz.prog w = .ok (.value (.slice (some ⟨w.heap.size, 0, none⟩) 1 1)) (w.alloc (.cells #[.int .i8 t.d.k, .int .u64 t.d.n, .bool t.d.ng, .slice ad n c, .int .u64 t.d.b, .int .i8 t.d.x, .string t.d.t, kd] 37)) := by
    simp only [execOp, e, List.map_toArray, List.map_cons, List.map_nil]
    go_simp
  have hbl := Bl.of_below B hbel
  refine ⟨_, _, hr, ⟨some ⟨w.heap.size, 0, none⟩, 1, rfl, by rw [big_eq]; exact (by decide : 1 ≤ 140737488355328), fun _ => ⟨_, rfl, by simp, fun h3 => ?_, fun j u hj => ?_⟩⟩, hbel⟩
  · have := hB _ h3
    exact absurd this (Nat.lt_irrefl _)
  · cases j with
    | succ j => simp at hj
    | zero =>
      simp at hj
      subst hj
      refine ⟨[.int .i8 t.d.k, .int .u64 t.d.n, .bool t.d.ng, .slice ad n c, .int .u64 t.d.b, .int .i8 t.d.x, .string t.d.t, kd], ⟨rfl, fun i z hi => ?_⟩, RdV.tn (hbl.mv.tn m) t _ h2⟩
      rw [addr_add, plain_add, cell_row (heap_alloc_new w _)]
      simpa using hi
theorem ok_oneV {need : List (Tmp × FD)} {d : Option Tmp} {ty : TypeId} {pos : String} {af : Array Edge} {g : Option (Nat × Bool)} {x : Operand} {m : Nat} {t : VT} (h : Opd need x (.val (IsV m t))) : OpOk Tryz.prog ⟨d, .buildSlice 35 1 #[(0, x)], ty, pos, af, g⟩ need (.val (IsVl m [t])) false := by
  intro Q K a w B hB hF hK
  obtain ⟨v, w', hr, hp, hbel⟩ := oneV_at (d := d) (ty := ty) (pos := pos) (af := af) (g := g) hB (h a w B hF)
  unfold Oper.wp
  rw [hr]
  exact hK _ _ B hp (Bl.of_below B hbel) hbel (below_own1 hB hbel) (by simp)
/-- How large the heap is, for a mark. -/
theorem St.markV {N : Nat} {w0 : World} {B0 : Bx} {a : Act} {w : World} {B : Bx} {l : List (Tmp × FD)} {bxs : List Tmp} (H : St N w0 B0 a w B l bxs) (s : Tmp) : ∃ m, w0.heap.size ≤ m ∧ m = w.heap.size ∧ St N w0 B0 a w B ((s, .val (Sz m)) :: l) bxs :=
  ⟨w.heap.size, H.bel.size, rfl, H.df, H.sz, ⟨Nat.le_refl _, H.fc⟩, H.bx, H.ap, H.bel, H.own, H.own0⟩
/-- No list within is longer than the bound. -/
inductive Wn : VT → Prop where
  | mk (d : VD) (l : List VT) (h1 : d.xs.length ≤ 1048576) (h2 : l.length ≤ 1048576) (h3 : ∀ t ∈ l, Wn t) : Wn (.node d l)
def kidsOf (l : List VT) : List VT := l.flatMap VT.kids
theorem kids_take {l : List VT} {i : Nat} {t : VT} (h : l[i]? = some t) : kidsOf (l.take (i + 1)) = kidsOf (l.take i) ++ t.kids := by
  unfold kidsOf
  rw [List.take_add_one, h]
  simp
theorem take_kid {l : List VT} {k : Nat} {u : VT} (h : l[k]? = some u) : l.take (k + 1) = l.take k ++ [u] := by
  rw [List.take_add_one, h]
  rfl
theorem wn_up {l : List VT} (hb : ∀ t ∈ l, t.d.xs.length ≤ 1048576 ∧ t.kids.length ≤ 1048576) (hk : ∀ t ∈ kidsOf l, Wn t) : ∀ t ∈ l, Wn t := fun t ht => by
  obtain ⟨h1, h2⟩ := hb t ht
  cases t with
  | node d k => exact .mk d k h1 h2 fun u hu => hk u (List.mem_flatMap.2 ⟨_, ht, hu⟩)
/-- The number of parts: within the bound all lists are. -/
def IsParts (l : List VT) : VP := ⟨fun v _ _ => ∃ i : Int, v = .int .i64 i ∧ (i ≤ 1048576 → ∀ t ∈ l, Wn t), fun _ _ _ _ _ _ h => h⟩
theorem ok_nilV {P : Program} {need : List (Tmp × FD)} {d : Option Tmp} {ty : TypeId} {pos : String} {af : Array Edge} {g : Option (Nat × Bool)} {q m : Nat} : OpOk P ⟨d, .assign (.const (.slice none 0 0)), ty, pos, af, g⟩ need (.val (IsNv none q m [])) false := ok_assign (Opd.const fun w B => nil_Nv w B)
theorem ok_lenVl {P : Program} {need : List (Tmp × FD)} {d : Option Tmp} {ty : TypeId} {pos : String} {af : Array Edge} {g : Option (Nat × Bool)} {x : Operand} {m : Nat} {l : List VT} {tt e : TypeId} (hs : P.underlying tt = some (.slice e)) (h : Opd need x (.val (IsVl m l))) : OpOk P ⟨d, .call { callee := .builtin .len, args := #[x], argTypes := #[tt] }, ty, pos, af, g⟩ need (.val (Lit (.int .i64 (l.length : Int)))) false :=
  ok_via h fun ρ w B v ⟨ad, c, e1, _⟩ h1 => by
    refine ⟨_, ?_, rfl⟩
    have hl : (Builtin.len_ #[tt] ty #[.slice ad l.length c]).run P w = .ok (.int .i64 l.length) w := by
      simp [Builtin.len_, Sem.run_bind, run_underlying hs, goInt]
    simp [execOp, h1, e1, resolve, invoke, builtin, Sem.run_bind, hl]
theorem ok_gtrParts {P : Program} {need : List (Tmp × FD)} {d : Option Tmp} {ty : TypeId} {pos : String} {af : Array Edge} {g : Option (Nat × Bool)} {x : Operand} {l : List VT} {t t' : TypeId} (h : Opd need x (.val (IsParts l))) : OpOk P ⟨d, .binOp .gtr t x (.const (.int .i64 1048576)) t', ty, pos, af, g⟩ need (.val (IsIf True (∀ t ∈ l, Wn t))) false :=
  ok_via2 h (Opd.lit (v := .int .i64 1048576)) fun ρ w B v u ⟨i, e1, hi⟩ e2 h1 h2 => by
    obtain rfl : u = .int .i64 1048576 := e2
    subst e1
    refine ⟨.bool (decide (1048576 < i)), ?_, _, rfl, fun _ => trivial, fun hb => hi (by simpa using hb)⟩
    simp [execOp, h1, h2, eqGuard, binOp, Op.intCmp, Sem.run_bind]
    try rfl
section
variable {ops : Array Oper} {Q : Exit → Act → World → Prop} {N : Nat} {w0 : World} {B0 : Bx} {a : Act} {w : World} {B : Bx} {l : List (Tmp × FD)} {bxs : List Tmp}
/-- append(row of values, list of values). -/
theorem app_opV {i : Nat} {K : Act → World → Prop} {g : Option Nat} {q m : Nat} {us ys : List VT} {s : Tmp} {x y : Operand} {ty : TypeId} {pos : String} {af : Array Edge} (is : List Nat) {ks : List (Tmp × FD)}
    (H : St N w0 B0 a w B l bxs) (hm : w0.heap.size ≤ q) (hqm : m ≤ q) (ho : ops[i]? = some ⟨some s, .call { callee := .builtin .append, args := #[x, y], argTypes := #[35, 35] }, ty, pos, af, none⟩)
    (hx : Opd l x (.val (IsNv g q m us))) (hy : Opd l y (.val (IsVl m ys))) (hy0 : 0 < ys.length) (hlen : us.length + ys.length ≤ 1000000000)
    (kz : Nat) {zs : Tmp} (hz : l[kz]? = some (zs, .val (Sz q))) (hks : is.map (fun i => l[i]?) = ks.map some) (hns : decide (∀ x ∈ ks, x.1 ≠ s) = true) (hbs : bxs.contains s = false) (hsN : decide (s < N) = true) (hk : KeepAll g q ks)
    (hK : ∀ a w B g2, St N w0 B0 a w B ((s, .val (IsNv g2 q m (us ++ ys))) :: ks) bxs → K a w) : wpOp Tryz.prog ops Q i K a w := by
  obtain ⟨i0, hi, hzz⟩ := Option.map_eq_some_iff.1 infoV
  simp only [Prod.mk.injEq] at hzz
  obtain ⟨hz0, hz1, hz2⟩ := hzz
  have hsz : q ≤ w.heap.size := H.fc.get kz hz
  obtain ⟨hB, hg, css, hc1, hc2, hown0⟩ := hx a w B H.fc
  obtain ⟨ad2, c2, e2, hly, hyy⟩ := hy a w B H.fc
  obtain ⟨a2, rfl, hab, haB, hcell⟩ := hyy hy0
  obtain ⟨dss, hd1, hd2⟩ := choose_cells (Q := fun j t cs => At8 w (a2.add (8 * j)) cs ∧ RdV m w B t (.agg cs.toArray)) hcell
  have hd8 : ∀ c ∈ dss, c.length = 8 := fun c hc => by
    obtain ⟨j, hj⟩ := List.getElem?_of_mem hc
    obtain ⟨t, _, h3, _⟩ := hd2 j c hj
    exact h3.1
  have hbv : ∃ vx, a.eval x = vx := ⟨_, rfl⟩
  obtain ⟨vx, evx⟩ := hbv
  rw [evx] at hg hown0
  obtain ⟨v1, w1, hrun, hown, hgr, _, hat⟩ := run_append_own_at (P := Tryz.prog) (w := w) q 35 ty 37 i0 _ 8 104 Tryz.underlying35 hi hz0 hz1 hz2 rfl (by omega) vx us.length css.flatten hown0 a2 ys.length c2 dss.flatten (by rw [flat8_len dss hd8, hd1])
    (fun j u hj => by
      obtain ⟨c, h3, h4⟩ := flat8_get dss hd8 j u hj
      obtain ⟨t, _, h5, _⟩ := hd2 _ c h3
      have := h5.2 _ u h4
      rwa [addr_add, show 8 * (j / 8) + j % 8 = j by omega] at this) (fun u hu => by
      obtain ⟨c, h3, h4⟩ := List.mem_flatten.1 hu
      obtain ⟨j, hj⟩ := List.getElem?_of_mem h3
      obtain ⟨t, _, _, h6⟩ := hd2 j c hj
      exact h6.one u h4) (by simp only [maxLen]; omega) (by omega) (by omega)
  have hmg : ∀ b, g = some b → q ≤ b ∧ ¬ B b := fun b hb => ⟨(ownsRow_lt hown0 (hg.trans hb)).1, hB b hb⟩
  have hblk : ∀ i, i < w.heap.size → g ≠ some i → w1.heap[i]? = w.heap[i]? := fun i hi hne => hgr.block i hi fun e => hne (hg.symm.trans e.symm)
  have htn : Tn m w B w1 B := kept_tn hqm hblk hmg
  have hnew : PNv v1.ownBlock q m (us ++ ys) v1 w1 B := by
    refine ⟨fun b hb => ?_, rfl, css ++ dss, by simp [hc1, hd1], fun j cs hj => ?_, by rw [List.length_append, List.flatten_append]; exact hown⟩
    · rcases hat with h1 | h1
      · exact hB b (by rw [← hg, ← h1]; exact hb)
      · rw [hb] at h1
        injection h1 with h1
        subst h1
        intro h2
        have := H.own _ h2
        omega
    · rcases Nat.lt_or_ge j css.length with h1 | h1
      · rw [List.getElem?_append_left h1] at hj
        obtain ⟨h3, t, h4, h5⟩ := hc2 j cs hj
        exact ⟨h3, t, by rw [List.getElem?_append_left (by omega)]; exact h4, RdV.tn htn t _ h5⟩
      · rw [List.getElem?_append_right h1] at hj
        obtain ⟨t, h4, h3, h5⟩ := hd2 _ cs hj
        exact ⟨h3.1, t, by rw [List.getElem?_append_right (by omega), ← hc1]; exact h4, RdV.tn htn t _ h5⟩
  have hst := St.wrote (w' := w1) (rs := []) H hm hgr.size hblk hmg hgr.os hgr.tape hgr.output hk (fun z hz => by
      have h2 : some z ∈ is.map (fun i => l[i]?) := by rw [hks]; exact List.mem_map.2 ⟨z, hz, rfl⟩
      obtain ⟨i, _, hi⟩ := List.mem_map.1 h2
      exact List.mem_of_getElem? hi) (fun z hz => by cases hz)
  rw [List.nil_append] at hst
  have hs : ∀ d, (some s : Option Tmp) = some d → d < a.tmps.size := fun d hd2 => by
    injection hd2 with hd2
    subst hd2
    rw [H.sz]
    exact of_decide_eq_true hsN
  have hput : ∀ x, (a.put (some s) v1).tmps.getD x undef = if (some s : Option Tmp) = some x then v1 else a.tmps.getD x undef := fun x => put_getD hs
  have hold : ∀ x, x ∈ bxs → (a.put (some s) v1).tmps.getD x undef = a.tmps.getD x undef := fun x hx => by
    rw [hput, if_neg ?_]
    intro e
    injection e with e
    subst e
    rw [← List.contains_iff_mem, hbs] at hx
    cases hx
  unfold wpOp
  simp only [ho]
  rw [if_pos (by simp [Region.wanted])]
  refine .inl ?_
  unfold Oper.wp
  have hr2 : (execOp a.eval ⟨some s, .call { callee := .builtin .append, args := #[x, y], argTypes := #[35, 35] }, ty, pos, af, none⟩).run Tryz.prog w = .ok (.value v1) w1 := by
    simp [execOp, evx, e2, resolve, invoke, builtin, Sem.run_bind, hrun]
  rw [hr2]
  refine hK _ _ B v1.ownBlock ⟨put_defers.trans hst.df, put_size.trans hst.sz, Fct.of_all fun x hx => ?_, fun x hx => ?_, fun x hx y hy hxy => ?_, hst.bel, hst.own, hst.own0⟩
  · rcases List.mem_cons.1 hx with rfl | hx
    · show PNv _ _ _ _ _ w1 B
      rw [hput, if_pos rfl]
      exact hnew
    · have hne := of_decide_eq_true hns x hx
      rw [hput, if_neg (fun e => hne (by injection e with e; exact e.symm))]
      exact hst.fc.all x hx
  · obtain ⟨b, h1, h2, h3⟩ := hst.bx x hx
    exact ⟨b, (hold x hx).trans h1, h2, h3⟩
  · rw [hold x hx, hold y hy]; exact hst.ap x hx y hy hxy
end
end Go.Proofs.YtoimhjcpeifegaaGreatDoor

