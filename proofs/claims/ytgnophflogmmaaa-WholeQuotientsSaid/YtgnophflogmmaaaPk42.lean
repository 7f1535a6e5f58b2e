/- Contracts of functions, and plain facts, part 42. -/
import Derived.Test.YtgnophflogmmaaaPk29
import Derived.Test.YtgnophflogmmaaaPk35
set_option linter.unusedVariables false
set_option linter.unusedSimpArgs false
/- A copy of a list that is then made longer; one part of a variable written upon; a region's end in any order. -/
namespace Go.Proofs.Ytgnophflogmmaaa
open Go Go.RowKit

def PEmp (m : Nat) (e : TypeId) (v : Value) (w : World) (B : Bx) : Prop := ∃ g, v = .slice (some ⟨g, 0, none⟩) 0 0 ∧ m ≤ g ∧ ¬ B g ∧ w.heap[g]? = some (.cells #[] e (0, 0))
/-- An empty row of one's own. -/
def IsEmp (m : Nat) (e : TypeId) : VP := ⟨PEmp m e, fun v w B w' B' h ⟨g, e1, hm, hb, hg⟩ => by
  have hlt := (Array.getElem?_eq_some_iff.1 hg).1
  exact ⟨g, e1, hm, fun h2 => hb (h.box g hlt h2), ((h.same g hlt).resolve_right fun h2 => hb h2.1).trans hg⟩⟩
section
variable {P : Program} {need : List (Tmp × FD)} {d : Option Tmp} {ty : TypeId} {pos : String} {af : Array Edge} {g : Option (Nat × Bool)} {x y : Operand}
set_option maxRecDepth 50000 in
theorem ok_empty {need : List (Tmp × FD)} {m : Nat} {z : Tmp} (q : Nat) (hz : need[q]? = some (z, .val (Sz m))) : OpOk Try.prog ⟨d, .buildSlice 23 0 #[], ty, pos, af, g⟩ need (.val (IsEmp m 78)) false := by
  intro Q K a w B hB hF hK
  have hm : m ≤ w.heap.size := hF.get q hz
  have hbel : Below w.heap.size w (w.alloc (.cells #[] 78)) := (Below.refl _ _).alloc (Nat.le_refl _) _
  have hr : (execOp a.eval ⟨d, .buildSlice 23 0 #[], ty, pos, af, g⟩).run Try.prog w = .ok (.value (.slice (some ⟨w.heap.size, 0, none⟩) 0 0)) (w.alloc (.cells #[] 78)) := by
    simp only [execOp, List.map_toArray, List.map_nil]
    go_simp
  unfold Oper.wp
  rw [hr]
  exact hK _ _ B ⟨_, rfl, hm, fun h2 => by have := hB _ h2; omega, heap_alloc_new w _⟩ (Bl.of_below B hbel) hbel (below_own1 hB hbel) (by simp)
theorem run_append_nothing {t ty e : TypeId} {i : TypeInfo} (ht : P.underlying t = some (.slice e)) (hi : P.info? e = some i) (g : Nat) (ad : Option Addr) (c : Nat) (w : World) : (Builtin.append_ #[t, t] ty #[.slice (some ⟨g, 0, none⟩) 0 0, .slice ad 0 c]).run P w = .ok (.slice (some ⟨g, 0, none⟩) 0 0) w := by
  cases ad <;> simp [Builtin.append_, run_underlying ht, sizeOf, typeInfo, hi, Builtin.lenOf, Builtin.firstCells, storeCells, loadCells, loadCellsFrom]
theorem ok_appNew {t e : TypeId} {k : IntKind} {bytes m : Nat} {ys : List Int} (ht : P.underlying t = some (.slice e)) (hinfo : (P.info? e).map (fun i => (i.zero, i.size, i.bytes)) = some (some (.int k 0), 1, bytes)) (hb0 : 0 < bytes) (hlen : ys.length * bytes ≤ 140737488355328)
    (h : Opd need x (.val (IsEmp m e))) (h' : Opd need y (.val (IsL k ys))) : OpOk P ⟨d, .call { callee := .builtin .append, args := #[x, y], argTypes := #[t, t] }, ty, pos, af, g⟩ need (.val (IsNew m e k ys)) false := by
  intro Q K a w B hB hF hK
  obtain ⟨i0, hi, hzz⟩ := Option.map_eq_some_iff.1 hinfo
  simp only [Prod.mk.injEq] at hzz
  obtain ⟨hz0, hz1, hz2⟩ := hzz
  obtain ⟨b, e1, hm, hb, hg⟩ := h a w B hF
  obtain ⟨hk, ad, n, c, e2, r⟩ := h' a w B hF
  have hln := r.len
  by_cases hn : n = 0
  · subst hn
    have hys : ys = [] := List.eq_nil_of_length_eq_zero hln
    subst hys
    have hr := run_append_nothing (P := P) (ty := ty) ht hi b ad c w
    unfold Oper.wp
    have hr2 : (execOp a.eval ⟨d, .call { callee := .builtin .append, args := #[x, y], argTypes := #[t, t] }, ty, pos, af, g⟩).run P w = .ok (.value (.slice (some ⟨b, 0, none⟩) 0 0)) w := by
      simp [execOp, e1, e2, resolve, invoke, builtin, Sem.run_bind, hr]
    rw [hr2]
    exact hK _ _ B ⟨some b, hk, fun b2 hb2 => by injection hb2 with hb2; subst hb2; exact hb, some ⟨b, 0, none⟩, 0, rfl, ⟨rfl, .inr ⟨b, 0, #[], rfl, hm, hg, Nat.le_refl _, Nat.zero_le _, rfl, rfl⟩⟩, rfl⟩ (Bl.refl _ _) (Below.refl _ _) hB (by simp)
  · obtain ⟨a2, rfl, _⟩ := r.cell 0 (by omega)
    have hyb : ys.length ≤ 140737488355328 := Nat.le_trans (Nat.le_mul_of_pos_right _ hb0) hlen
    have hr := run_append_grow (P := P) (w := w) t ty e i0 (.int k 0) ht hi hz0 ⟨b, 0, none⟩ 0 0 [] (by simp) (fun j v hj => by simp at hj) a2 n c (nums k ys) (by rw [nums_length, hz1, hln, Nat.mul_one])
      (fun j u hj => by
        have hjl : j < ys.length := by
          rcases Nat.lt_or_ge j ys.length with h1 | h1
          · exact h1
          · rw [List.getElem?_eq_none (by rw [nums_length]; exact h1)] at hj; cases hj
        obtain ⟨a3, e3, hc⟩ := r.cell j (by omega)
        injection e3 with e3
        subst e3
        rw [nums_get k ys j hjl] at hj
        rw [hc, hj]) (by omega) (by omega) (growslice_fits (by omega) (by rw [hz2, Nat.zero_add, ← hln]; exact hlen))
    have hge := grownCap_ge w (0 + n) 0 e
    have hcm : grownCap w (0 + n) 0 e ≤ maxLen := grownCap_le_maxLen w (0 + n) 0 e (by simp only [maxLen]; omega)
    have hbel : Below w.heap.size w (w.drew.alloc (.cells (([] : List Value).toArray ++ (nums k ys).toArray ++ Builtin.zeroCells (Value.int k 0).cells (grownCap w (0 + n) 0 e - (0 + n))) e)) := (below_drew (Below.refl _ _)).alloc (Nat.le_refl _) _
    unfold Oper.wp
    have hr2 : (execOp a.eval ⟨d, .call { callee := .builtin .append, args := #[x, y], argTypes := #[t, t] }, ty, pos, af, g⟩).run P w = .ok (.value (.slice (some ⟨w.heap.size, 0, none⟩) (0 + n) (grownCap w (0 + n) 0 e))) (w.drew.alloc (.cells (([] : List Value).toArray ++ (nums k ys).toArray ++ Builtin.zeroCells (Value.int k 0).cells (grownCap w (0 + n) 0 e - (0 + n))) e)) := by
      simp only [execOp, e1, e2, resolve, invoke, builtin, Sem.run_bind, List.map_toArray, List.map_cons, List.map_nil, hr, Sem.run_pure, Result.andThen_ok]
    rw [hr2]
    refine hK _ _ B ⟨some w.heap.size, hk, fun b2 hb2 => ?_, some ⟨w.heap.size, 0, none⟩, grownCap w (0 + n) 0 e, by rw [hln, Nat.zero_add], ?_, rfl⟩ (Bl.of_below B hbel) hbel (below_own1 hB hbel) (by simp)
    · injection hb2 with hb2
      subst hb2
      intro h2
      have := hB _ h2
      omega
    · have hmw : m ≤ w.heap.size := by have := (Array.getElem?_eq_some_iff.1 hg).1; omega
      refine ⟨by rw [nums_length, Nat.mul_one], .inr ⟨w.heap.size, grownCap w (0 + n) 0 e, _, rfl, hmw, heap_alloc_new w.drew _, by rw [hln]; omega, hcm, ?_, ?_⟩⟩
      · have hge2 := hge
        rw [Nat.zero_add] at hge2
        rw [zero_cells]
        simp [nums, hln]
        omega
      · rw [zero_cells, hln, Nat.mul_one]
        simp only [Array.toList_append, List.nil_append]
        rw [List.take_append_of_le_length (by simp [nums, hln]), List.take_of_length_le (by simp [nums, hln])]
end

theorem run_app_zeros_at {P : Program} (w : World) (B : Nat) (t tn ty e : TypeId) (i : TypeInfo) (k kq kn : IntKind) (bytes : Nat) (ht : P.underlying t = some (.slice e)) (htn : P.underlying tn = some (.int kn)) (hi : P.info? e = some i) (hz : i.zero = some (.int k 0))
    (hsize : i.size = 1) (hby : i.bytes = bytes) (hb0 : 0 < bytes) (ad : Option Addr) (n c : Nat) (xs : List Int) (hown : App B w e k ad n c xs) (m : Nat) (hB : B ≤ w.heap.size) (hl : (n + m) * bytes ≤ 140737488355328) :
    ∃ ad1 c1 w1, (Builtin.append_ #[t, tn] ty #[.slice ad n c, .int kq m]).run P w = .ok (.slice ad1 (n + m) c1) w1 ∧ App B w1 e k ad1 (n + m) c1 (xs ++ List.replicate m 0) ∧ w.grownBy w1 (Value.ownBlock (.slice ad n c)) ∧ (blkOf ad1 = blkOf ad ∨ blkOf ad1 = some w.heap.size) := by
  subst hby
  have hlen := hown.len
  have hnm : n + m ≤ 140737488355328 := Nat.le_trans (Nat.le_mul_of_pos_right _ hb0) hl
  have hmb : m * i.bytes ≤ 140737488355328 := Nat.le_trans (Nat.mul_le_mul_right _ (by omega)) hl
  have hcmax : n + m ≤ maxLen := by simp only [maxLen]; omega
  have hnl : (nums k (xs ++ List.replicate m 0)).length = (n + m) * 1 := by simp [nums, hlen]
  have hap : nums k (xs ++ List.replicate m 0) = nums k xs ++ nums k (List.replicate m 0) := by simp [nums]
  have grown : ∀ (old : Nat) (row : Option Nat),
      App B (w.drew.alloc (.cells ((nums k xs).toArray ++ Builtin.zeroCells (Value.int k 0).cells m ++ Builtin.zeroCells (Value.int k 0).cells (grownCap w (n + m) old e - (n + m))) e)) e k (some ⟨w.heap.size, 0, none⟩) (n + m) (grownCap w (n + m) old e) (xs ++ List.replicate m 0) ∧
      w.grownBy (w.drew.alloc (.cells ((nums k xs).toArray ++ Builtin.zeroCells (Value.int k 0).cells m ++ Builtin.zeroCells (Value.int k 0).cells (grownCap w (n + m) old e - (n + m))) e)) row := by
    intro old row
    have hge := grownCap_ge w (n + m) old e
    have hcm := grownCap_le_maxLen w (n + m) old e hcmax
    refine ⟨⟨hnl, .inr ⟨w.heap.size, _, _, rfl, hB, heap_alloc_new w.drew _, hge, hcm, ?_, ?_⟩⟩, ⟨rfl, rfl, rfl, by simp, fun j hj _ => Go.heap_alloc_old w.drew _ hj⟩⟩
    · rw [zero_cells, zero_cells]
      simp [nums, hlen]
      omega
    · rw [zero_cells, zero_cells, hap]
      simp only [Array.toList_append, Nat.mul_one]
      rw [List.take_append_of_le_length (by simp [nums, hlen]), List.take_of_length_le (by simp [nums, hlen])]
  rcases hown.2 with ⟨h1, h2⟩ | ⟨g, cap, cur, h1, hbg, hg, hnc, hcm, hcs, htake⟩
  · injection h1 with h1 h1' h1''
    subst h1 h1' h1''
    have hx : xs = [] := List.eq_nil_of_length_eq_zero hlen
    subst hx
    by_cases hm : m = 0
    · subst hm
      refine ⟨none, 0, w, ?_, App.nil _ _ _ _, ⟨rfl, rfl, rfl, Nat.le_refl _, fun _ _ _ => rfl⟩, .inl rfl⟩
      have hw : IntKind.i64.wrap 0 = 0 := by decide
      simp [Builtin.append_, run_underlying ht, run_underlying htn, sizeOf, typeInfo, hi, asInt, asIntOf, hw]
    · have hr := Go.Lib.run_append_nil_zeros (P := P) w t tn ty e i (.int k 0) kq kn ht htn hi hz m (by omega) (by omega) (by omega) (by omega)
      have hgr := grown 0 (Value.ownBlock (.slice none 0 0))
      simp only [Nat.zero_add, List.nil_append, nums, List.map_nil, Array.empty_append] at hgr hr ⊢
      exact ⟨_, _, _, hr, hgr.1, hgr.2, .inr rfl⟩
  · injection h1 with h1 h1' h1''
    subst h1 h1''
    by_cases hroom : n + m ≤ c
    · have hfit : n * 1 + (nums k (List.replicate m 0)).length ≤ cur.size := by simp [nums]; omega
      have hst := run_storeCells_at P g n e (nums k (List.replicate m 0)) 0 cur w hg (by simpa using hfit) (by intro u hu; simp [nums] at hu; obtain ⟨-, rfl⟩ := hu; rfl)
      simp only [Nat.add_zero] at hst
      have hw : IntKind.i64.wrap (m : Int) = m := by rw [IntKind.wrap_i64]; omega
      have hneg : ¬ ((m : Int) < 0) := by omega
      have h48i : ¬ (281474976710656 < (m : Int) * (i.bytes : Int)) := by
        rw [← Int.natCast_mul]
        omega
      have hr : (Builtin.append_ #[t, tn] ty #[.slice (some ⟨g, 0, none⟩) n c, .int kq m]).run P w = .ok (.slice (some ⟨g, 0, none⟩) (n + m) c) (w.setRow g (cur.toList.take n ++ nums k (List.replicate m 0) ++ cur.toList.drop (n + (nums k (List.replicate m 0)).length)).toArray) := by
        by_cases hm : m = 0
        · subst hm
          have hw : IntKind.i64.wrap 0 = 0 := by decide
          simp [nums] at hst
          simp [Builtin.append_, run_underlying ht, run_underlying htn, sizeOf, typeInfo, zeroValue, hi, hz, hsize, asInt, asIntOf, hw, hnc, Addr.add_lit, hst, nums]
        · simp [Builtin.append_, run_underlying ht, run_underlying htn, sizeOf, typeInfo, zeroValue, hi, hz, hsize, asInt, asIntOf, hw, hneg, h48i, hm, hroom, Addr.add_lit, zero_cells, hst]
      refine ⟨_, _, _, hr, ⟨hnl, .inr ⟨g, c, _, rfl, hbg, setRow_heap w g cur _ e _ hg, hroom, hcm, ?_, ?_⟩⟩, ⟨rfl, rfl, rfl, by simp, fun k hk => ?_⟩, .inl rfl⟩
      · simp [nums]
        omega
      · rw [Nat.mul_one] at htake
        rw [Nat.mul_one, htake, hap]
        show List.take _ (_ ++ _ ++ _) = _
        rw [List.take_append_of_le_length (by simp [nums, hlen]), List.take_of_length_le (by simp [nums, hlen])]
      · exact fun hk => setRow_other w g _ _ (fun e => hk (by simp [Value.ownBlock, e]))
    · have holds : ∀ j u, (nums k xs)[j]? = some u → w.cell? ((⟨g, 0, none⟩ : Addr).add j) = some u := World.ownsRow.cells (g := g) hown rfl
      have hold := run_firstCells_some (P := P) w.drew i.size n ⟨g, 0, none⟩ n c (nums k xs) (by simp [nums, hlen, hsize]) (fun j u h => holds j u h)
      have hr := Go.Lib.run_append_grow_zeros (P := P) w t tn ty e i (.int k 0) kq kn ht htn hi hz (some ⟨g, 0, none⟩) n c (nums k xs) hold m (by omega) (by omega) (by omega) (by omega) (by omega) (growslice_fits (by omega) hl)
      have hgr := grown c (Value.ownBlock (.slice (some ⟨g, 0, none⟩) n c))
      exact ⟨_, _, _, hr, hgr.1, hgr.2, .inr rfl⟩


/-! ### What was handed in, below a mark -/
def PArgb (q : Nat) (ng : Bool) (n : Nat) (xs : List Int) (v : Value) (w : World) (B : Bx) : Prop := ∃ ad c, v = .agg #[.bool ng, .slice ad n c] ∧ Arg w ad n c xs ∧ (0 < n → ∀ b, blkOf ad = some b → b < q)
def IsArgb (q : Nat) (ng : Bool) (n : Nat) (xs : List Int) : VP := ⟨PArgb q ng n xs, fun v w B w' B' h ⟨ad, c, e, k, hb⟩ => ⟨ad, c, e, ⟨k.le, k.rds.mv h (.inl rfl), k.dig⟩, hb⟩⟩
theorem weakArgb {q : Nat} {ng : Bool} {n : Nat} {xs : List Int} (v : Value) (w : World) (B : Bx) (h : (IsArgb q ng n xs).p v w B) : (IsArg ng n xs).p v w B := by
  obtain ⟨ad, c, e, k, hb⟩ := h
  exact ⟨ad, c, e, k⟩
theorem hardArg {m : Nat} {w : World} {B : Bx} (hL : ∀ k xs v, (IsL k xs).p v w B → (IsLb m k xs).p v w B) {ng : Bool} {n : Nat} {xs : List Int} (v : Value) (h : (IsArg ng n xs).p v w B) : (IsArgb m ng n xs).p v w B := by
  obtain ⟨ad, c, e, k⟩ := h
  obtain ⟨_, ad2, n2, c2, e2, _, hb⟩ := hL .u32 _ (.slice ad n c) ⟨.inl rfl, ad, n, c, rfl, k.rds⟩
  injection e2 with e2 e3 e4
  subst e2 e3
  exact ⟨ad, c, e, k, hb⟩
theorem kept_argb {g : Option Nat} {m q : Nat} {ng : Bool} {n : Nat} {xs : List Int} (hq : q ≤ m) : Kept g m (.val (IsArgb q ng n xs)) := fun v w w' B hs hb hg ⟨ad, c, e, k, hl⟩ => by
  have h := kept_lb (k := .u32) (xs := xs) hq (.slice ad n c) w w' B hs hb hg ⟨.inl rfl, ad, n, c, rfl, k.rds, hl⟩
  obtain ⟨_, ad2, n2, c2, e2, r, _⟩ := h
  injection e2 with e2 e3 e4
  subst e2 e3
  exact ⟨ad, c, e, ⟨k.le, r, k.dig⟩, hl⟩
theorem shape_Argb {q : Nat} {ng : Bool} {n : Nat} {xs : List Int} : Shape 2 (IsArgb q ng n xs) := fun v w B ⟨ad, c, e, _⟩ => shapeI e

/-! ### The end of a region in any order -/
section
variable {P : Program} {ops : Array Oper} {Q : Exit → Act → World → Prop} {md : Region.Mode} {N : Nat} {w0 : World} {B0 : Bx} {a : Act} {w : World} {B : Bx} {l : List (Tmp × FD)} {bxs : List Tmp}
theorem any_gen {fuel : Nat} {lst : Array Bool} (out : List (Tmp × FD)) (bx2 : List Tmp) (h1 : ∀ Q' : Exit → Act → World → Prop, (∀ a w B, St N w0 B0 a w B out bx2 → Q' .normal a w) → wpAny P md ops Q' fuel lst a w) (h2 : ∀ a w B, St N w0 B0 a w B out bx2 → Q .normal a w) : wpAny P md ops Q fuel lst a w := h1 Q h2
theorem any_twoT {fuel : Nat} {lst l1 l2 : Array Bool} (i j : Nat) (hr : (decide (Region.ready md ops lst = [i, j]) && decide (lst.setIfInBounds i true = l1) && decide (lst.setIfInBounds j true = l2)) = true) (h1 : wpOp P ops Q i (fun a' w' => wpAny P md ops Q fuel l1 a' w') a w) (h2 : wpOp P ops Q j (fun a' w' => wpAny P md ops Q fuel l2 a' w') a w) : wpAny P md ops Q (fuel + 1) lst a w := by
  rw [Bool.and_eq_true, Bool.and_eq_true, decide_eq_true_eq, decide_eq_true_eq, decide_eq_true_eq] at hr
  obtain ⟨⟨hr, rfl⟩, rfl⟩ := hr
  refine ⟨fun e => by (rw [hr] at e; cases e), fun k hk => ?_⟩
  rw [hr] at hk
  rcases List.mem_cons.1 hk with rfl | hk
  · exact h1
  · rcases List.mem_singleton.1 hk with rfl
    exact h2
/-- A new variable at a region's end. -/
theorem alloc_op {i : Nat} {K : Act → World → Prop} {o : Oper} {t : TypeId} {n : Nat} {D : VP} {s : Tmp}
    (H : St N w0 B0 a w B l bxs) (ho : ops[i]? = some o) (hd : o.dst = some s) (hsN : decide (s < N) = true) (h : StepOk P ops o l (.box t n D) true) (hl : decide (∀ x ∈ l, x.1 ≠ s) = true) (hb : bxs.contains s = false)
    (hK : ∀ a w B, St N w0 B0 a w B ((s, .box t n D) :: l) (s :: bxs) → K a w) : wpOp P ops Q i K a w := by
  refine h Q K i a w B ho H.own H.fc fun v w' B' hp hbl hbel hown hal => ?_
  obtain ⟨b, hv, hb1, hb2⟩ := hal rfl
  have hs : ∀ d, o.dst = some d → d < a.tmps.size := fun d hd2 => by
    rw [hd] at hd2
    injection hd2 with hd2
    subst hd2
    rw [H.sz]
    exact of_decide_eq_true hsN
  have hput : ∀ x, (a.put o.dst v).tmps.getD x undef = if o.dst = some x then v else a.tmps.getD x undef := fun x => put_getD hs
  have hnew : (a.put o.dst v).tmps.getD s undef = v := by rw [hput, if_pos hd]
  have hold : ∀ x, x ≠ s → (a.put o.dst v).tmps.getD x undef = a.tmps.getD x undef := fun x hx => by
    rw [hput, if_neg ?_]
    intro e
    rw [hd] at e
    injection e with e
    exact hx e.symm
  have hbn : ∀ x ∈ bxs, x ≠ s := fun x hx e => by
    subst e
    rw [← List.contains_iff_mem, hb] at hx
    cases hx
  refine hK _ _ B' ⟨put_defers.trans H.df, put_size.trans H.sz, Fct.of_all fun x hx => ?_, fun x hx => ?_, fun x hx y hy hxy => ?_, below_then H.bel H.bel.size hbel, hown, fun k hk => ?_⟩
  · rcases List.mem_cons.1 hx with rfl | hx
    · show BoxP t n D _ w' B'
      rw [hnew]; exact hp
    · rw [hold x.1 (of_decide_eq_true hl x hx)]
      exact x.2.st hbl (H.fc.all x hx)
  · rcases List.mem_cons.1 hx with rfl | hx
    · exact ⟨b, hnew.trans hv, hb2, Nat.le_trans H.bel.size hb1⟩
    · obtain ⟨b3, h1, h2, h3⟩ := H.bx x hx
      exact ⟨b3, (hold x (hbn x hx)).trans h1, Nat.lt_of_lt_of_le h2 hbel.size, h3⟩
  · have key : ∀ z ∈ bxs, (a.put o.dst v).tmps.getD s undef ≠ (a.put o.dst v).tmps.getD z undef := fun z hz e => by
      obtain ⟨b3, h1, h2, h3⟩ := H.bx z hz
      rw [hnew, hold z (hbn z hz), h1, hv] at e
      injection e with e; injection e with e; injection e with e
      omega
    rcases List.mem_cons.1 hx with e1 | hx
    · rcases List.mem_cons.1 hy with e2 | hy
      · exact absurd (e1.trans e2.symm) hxy
      · rw [e1]; exact key y hy
    · rcases List.mem_cons.1 hy with e2 | hy
      · rw [e2]; exact fun e => key x hx e.symm
      · rw [hold x (hbn x hx), hold y (hbn y hy)]; exact H.ap x hx y hy hxy
  · have h1 := H.own0 k hk
    exact (hbl.box k (H.own k h1)).2 h1
/-- append(row, make([]T, n)...). -/
theorem appz_op {i : Nat} {K : Act → World → Prop} {g : Option Nat} {m q : Nat} {e t tn : TypeId} {k kq kn : IntKind} {bytes : Nat} {xs : List Int} {j : Int} (n : Nat) {s : Tmp} {x y : Operand} {zs : Tmp} {ty : TypeId} {pos : String} {af : Array Edge} (kz : Nat) (is : List Nat) {ks : List (Tmp × FD)}
    (H : St N w0 B0 a w B l bxs) (hm : w0.heap.size ≤ m) (ho : ops[i]? = some ⟨some s, .call { callee := .builtin .append, args := #[x, y], argTypes := #[t, tn] }, ty, pos, af, none⟩)
    (ht : P.underlying t = some (.slice e)) (htn : P.underlying tn = some (.int kn)) (hinfo : (P.info? e).map (fun i => (i.zero, i.size, i.bytes)) = some (some (.int k 0), 1, bytes)) (hb0 : 0 < bytes) (hx : Opd l x (.val (IsApp g m e k xs))) (hy : Opd l y (.val (Lit (.int kq j)))) (hj : j = n) (hlen : (xs.length + n) * bytes ≤ 140737488355328)
    (hz : l[kz]? = some (zs, .val (Sz q))) (hmq : m ≤ q) (hks : is.map (fun i => l[i]?) = ks.map some) (hns : decide (∀ x ∈ ks, x.1 ≠ s) = true) (hbs : bxs.contains s = false) (hsN : decide (s < N) = true) (hk : KeepAll g m ks)
    (hK : ∀ a w B g2, St N w0 B0 a w B ((s, .val (IsApp g2 m e k (xs ++ List.replicate n 0))) :: ks) bxs → K a w) : wpOp P ops Q i K a w := by
  obtain ⟨i0, hi, hzz⟩ := Option.map_eq_some_iff.1 hinfo
  simp only [Prod.mk.injEq] at hzz
  obtain ⟨hz0, hz1, hz2⟩ := hzz
  subst hj
  have hsz : q ≤ w.heap.size := H.fc.get kz hz
  obtain ⟨hkd, hB, ad, c, e1, ha, hg⟩ := hx a w B H.fc
  have e2 : a.eval y = .int kq n := hy a w B H.fc
  obtain ⟨ad1, c1, w1, hrun, hown, hgr, hat⟩ := run_app_zeros_at (P := P) w m t tn ty e i0 k kq kn bytes ht htn hi hz0 hz1 hz2 hb0 ad xs.length c xs ha n (by omega) hlen
  rw [ownBlock_slice, hg] at hgr
  have hmg : ∀ b, g = some b → m ≤ b ∧ ¬ B b := fun b hb => ⟨(ha.lt b (hg.trans hb)).1, hB b hb⟩
  have hst := St.wrote (w' := w1) (rs := []) H hm hgr.size (fun i hi hne => hgr.block i hi fun e => hne e.symm) hmg hgr.os hgr.tape hgr.output hk (fun z hz => by
      have h2 : some z ∈ is.map (fun i => l[i]?) := by rw [hks]; exact List.mem_map.2 ⟨z, hz, rfl⟩
      obtain ⟨i, _, hi⟩ := List.mem_map.1 h2
      exact List.mem_of_getElem? hi) (fun z hz => by cases hz)
  rw [List.nil_append] at hst
  have hnew : PApp (blkOf ad1) m e k (xs ++ List.replicate n 0) (.slice ad1 (xs.length + n) c1) w1 B := by
    refine ⟨hkd, fun b hb h2 => ?_, ad1, c1, by rw [List.length_append, List.length_replicate], by rw [List.length_append, List.length_replicate]; exact hown, rfl⟩
    rcases hat with h1 | h1
    · exact hB b (by rw [← hg, ← h1]; exact hb) h2
    · rw [hb] at h1
      injection h1 with h1
      subst h1
      have := H.own _ h2
      omega
  have hs : ∀ d, (some s : Option Tmp) = some d → d < a.tmps.size := fun d hd2 => by
    injection hd2 with hd2
    subst hd2
    rw [H.sz]
    exact of_decide_eq_true hsN
  have hput : ∀ x, (a.put (some s) (.slice ad1 (xs.length + n) c1)).tmps.getD x undef = if (some s : Option Tmp) = some x then .slice ad1 (xs.length + n) c1 else a.tmps.getD x undef := fun x => put_getD hs
  have hold : ∀ x, x ∈ bxs → (a.put (some s) (.slice ad1 (xs.length + n) c1)).tmps.getD x undef = a.tmps.getD x undef := fun x hx => by
    rw [hput, if_neg ?_]
    intro e
    injection e with e
    subst e
    rw [← List.contains_iff_mem, hbs] at hx
    cases hx
  unfold wpOp
  simp only [ho]
  rw [if_pos (by simp [Region.wanted])]
  refine .inl ?_
  unfold Oper.wp
  have hr2 : (execOp a.eval ⟨some s, .call { callee := .builtin .append, args := #[x, y], argTypes := #[t, tn] }, ty, pos, af, none⟩).run P w = .ok (.value (.slice ad1 (xs.length + n) c1)) w1 := by
    simp [execOp, e1, e2, resolve, invoke, builtin, Sem.run_bind, hrun]
  rw [hr2]
  refine hK _ _ B (blkOf ad1) ⟨put_defers.trans hst.df, put_size.trans hst.sz, Fct.of_all fun x hx => ?_, fun x hx => ?_, fun x hx y hy hxy => ?_, hst.bel, hst.own, hst.own0⟩
  · rcases List.mem_cons.1 hx with rfl | hx
    · show PApp _ _ _ _ _ _ w1 B
      rw [hput, if_pos rfl]
      exact hnew
    · have hne := of_decide_eq_true hns x hx
      rw [hput, if_neg (fun e => hne (by injection e with e; exact e.symm))]
      exact hst.fc.all x hx
  · obtain ⟨b, h1, h2, h3⟩ := hst.bx x hx
    exact ⟨b, (hold x hx).trans h1, h2, h3⟩
  · rw [hold x hx, hold y hy]; exact hst.ap x hx y hy hxy
/-- A store upon one part of a variable: its address, then the store. -/
theorem field_store {i j : Nat} {rest : List Nat} {t t2 : TypeId} {n k off : Nat} {fs : Array Field} {fd : Field} {s p y : Tmp} {u : Value} {D D' : VP} {ty1 ty2 : TypeId} {pos1 pos2 : String} {af1 af2 : Array Edge} {l' : List (Tmp × FD)} (kp ky : Nat)
    (H : St N w0 B0 a w B l bxs) (hoi : ops[i]? = some ⟨some s, .fieldAddr t (.tmp p) k, ty1, pos1, af1, none⟩) (hoj : ops[j]? = some ⟨none, .store t2 (.tmp s) (.tmp y), ty2, pos2, af2, none⟩)
    (hu : P.underlying t = some (.struct fs)) (hk : fs[k]? = some fd) (hof : fd.offset = off) (hsz : ∀ w : World, ∃ m, (sizeOf fd.type).run P w = .ok m w ∧ m ≠ 0) (hz : (P.info? t2).map (·.size) = some 1)
    (hp : l[kp]? = some (p, .box t n D)) (hy : l[ky]? = some (y, .val (Lit u))) (hone : u.oneCell' = true) (s0 : Shape n D) (hoff : off < n) (hD : ∀ cs w B, D.p (.agg cs) w B → D'.p (.agg (cs.setIfInBounds off u)) w B)
    (hc : (bxs.contains p && (!bxs.contains s) && decide (s < N) && decide (y ≠ s) && decide (p ≠ s) && l.all fun z => z.1 != s && (z.2.isVal || (z.2.isBox && bxs.contains z.1))) = true) (hl : stored p (.box t n D') l = l')
    (hK : ∀ a w, St N w0 B0 a w B l' bxs → wpOps P ops Q rest a w) : wpOps P ops Q (i :: j :: rest) a w := by
  simp only [Bool.and_eq_true, List.all_eq_true, Bool.or_eq_true, Bool.not_eq_true', decide_eq_true_eq, bne_iff_ne] at hc
  obtain ⟨⟨⟨⟨⟨hpb, hsb⟩, hsN⟩, hys⟩, hps⟩, hall⟩ := hc
  rw [List.contains_iff_mem] at hpb
  obtain ⟨b, cs, e1, hB, hlt, hrow, hcs, hD0⟩ := H.fc.get kp hp
  have hyv : a.tmps.getD y undef = u := H.fc.get ky hy
  obtain ⟨cs2, e2, hn2, hone2, hpl⟩ := s0 _ _ _ hD0
  injection e2 with e2
  subst e2
  obtain ⟨m, hm, hm0⟩ := hsz w
  have hs : ∀ d, (some s : Option Tmp) = some d → d < a.tmps.size := fun d hd2 => by
    injection hd2 with hd2
    subst hd2
    rw [H.sz]
    exact hsN
  have hput : ∀ v x, (a.put (some s) v).tmps.getD x undef = if (some s : Option Tmp) = some x then v else a.tmps.getD x undef := fun v x => put_getD hs
  have hold : ∀ v x, x ≠ s → (a.put (some s) v).tmps.getD x undef = a.tmps.getD x undef := fun v x hx => by
    rw [hput, if_neg ?_]
    intro e
    injection e with e
    exact hx e.symm
  rw [wpOps_cons]
  unfold wpOp
  simp only [hoi]
  rw [if_pos (by simp [Region.wanted])]
  refine .inl ?_
  unfold Oper.wp
  have hu2 : (underlying t).run P w = .ok (.struct fs) w := run_underlying hu w
  have e4 : a.eval (.tmp p) = .pointer (some ⟨b, 0, none⟩) := e1
  have hr1 : (execOp a.eval ⟨some s, .fieldAddr t (.tmp p) k, ty1, pos1, af1, none⟩).run P w = .ok (.value (.pointer (some ⟨b, off, none⟩))) w := by
    simp [execOp, Instr.fieldAt, Instr.sureAddr, e4, hu2, hk, fieldPlace, hm, hm0, Sem.run_bind, hof, Addr.add_mid]
  rw [hr1]
  show wpOps P ops Q (j :: rest) _ w
  rw [wpOps_cons]
  unfold wpOp
  simp only [hoj]
  rw [if_pos (by simp [Region.wanted])]
  refine .inl ?_
  unfold Oper.wp
  have hcell : w.cell? ⟨b, off, none⟩ = some (cs[off]'(by omega)) := by rw [cell_row hrow]; exact Array.getElem?_eq_getElem _
  have hfr : w.frozen? ⟨b, off, none⟩ = false := by simp [World.frozen?, hrow]
  have hcu : u.cells = #[u] := by cases u <;> first | rfl | simp [Value.oneCell'] at hone
  have hrun : (storeVar t2 ⟨b, off, none⟩ u).run P w = .ok () (w.setCell ⟨b, off, none⟩ u) := by
    obtain ⟨i0, hi, hz0⟩ := Option.map_eq_some_iff.1 hz
    have hs1 := run_store P w ⟨b, off, none⟩ u .plain hone
    rw [hcell, hfr] at hs1
    have e0 : (⟨b, off, none⟩ : Addr).add 0 = ⟨b, off, none⟩ := by unfold Addr.add; split <;> simp_all
    simp [storeVar, hcu, storeCells, sizeOf, typeInfo, hi, hz0, Sem.run_bind, e0]
    simpa using hs1
  have hr2 : (execOp (a.put (some s) (.pointer (some ⟨b, off, none⟩))).eval ⟨none, .store t2 (.tmp s) (.tmp y), ty2, pos2, af2, none⟩).run P w = .ok .skip (w.setCell ⟨b, off, none⟩ u) := by
    have e5 : (a.put (some s) (.pointer (some ⟨b, off, none⟩))).eval (.tmp s) = .pointer (some ⟨b, off, none⟩) := by
      show (a.put (some s) _).tmps.getD s undef = _
      rw [hput, if_pos rfl]
    have e6 : (a.put (some s) (.pointer (some ⟨b, off, none⟩))).eval (.tmp y) = u := by
      show (a.put (some s) _).tmps.getD y undef = _
      rw [hold _ _ hys]; exact hyv
    simp only [execOp, e5, e6, Instr.storeAt, Instr.sureAddr, Sem.run_bind, Sem.run_pure, Result.andThen_ok, hrun]
  rw [hr2]
  have hsame : ∀ k, k ≠ b → (w.setCell ⟨b, off, none⟩ u).heap[k]? = w.heap[k]? := fun k hk => by
    simp only [World.setCell, Array.getElem?_modify]
    rw [if_neg (fun e => hk e.symm)]
  have hnew : (w.setCell ⟨b, off, none⟩ u).heap[b]? = some (.cells (cs.setIfInBounds off u) t (0, 0)) := by
    simp only [World.setCell, Array.getElem?_modify, hrow, if_true, Option.map_some, Option.isSome_none]
    simp
  have hs0 : (w.setCell ⟨b, off, none⟩ u).heap.size = w.heap.size := by simp [World.setCell]
  have hmv : Mv w B (w.setCell ⟨b, off, none⟩ u) B := by
    refine ⟨Nat.le_of_eq hs0.symm, fun k hk => ?_, fun _ _ h => h⟩
    by_cases e : k = b
    · subst e
      refine .inr ⟨hB, fun a ik x ha hik hc => ?_⟩
      unfold World.cell? at hc
      rw [ha, hrow] at hc
      simp only at hc
      split at hc
      · cases hc
      · exact hpl _ _ _ hik hc
    · exact .inl (hsame k e)
  show wpOps P ops Q rest (a.put (some s) (.pointer (some ⟨b, off, none⟩))) (w.setCell ⟨b, off, none⟩ u)
  refine hK _ _ ⟨put_defers.trans H.df, put_size.trans H.sz, ?_, fun z hz2 => ?_, fun x hx z hz2 hxz => ?_, ?_, fun k hk => by rw [hs0]; exact H.own k hk, H.own0⟩
  · rw [← hl]
    refine Fct.of_all fun z hz2 => ?_
    obtain ⟨q, hq, rfl⟩ := List.mem_map.1 hz2
    have hqf := H.fc.all q hq
    obtain ⟨hqs, hqv⟩ := hall q hq
    by_cases ez : q.1 = p
    · rw [if_pos ez]
      show BoxP t n D' _ _ B
      rw [hold _ _ hps]
      exact ⟨b, _, e1, hB, by rw [hs0]; exact hlt, hnew, by simpa using hcs, D'.st _ _ _ _ _ hmv (hD _ _ _ hD0)⟩
    · rw [if_neg ez, hold _ _ hqs]
      rcases hqv with hv | hb
      · cases hf : q.2 with
        | val E => rw [hf] at hqf; exact E.st _ _ _ _ _ hmv hqf
        | box t n E => rw [hf] at hv; cases hv
        | ptr t n E off => rw [hf] at hv; cases hv
      · cases hf : q.2 with
        | val E => rw [hf] at hb; simp [FD.isBox] at hb
        | ptr t n E off => rw [hf] at hb; simp [FD.isBox] at hb
        | box t3 n3 E =>
          rw [hf] at hqf hb
          have hzb := List.contains_iff_mem.1 hb.2
          obtain ⟨c, cs3, g1, g2, g3, g4, g5, g6⟩ := hqf
          have hne : c ≠ b := by
            rintro rfl
            exact H.ap q.1 hzb p hpb ez (g1.trans e1.symm)
          exact ⟨c, cs3, g1, g2, by rw [hs0]; exact g3, (hsame c hne).trans g4, g5, E.st _ _ _ _ _ hmv g6⟩
  · have hne : z ≠ s := fun e => by
      subst e
      rw [← List.contains_iff_mem, hsb] at hz2
      cases hz2
    obtain ⟨c, g1, g2, g3⟩ := H.bx z hz2
    exact ⟨c, (hold _ _ hne).trans g1, by rw [hs0]; exact g2, g3⟩
  · have hne : ∀ q ∈ bxs, q ≠ s := fun q hq e => by
      subst e
      rw [← List.contains_iff_mem, hsb] at hq
      cases hq
    rw [hold _ _ (hne x hx), hold _ _ (hne z hz2)]
    exact H.ap x hx z hz2 hxz
  · obtain ⟨c, g1, g2, g3⟩ := H.bx p hpb
    rw [e1] at g1
    injection g1 with g1; injection g1 with g1; injection g1 with g1
    subst g1
    refine ⟨H.bel.os, H.bel.tape, H.bel.output, by rw [hs0]; exact H.bel.size, fun k hk => ?_⟩
    rw [hsame k (by omega)]
    exact H.bel.block k hk
theorem isN_eq {A N : Int} (e : A = N) {v : Value} {w : World} {B : Bx} (h : (IsN A).p v w B) : (IsN N).p v w B := e ▸ h
theorem negSet {N : Int} (h0 : N = 0) (b : Bool) (cs : Array Value) (w : World) (B : Bx) (h : (IsN N).p (.agg cs) w B) : (IsN N).p (.agg (cs.setIfInBounds 0 (.bool b))) w B := by
  obtain ⟨ng, ad, n, c, V, e, k, l, hN⟩ := h
  injection e with e
  subst e
  refine ⟨b, ad, n, c, V, rfl, k, l, ?_⟩
  have hV : V = 0 := by
    have := sI_abs ng V k.nonneg
    rw [← hN, h0] at this
    simpa using this.symm
  rw [h0, hV]
  unfold sI
  split <;> rfl
theorem sizeB (w : World) : ∃ m, (sizeOf 4).run Try.prog w = .ok m w ∧ m ≠ 0 := ⟨1, by go_simp, by decide⟩
theorem sizeB1 : (Try.prog.info? 4).map (·.size) = some 1 := by kernel_rfl
theorem Opd.weakPtr {need : List (Tmp × FD)} {x : Operand} {t : TypeId} {n off : Nat} {D D' : VP} (h : Opd need x (.ptr t n D off)) (hw : ∀ v w B, D.p v w B → D'.p v w B) : Opd need x (.ptr t n D' off) := fun a w B hF => by
  obtain ⟨b, cs, h1, h2, h3, h4, h5, h6⟩ := h a w B hF
  exact ⟨b, cs, h1, h2, h3, h4, h5, hw _ _ _ h6⟩
set_option maxRecDepth 50000 in
theorem ok_buildXN {need : List (Tmp × FD)} {d : Option Tmp} {ty : TypeId} {pos : String} {af : Array Edge} {g : Option (Nat × Bool)} {x y : Operand} {N : Int} (h : Opd need x (.val (IsB (decide (N < 0))))) (h' : Opd need y (.val (IsM (N.natAbs : Int)))) : OpOk Try.prog ⟨d, .build 25 #[(0, x), (1, y)], ty, pos, af, g⟩ need (.val (IsN N)) false := by
  have := ok_buildBN (d := d) (ty := ty) (pos := pos) (af := af) (g := g) h h'
  rwa [sI_named2] at this
set_option maxRecDepth 20000 in
theorem loose_row (V : Int) (hV : 0 ≤ V) (n : Nat) : Dig 4294967296 (dg 4294967296 V ++ List.replicate n 0) ∧ val 4294967296 (dg 4294967296 V ++ List.replicate n 0) = V := by
  refine ⟨(dg_dig 4294967296 (by omega) _).append (Dig.replicate _ (by omega) _), ?_⟩
  have e := val_dg 4294967296 (by omega) V hV
  rw [val_append, val_replicate, Int.mul_zero, Int.add_zero]
  exact e
end
end Go.Proofs.Ytgnophflogmmaaa
