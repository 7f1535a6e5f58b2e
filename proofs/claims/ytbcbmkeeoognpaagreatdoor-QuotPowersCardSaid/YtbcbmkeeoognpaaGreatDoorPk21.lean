/- Contracts of functions, and plain facts, part 21. -/
import Derived.Test.YtbcbmkeeoognpaaGreatDoorPk4
import Derived.Test.YtbcbmkeeoognpaaGreatDoorPk12
import Derived.Test.YtbcbmkeeoognpaaGreatDoorPk20
set_option linter.unusedVariables false
set_option linter.unusedSimpArgs false
/- Lists that are read, and rows of a call's own that are written upon. -/
namespace Go.Proofs.YtbcbmkeeoognpaaGreatDoor
open Go Go.RowKit

def Kd (k : IntKind) : Prop := k = .u32 ∨ k = .u8
/-- The heap has at least m blocks. -/
def Sz (m : Nat) : VP := ⟨fun _ w _ => m ≤ w.heap.size, fun v w B w' B' h hp => Nat.le_trans hp h.size⟩
def PL (k : IntKind) (xs : List Int) (v : Value) (w : World) (B : Bx) : Prop := Kd k ∧ ∃ ad n c, v = .slice ad n c ∧ Rds w k ad n xs
/-- A list that may be read. -/
def IsL (k : IntKind) (xs : List Int) : VP := ⟨PL k xs, fun v w B w' B' h ⟨hk, ad, n, c, e, r⟩ => ⟨hk, ad, n, c, e, r.mv h hk⟩⟩
def PLb (m : Nat) (k : IntKind) (xs : List Int) (v : Value) (w : World) (B : Bx) : Prop := Kd k ∧ ∃ ad n c, v = .slice ad n c ∧ Rds w k ad n xs ∧ (0 < n → ∀ b, blkOf ad = some b → b < m)
/-- ... that lies below block m. -/
def IsLb (m : Nat) (k : IntKind) (xs : List Int) : VP := ⟨PLb m k xs, fun v w B w' B' h ⟨hk, ad, n, c, e, r, hb⟩ => ⟨hk, ad, n, c, e, r.mv h hk, hb⟩⟩
def PApp (g : Option Nat) (m : Nat) (e : TypeId) (k : IntKind) (xs : List Int) (v : Value) (w : World) (B : Bx) : Prop := Kd k ∧ (∀ b, g = some b → ¬ B b) ∧ ∃ ad c, v = .slice ad xs.length c ∧ App m w e k ad xs.length c xs ∧ blkOf ad = g
theorem PApp.st {g : Option Nat} {m : Nat} {e : TypeId} {k : IntKind} {xs : List Int} (v : Value) (w : World) (B : Bx) (w' : World) (B' : Bx) (h : Mv w B w' B') (hp : PApp g m e k xs v w B) : PApp g m e k xs v w' B' := by
  obtain ⟨hk, hb, ad, c, e1, ha, hg⟩ := hp
  have hlt : ∀ b, g = some b → b < w.heap.size := fun b hb2 => (ha.lt b (hg.trans hb2)).2
  refine ⟨hk, fun b hb2 h3 => hb b hb2 (h.box b (hlt b hb2) h3), ad, c, e1, ha.kept fun b hb2 => ?_, hg⟩
  have h3 : g = some b := hg.symm.trans hb2
  exact (h.same b (hlt b h3)).resolve_right fun h4 => hb b h3 h4.1
/-- A row of one's own (block g; at least m) that reads as xs. -/
def IsApp (g : Option Nat) (m : Nat) (e : TypeId) (k : IntKind) (xs : List Int) : VP := ⟨PApp g m e k xs, PApp.st⟩
/-- ... in some block. -/
def IsNew (m : Nat) (e : TypeId) (k : IntKind) (xs : List Int) : VP := ⟨fun v w B => ∃ g, PApp g m e k xs v w B, fun v w B w' B' h ⟨g, hp⟩ => ⟨g, PApp.st v w B w' B' h hp⟩⟩
/-- The address of place j of row g. -/
def IsAt (g : Option Nat) (j : Nat) : VP := ⟨fun v _ _ => ∃ b, g = some b ∧ v = .pointer (some ⟨b, j, none⟩), fun _ _ _ _ _ _ h => h⟩
def PCell (k : IntKind) (x : Int) (v : Value) (w : World) (B : Bx) : Prop := Kd k ∧ ∃ a, v = .pointer (some a) ∧ w.cell? a = some (.int k x)
/-- The address of a place that holds x. -/
def IsCell (k : IntKind) (x : Int) : VP := ⟨PCell k x, fun v w B w' B' h ⟨hk, a, e, hc⟩ => by
  refine ⟨hk, a, e, ?_⟩
  have hlt := World.block_lt_of_cell? w a hc
  rcases h.same a.block hlt with h1 | ⟨_, h1⟩
  · rw [← hc]; exact World.cell?_of_block h1
  · exact absurd hc (h1 a k x rfl hk)⟩

theorem weakCL {V : Int} (v : Value) (w : World) (B : Bx) (h : (IsC V).p v w B) : (IsL .u32 (dg 4294967296 V)).p v w B := by
  obtain ⟨ad, n, c, e, k, l, hV⟩ := h
  exact ⟨.inl rfl, ad, n, c, e, k.rds⟩
theorem weakLbL {m : Nat} {k : IntKind} {xs : List Int} (v : Value) (w : World) (B : Bx) (h : (IsLb m k xs).p v w B) : (IsL k xs).p v w B := by
  obtain ⟨hk, ad, n, c, e, r, _⟩ := h
  exact ⟨hk, ad, n, c, e, r⟩
theorem weakAppL {g : Option Nat} {m : Nat} {e : TypeId} {k : IntKind} {xs : List Int} (v : Value) (w : World) (B : Bx) (h : (IsApp g m e k xs).p v w B) : (IsL k xs).p v w B := by
  obtain ⟨hk, hb, ad, c, e1, ha, hg⟩ := h
  exact ⟨hk, ad, _, c, e1, ha.rds⟩
theorem weakLM {xs : List Int} {V : Int} (hd : Dig 4294967296 xs) (hV : val 4294967296 xs = V) (hl : xs.length ≤ 274877906944) (v : Value) (w : World) (B : Bx) (hc : (∃ g m e, (IsApp g m e .u32 xs).p v w B)) : (IsM V).p v w B := by
  obtain ⟨g, m, e, hk, hb, ad, c, e1, ha, hg⟩ := hc
  exact ⟨ad, _, c, e1, ⟨ha.own.le, xs, ha.rds, hd, hV⟩, hl⟩
theorem weakAppM {g : Option Nat} {m : Nat} {e : TypeId} {xs : List Int} {V : Int} (hd : Dig 4294967296 xs) (hV : val 4294967296 xs = V) (hl : xs.length ≤ 274877906944) (v : Value) (w : World) (B : Bx) (h : (IsApp g m e .u32 xs).p v w B) : (IsM V).p v w B :=
  weakLM hd hV hl v w B ⟨g, m, e, h⟩

section
variable {P : Program} {need : List (Tmp × FD)} {d : Option Tmp} {ty : TypeId} {pos : String} {af : Array Edge} {g : Option (Nat × Bool)} {x y : Operand}
theorem ok_lenL {t e : TypeId} {k : IntKind} {xs : List Int} (hs : P.underlying t = some (.slice e)) (h : Opd need x (.val (IsL k xs))) : OpOk P ⟨d, .call { callee := .builtin .len, args := #[x], argTypes := #[t] }, ty, pos, af, g⟩ need (.val (Lit (.int .i64 (xs.length : Int)))) false :=
  ok_via h fun ρ w B v ⟨hk, ad, n, c, e1, r⟩ h1 => by
    refine ⟨_, ?_, rfl⟩
    rw [r.len]
    have hl : (Builtin.len_ #[t] ty #[.slice ad n c]).run P w = .ok (.int .i64 n) w := by
      simp [Builtin.len_, Sem.run_bind, run_underlying hs, goInt]
    simp [execOp, h1, e1, resolve, invoke, builtin, Sem.run_bind, hl]
theorem run_indexAt {t e : TypeId} {k : IntKind} {i n c j : Nat} {a : Addr} (hs : P.underlying t = some (.slice e)) (hz : (P.info? e).map (·.size) = some 1) (hj : j < n) (w : World) : (Instr.indexAt t (.slice (some a) n c) (.int k j)).run P w = .ok (.pointer (some (a.add j))) w := by
  obtain ⟨i0, hi, hz0⟩ := Option.map_eq_some_iff.1 hz
  have h2 : (0 : Int) ≤ (j : Int) ∧ (j : Int) < (n : Int) := by omega
  simp [Instr.indexAt, asIntOf, Sem.run_bind, run_underlying hs, sizeOf, typeInfo, hi, hz0, h2]
  first | done | (intro hh; omega)
theorem ok_idxL {t e : TypeId} {k k2 : IntKind} {xs : List Int} {i : Int} (j : Nat) (hs : P.underlying t = some (.slice e)) (hz : (P.info? e).map (·.size) = some 1) (h : Opd need x (.val (IsL k xs))) (h' : Opd need y (.val (Lit (.int k2 i)))) (hi : i = j) (hj : j < xs.length) : OpOk P ⟨d, .indexAddr t x y, ty, pos, af, g⟩ need (.val (IsCell k (xs[j]?.getD 0))) false :=
  ok_via2 h h' fun ρ w B v u ⟨hk, ad, n, c, e1, r⟩ e2 h1 h2 => by
    subst hi
    have hjn : j < n := by have := r.len; omega
    obtain ⟨a, rfl, hc⟩ := r.cell j hjn
    refine ⟨.pointer (some (a.add j)), ?_, hk, _, rfl, hc⟩
    have e2 : u = .int k2 j := e2
    simp [execOp, h1, h2, e1, e2, run_indexAt hs hz hjn (i := 0)]
theorem ok_idxR {t e e2 : TypeId} {k k2 : IntKind} {xs : List Int} {i : Int} {m : Nat} {gg : Option Nat} (j : Nat) (hs : P.underlying t = some (.slice e)) (hz : (P.info? e).map (·.size) = some 1) (h : Opd need x (.val (IsApp gg m e2 k xs))) (h' : Opd need y (.val (Lit (.int k2 i)))) (hi : i = j) (hj : j < xs.length) : OpOk P ⟨d, .indexAddr t x y, ty, pos, af, g⟩ need (.val (IsAt gg j)) false :=
  ok_via2 h h' fun ρ w B v u ⟨hk, hb, ad, c, e1, ha, hg⟩ e2 h1 h2 => by
    subst hi
    obtain ⟨b, e3, hm, _⟩ := ha.opened (by omega)
    subst e3
    refine ⟨.pointer (some ⟨b, j, none⟩), ?_, b, hg.symm, rfl⟩
    have e2 : u = .int k2 j := e2
    simp [execOp, h1, h2, e1, e2, run_indexAt hs hz hj (i := 0), plain_add]
theorem ok_loadCell {t : TypeId} {k : IntKind} {i : Int} (hs : ∀ w : World, (isAgg t).run P w = .ok false w) (h : Opd need x (.val (IsCell k i))) : OpOk P ⟨d, .load t x, ty, pos, af, g⟩ need (.val (Lit (.int k i))) false :=
  ok_via h fun ρ w B v ⟨hk, a, e1, hc⟩ h1 => by
    refine ⟨.int k i, ?_, rfl⟩
    simp only [execOp, h1, e1, Instr.loadAt, Instr.sureAddr, Sem.run_bind, Sem.run_pure, Result.andThen_ok, loadVar, hs, Bool.false_eq_true, if_false]
    simp [load, hc, Sem.run]
theorem ok_convL {t t' e : TypeId} {xs : List Int} (hs : P.underlying t = some (.slice e)) (he : P.underlying e = some (.int .u8)) (hd : P.underlying t' = some .string) (dx : Dig 256 xs) (h : Opd need x (.val (IsL .u8 xs))) : OpOk P ⟨d, .convert t t' x, ty, pos, af, g⟩ need (.val (Lit (.string (strB xs)))) false :=
  ok_via h fun ρ w B v ⟨hk, ad, n, c, e1, r⟩ h1 => by
    refine ⟨.string (strB xs), ?_, rfl⟩
    simp only [execOp, h1, e1, Sem.run_bind, conv_str t t' e hs he hd w ad n c xs r dx, Result.andThen_ok, Sem.run_pure]
end

theorem aggU32 (w : World) : (isAgg 44).run Tryz.prog w = .ok false w := by go_simp
theorem size32 : (Tryz.prog.info? 44).map (·.size) = some 1 := by kernel_rfl
section
variable {P : Program} {need : List (Tmp × FD)} {d : Option Tmp} {ty : TypeId} {pos : String} {af : Array Edge} {g : Option (Nat × Bool)} {x y : Operand}
theorem below_own1 {w w' : World} {B : Bx} (hB : Own1 B w) (hb : Below w.heap.size w w') : Own1 B w' := fun k hk => Nat.lt_of_lt_of_le (hB k hk) hb.size
theorem ok_make {t e : TypeId} {k : IntKind} {bytes m : Nat} {z : Tmp} {i : Int} (n q : Nat) (hk : Kd k) (ht : P.underlying t = some (.slice e)) (hinfo : (P.info? e).map (fun i => (i.zero, i.size, i.bytes)) = some (some (.int k 0), 1, bytes)) (hb0 : 0 < bytes)
    (hn : n * bytes ≤ 281474976710656) (h : Opd need x (.val (Lit (.int .i64 i)))) (h' : Opd need y (.val (Lit (.int .i64 i)))) (hi : i = n) (hz : need[q]? = some (z, .val (Sz m))) :
    OpOk P ⟨d, .makeSlice t x y, ty, pos, af, g⟩ need (.val (IsNew m e k (List.replicate n 0))) false := by
  intro Q K a w B hB hF hK
  have e1 : a.eval x = .int .i64 i := h a w B hF
  have e2 : a.eval y = .int .i64 i := h' a w B hF
  have hm : m ≤ w.heap.size := hF.get q hz
  have hmk := make_rule (P := P) t e k bytes ht hinfo hb0 n hn i hi w
  have hbel : Below w.heap.size w (w.alloc (.cells (nums k (List.replicate n 0)).toArray e)) := (Below.refl _ _).alloc (Nat.le_refl _) _
  unfold Oper.wp
  simp only [execOp, e1, e2, Sem.run_bind, hmk, Result.andThen_ok, Sem.run_pure]
  refine hK _ _ B ⟨some w.heap.size, hk, fun b hb hb2 => ?_, some ⟨w.heap.size, 0, none⟩, n, by simp, ?_, rfl⟩ (Bl.of_below B hbel) hbel (below_own1 hB hbel) (by simp)
  · injection hb with hb
    have := hB b hb2
    omega
  · have hn2 : n ≤ 281474976710656 := Nat.le_trans (Nat.le_mul_of_pos_right _ hb0) hn
    refine ⟨by simp [nums], .inr ⟨w.heap.size, n, _, by simp, hm, heap_alloc_new w _, by simp, by simp only [maxLen]; omega, by simp [nums], ?_⟩⟩
    rw [List.take_of_length_le (by simp [nums])]
theorem ok_nilApp {m : Nat} {e : TypeId} {k : IntKind} (hk : Kd k) : OpOk P ⟨d, .assign (.const (.slice none 0 0)), ty, pos, af, g⟩ need (.val (IsApp none m e k [])) false :=
  OpOk.value fun a w B hF => ⟨.slice none 0 0, rfl, hk, (fun b hb => by cases hb), none, 0, rfl, App.nil _ _ _ _, rfl⟩
set_option maxRecDepth 50000 in
theorem ok_one32 {need : List (Tmp × FD)} {i : Int} (h : Opd need x (.val (Lit (.int .u32 i)))) : OpOk Tryz.prog ⟨d, .buildSlice 23 1 #[(0, x)], ty, pos, af, g⟩ need (.val (IsL .u32 [i])) false := by
  intro Q K a w B hB hF hK
  have e : a.eval x = .int .u32 i := h a w B hF
  have hbel : Below w.heap.size w (w.alloc (.cells #[.int .u32 i] 44)) := (Below.refl _ _).alloc (Nat.le_refl _) _
  have hr : (execOp a.eval ⟨d, .buildSlice 23 1 #[(0, x)], ty, pos, af, g⟩).run Tryz.prog w = .ok (.value (.slice (some ⟨w.heap.size, 0, none⟩) 1 1)) (w.alloc (.cells #[.int .u32 i] 44)) := by
    simp only [execOp, e, List.map_toArray, List.map_cons, List.map_nil]
    go_simp
  unfold Oper.wp
  rw [hr]
  refine hK _ _ B ⟨.inl rfl, _, 1, 1, rfl, rfl, fun j hj => ⟨_, rfl, ?_⟩⟩ (Bl.of_below B hbel) hbel (below_own1 hB hbel) (by simp)
  obtain rfl : j = 0 := by omega
  rw [plain_add, cell_row (heap_alloc_new w _)]
  rfl
set_option maxRecDepth 50000 in
theorem ok_one8 {need : List (Tmp × FD)} {i : Int} (h : Opd need x (.val (Lit (.int .u8 i)))) : OpOk Tryz.prog ⟨d, .buildSlice 122 1 #[(0, x)], ty, pos, af, g⟩ need (.val (IsL .u8 [i])) false := by
  intro Q K a w B hB hF hK
  have e : a.eval x = .int .u8 i := h a w B hF
  have hbel : Below w.heap.size w (w.alloc (.cells #[.int .u8 i] 5)) := (Below.refl _ _).alloc (Nat.le_refl _) _
  have hr : (execOp a.eval ⟨d, .buildSlice 122 1 #[(0, x)], ty, pos, af, g⟩).run Tryz.prog w = .ok (.value (.slice (some ⟨w.heap.size, 0, none⟩) 1 1)) (w.alloc (.cells #[.int .u8 i] 5)) := by
    simp only [execOp, e, List.map_toArray, List.map_cons, List.map_nil]
    go_simp
  unfold Oper.wp
  rw [hr]
  refine hK _ _ B ⟨.inr rfl, _, 1, 1, rfl, rfl, fun j hj => ⟨_, rfl, ?_⟩⟩ (Bl.of_below B hbel) hbel (below_own1 hB hbel) (by simp)
  obtain rfl : j = 0 := by omega
  rw [plain_add, cell_row (heap_alloc_new w _)]
  rfl
end

section
variable {P : Program} {Q : Exit → Act → World → Prop} {N : Nat} {w0 : World} {B0 : Bx} {a : Act} {w : World} {B : Bx} {l : List (Tmp × FD)} {bxs : List Tmp}
/-- What is known of the heap's size stands upon slot s; lists that are at hand lie below. -/
theorem St.mark (H : St N w0 B0 a w B l bxs) (s : Tmp) : ∃ m, w0.heap.size ≤ m ∧ w.heap.size ≤ m ∧ (∀ k xs v, (IsL k xs).p v w B → (IsLb m k xs).p v w B) ∧ St N w0 B0 a w B ((s, .val (Sz m)) :: l) bxs := by
  refine ⟨w.heap.size, H.bel.size, Nat.le_refl _, fun k xs v ⟨hk, ad, n, c, e, r⟩ => ⟨hk, ad, n, c, e, r, fun hn b hb => ?_⟩, H.df, H.sz, ⟨Nat.le_refl _, H.fc⟩, H.bx, H.ap, H.bel, H.own, H.own0⟩
  obtain ⟨a1, rfl, hc⟩ := r.cell 0 hn
  have h2 := World.block_lt_of_cell? w _ hc
  have e2 : (a1.add 0).block = a1.block := by unfold Addr.add; split <;> rfl
  have hb3 : a1.block = b := by injection hb
  rw [e2] at h2
  omega
/-- Another word on a slot, in this world. -/
theorem St.setw (H : St N w0 B0 a w B l bxs) (k : Nat) {s : Tmp} {D D' : VP} (hk : l[k]? = some (s, .val D)) (hw : ∀ v, D.p v w B → D'.p v w B) {l' : List (Tmp × FD)} (hl : l.set k (s, .val D') = l') : St N w0 B0 a w B l' bxs := by
  refine ⟨H.df, H.sz, Fct.of_all fun x hx => ?_, H.bx, H.ap, H.bel, H.own, H.own0⟩
  rw [← hl] at hx
  rcases List.mem_or_eq_of_mem_set hx with h | h
  · exact H.fc.all x h
  · subst h; exact hw _ (H.fc.get k hk)
/-- ... of what a variable holds. -/
theorem St.setwB (H : St N w0 B0 a w B l bxs) (k : Nat) {s : Tmp} {t : TypeId} {n : Nat} {D D' : VP} (hk : l[k]? = some (s, .box t n D)) (hw : ∀ v, D.p v w B → D'.p v w B) {l' : List (Tmp × FD)} (hl : l.set k (s, .box t n D') = l') : St N w0 B0 a w B l' bxs := by
  refine ⟨H.df, H.sz, Fct.of_all fun x hx => ?_, H.bx, H.ap, H.bel, H.own, H.own0⟩
  rw [← hl] at hx
  rcases List.mem_or_eq_of_mem_set hx with h | h
  · exact H.fc.all x h
  · subst h
    obtain ⟨b, cs, h1, h2, h3, h4, h5, h6⟩ := H.fc.get k hk
    exact ⟨b, cs, h1, h2, h3, h4, h5, hw _ h6⟩
theorem St.name (H : St N w0 B0 a w B l bxs) (i : Nat) {s : Tmp} {m : Nat} {e : TypeId} {k : IntKind} {xs : List Int} (hi : l[i]? = some (s, .val (IsNew m e k xs))) : ∃ g, (∀ b, g = some b → m ≤ b ∧ b < w.heap.size) ∧ St N w0 B0 a w B (l.set i (s, .val (IsApp g m e k xs))) bxs := by
  obtain ⟨g, hp⟩ := H.fc.get i hi
  refine ⟨g, fun b hb => ?_, H.df, H.sz, Fct.of_all fun x hx => ?_, H.bx, H.ap, H.bel, H.own, H.own0⟩
  · obtain ⟨_, _, ad, c, _, ha, hg⟩ := hp
    exact ha.lt b (hg.trans hb)
  · rcases List.mem_or_eq_of_mem_set hx with h | h
    · exact H.fc.all x h
    · subst h; exact hp
end

/-- What is not of row g stays. -/
def Kept (g : Option Nat) (m : Nat) (f : FD) : Prop := ∀ (v : Value) (w w' : World) (B : Bx), w.heap.size ≤ w'.heap.size → (∀ i, i < w.heap.size → g ≠ some i → w'.heap[i]? = w.heap[i]?) → (∀ b, g = some b → m ≤ b ∧ ¬ B b) → f.p v w B → f.p v w' B
theorem kept_lit {g : Option Nat} {m : Nat} {u : Value} : Kept g m (.val (Lit u)) := fun _ _ _ _ _ _ _ h => h
theorem kept_sz {g : Option Nat} {m q : Nat} : Kept g m (.val (Sz q)) := fun _ _ _ _ hs _ _ h => Nat.le_trans h hs
theorem kept_lb {g : Option Nat} {m q : Nat} {k : IntKind} {xs : List Int} (hq : q ≤ m) : Kept g m (.val (IsLb q k xs)) := fun v w w' B hs hb hg ⟨hk, ad, n, c, e, r, hl⟩ => by
  refine ⟨hk, ad, n, c, e, r.kept fun hn b hb2 => ?_, hl⟩
  obtain ⟨a1, rfl, hc⟩ := r.cell 0 hn
  have h2 := World.block_lt_of_cell? w _ hc
  have e2 : (a1.add 0).block = a1.block := by unfold Addr.add; split <;> rfl
  rw [e2] at h2
  injection hb2 with hb2
  subst hb2
  refine hb _ h2 fun hg2 => ?_
  have h3 := hl hn _ rfl
  have := (hg _ hg2).1
  omega
inductive KeepAll (g : Option Nat) (m : Nat) : List (Tmp × FD) → Prop where
  | nil : KeepAll g m []
  | cons {s : Tmp} {f : FD} {l : List (Tmp × FD)} (h : Kept g m f) (t : KeepAll g m l) : KeepAll g m ((s, f) :: l)
theorem KeepAll.all {g : Option Nat} {m : Nat} {l : List (Tmp × FD)} (h : KeepAll g m l) : ∀ x ∈ l, Kept g m x.2 := by
  induction h with
  | nil => intro x hx; cases hx
  | cons h t ih =>
    intro x hx
    rcases List.mem_cons.1 hx with rfl | hx
    · exact h
    · exact ih x hx

section
variable {P : Program} {ops : Array Oper} {Q : Exit → Act → World → Prop} {N : Nat} {w0 : World} {B0 : Bx} {a : Act} {w : World} {B : Bx} {l : List (Tmp × FD)} {bxs : List Tmp}
/-- The state behind a writing: ks are the facts that stay, rs are told anew. -/
theorem St.wrote {w' : World} {g : Option Nat} {m : Nat} (H : St N w0 B0 a w B l bxs) (hm : w0.heap.size ≤ m) (hs : w.heap.size ≤ w'.heap.size) (hb : ∀ i, i < w.heap.size → g ≠ some i → w'.heap[i]? = w.heap[i]?) (hg : ∀ b, g = some b → m ≤ b ∧ ¬ B b)
    (ho : w'.os = w.os) (ht : w'.tape = w.tape) (hp : w'.output = w.output) {ks rs : List (Tmp × FD)} (hk : KeepAll g m ks) (hsub : ∀ x ∈ ks, x ∈ l) (hr : ∀ x ∈ rs, x.2.p (a.tmps.getD x.1 undef) w' B) : St N w0 B0 a w' B (rs ++ ks) bxs := by
  refine ⟨H.df, H.sz, Fct.of_all fun x hx => ?_, fun s hs2 => ?_, H.ap, ?_, fun k hk => Nat.lt_of_lt_of_le (H.own k hk) hs, H.own0⟩
  · rcases List.mem_append.1 hx with h | h
    · exact hr x h
    · exact hk.all x h _ _ _ _ hs hb hg (H.fc.all x (hsub x h))
  · obtain ⟨b, h1, h2, h3⟩ := H.bx s hs2
    exact ⟨b, h1, Nat.lt_of_lt_of_le h2 hs, h3⟩
  · refine ⟨ho.trans H.bel.os, ht.trans H.bel.tape, hp.trans H.bel.output, Nat.le_trans H.bel.size hs, fun i hi => ?_⟩
    rw [hb i (Nat.lt_of_lt_of_le hi H.bel.size) fun e => by have := (hg i e).1; omega]
    exact H.bel.block i hi
/-- A store at a row's place; the row is told at the slots rs. -/
theorem store_row {i : Nat} {K : Act → World → Prop} {g : Option Nat} {m j : Nat} {e t : TypeId} {k : IntKind} {xs : List Int} {y : Int} {p : Tmp} {x : Operand} {ty : TypeId} {pos : String} {af : Array Edge} (kp kr : Nat) {sr : Tmp} (rs : List Tmp) (is : List Nat) {ks l' : List (Tmp × FD)}
    (H : St N w0 B0 a w B l bxs) (hm : w0.heap.size ≤ m) (ho : ops[i]? = some ⟨none, .store t (.tmp p) x, ty, pos, af, none⟩) (hz : (P.info? t).map (·.size) = some 1) (hp : l[kp]? = some (p, .val (IsAt g j))) (hx : Opd l x (.val (Lit (.int k y)))) (hr : l[kr]? = some (sr, .val (IsApp g m e k xs))) (hj : j < xs.length)
    (hks : is.map (fun i => l[i]?) = ks.map some) (hk : KeepAll g m ks) (hrs : ∀ s ∈ rs, (s, FD.val (IsApp g m e k xs)) ∈ l) (hl : rs.map (fun s => (s, FD.val (IsApp g m e k (xs.set j y)))) ++ ks = l')
    (hK : ∀ w, St N w0 B0 a w B l' bxs → K a w) : wpOp P ops Q i K a w := by
  obtain ⟨b, hgb, e1⟩ := H.fc.get kp hp
  obtain ⟨hkd, hB, ad, c, e2, ha, hg⟩ := H.fc.get kr hr
  have hxv : a.eval x = .int k y := hx a w B H.fc
  obtain ⟨b2, rfl, hmb, hcell, hfr, hset, honly⟩ := ha.opened (by omega)
  obtain rfl : b2 = b := by
    rw [hgb] at hg
    injection hg
  have hon := honly j (.int k y)
  have hrun : (storeVar t ⟨b2, j, none⟩ (.int k y)).run P w = .ok () (w.setCell ⟨b2, j, none⟩ (.int k y)) := by
    obtain ⟨i0, hi, hz0⟩ := Option.map_eq_some_iff.1 hz
    have hs1 := run_store P w ⟨b2, j, none⟩ (.int k y) .plain rfl
    rw [hcell j hj, hfr j] at hs1
    have e0 : (⟨b2, j, none⟩ : Addr).add 0 = ⟨b2, j, none⟩ := by unfold Addr.add; split <;> simp_all
    simp [storeVar, Value.cells, storeCells, sizeOf, typeInfo, hi, hz0, Sem.run_bind, e0]
    simpa using hs1
  have hst := St.wrote (w' := w.setCell ⟨b2, j, none⟩ (.int k y)) (rs := rs.map (fun s => (s, FD.val (IsApp g m e k (xs.set j y))))) H hm (Nat.le_of_eq hon.size.symm) (fun i hi hne => hon.rest i fun e => hne (by rw [hgb, e])) (fun b hb => by
      rw [hgb] at hb
      injection hb with hb
      subst hb
      exact ⟨hmb, hB _ hgb⟩) hon.os hon.tape hon.output hk (fun z hz => by
      have h2 : some z ∈ is.map (fun i => l[i]?) := by rw [hks]; exact List.mem_map.2 ⟨z, hz, rfl⟩
      obtain ⟨i, _, hi⟩ := List.mem_map.1 h2
      exact List.mem_of_getElem? hi) (fun z hz => by
      obtain ⟨s, hs, rfl⟩ := List.mem_map.1 hz
      obtain ⟨hkd2, hB2, ad2, c2, e3, ha2, hg2⟩ := H.fc.all _ (hrs s hs)
      refine ⟨hkd2, hB2, ad2, c2, by rw [List.length_set]; exact e3, ?_, hg2⟩
      obtain ⟨b3, rfl, _, _, _, hset2, _⟩ := ha2.opened (by omega)
      obtain rfl : b3 = b2 := by
        rw [hgb] at hg2
        injection hg2
      rw [List.length_set]
      exact hset2 j y hj)
  rw [hl] at hst
  unfold wpOp
  simp only [ho]
  rw [if_pos (by simp [Region.wanted])]
  refine .inl ?_
  unfold Oper.wp
  have hr2 : (execOp a.eval ⟨none, .store t (.tmp p) x, ty, pos, af, none⟩).run P w = .ok .skip (w.setCell ⟨b2, j, none⟩ (.int k y)) := by
    have e4 : a.eval (.tmp p) = .pointer (some ⟨b2, j, none⟩) := e1
    simp only [execOp, e4, hxv, Instr.storeAt, Instr.sureAddr, Sem.run_bind, Sem.run_pure, Result.andThen_ok, hrun]
  rw [hr2]
  exact hK _ hst
/-- append(row, list). -/
theorem app_op {i : Nat} {K : Act → World → Prop} {g : Option Nat} {m q : Nat} {e t : TypeId} {k : IntKind} {bytes : Nat} {xs ys : List Int} {s : Tmp} {x y : Operand} {zs : Tmp} {ty : TypeId} {pos : String} {af : Array Edge} (kz : Nat) (is : List Nat) {ks : List (Tmp × FD)}
    (H : St N w0 B0 a w B l bxs) (hm : w0.heap.size ≤ m) (ho : ops[i]? = some ⟨some s, .call { callee := .builtin .append, args := #[x, y], argTypes := #[t, t] }, ty, pos, af, none⟩)
    (ht : P.underlying t = some (.slice e)) (hinfo : (P.info? e).map (fun i => (i.zero, i.size, i.bytes)) = some (some (.int k 0), 1, bytes)) (hb0 : 0 < bytes) (hx : Opd l x (.val (IsApp g m e k xs))) (hy : Opd l y (.val (IsL k ys))) (hy0 : 0 < ys.length) (hlen : (xs.length + ys.length) * bytes ≤ 140737488355328)
    (hz : l[kz]? = some (zs, .val (Sz q))) (hmq : m ≤ q) (hks : is.map (fun i => l[i]?) = ks.map some) (hns : decide (∀ x ∈ ks, x.1 ≠ s) = true) (hbs : bxs.contains s = false) (hsN : decide (s < N) = true) (hk : KeepAll g m ks)
    (hK : ∀ a w B g2, (∀ b, g2 = some b → g = some b ∨ q ≤ b) → St N w0 B0 a w B ((s, .val (IsApp g2 m e k (xs ++ ys))) :: ks) bxs → K a w) : wpOp P ops Q i K a w := by
  obtain ⟨i0, hi, hzz⟩ := Option.map_eq_some_iff.1 hinfo
  simp only [Prod.mk.injEq] at hzz
  obtain ⟨hz0, hz1, hz2⟩ := hzz
  have hsz : q ≤ w.heap.size := H.fc.get kz hz
  obtain ⟨hkd, hB, ad, c, e1, ha, hg⟩ := hx a w B H.fc
  obtain ⟨_, ad2, n2, c2, e2, r⟩ := hy a w B H.fc
  obtain ⟨a2, rfl, _⟩ := r.cell 0 (by have := r.len; omega)
  have hln := r.len
  have hl3 : xs.length + ys.length ≤ 140737488355328 := Nat.le_trans (Nat.le_mul_of_pos_right _ hb0) hlen
  obtain ⟨v1, w1, hrun, hown, hgr, _, hat⟩ := run_append_own_at (P := P) (w := w) m t ty e i0 (.int k 0) 1 bytes ht hi hz0 hz1 hz2 rfl (by omega) (.slice ad xs.length c) xs.length (nums k xs) ha a2 n2 c2 (nums k ys) (by rw [nums_length, hln, Nat.mul_one])
    (fun j u hj => by
      have hjl : j < ys.length := by
        rcases Nat.lt_or_ge j ys.length with h1 | h1
        · exact h1
        · rw [List.getElem?_eq_none (by rw [nums_length]; exact h1)] at hj; cases hj
      obtain ⟨a3, e3, hc⟩ := r.cell j (by omega)
      injection e3 with e3
      subst e3
      rw [nums_get k ys j hjl] at hj
      rw [hc, hj]) (fun u hu => by simp only [nums, List.mem_map] at hu; obtain ⟨z, _, rfl⟩ := hu; rfl) (by rw [← hln]; simp only [maxLen]; omega) (by rw [← hln]; exact hlen) (by omega)
  have hv : ∃ ad1 c1, v1 = .slice ad1 (xs.length + n2) c1 := by
    rcases hown.2 with ⟨h1, h2⟩ | ⟨g3, cap, cur, h1, _⟩
    · exact ⟨none, 0, by rw [h1, h2]⟩
    · exact ⟨_, cap, h1⟩
  obtain ⟨ad1, c1, rfl⟩ := hv
  rw [ownBlock_slice, ownBlock_slice] at hat
  rw [ownBlock_slice, hg] at hgr
  have hmg : ∀ b, g = some b → m ≤ b ∧ ¬ B b := fun b hb => ⟨(ha.lt b (hg.trans hb)).1, hB b hb⟩
  have hnew : PApp (blkOf ad1) m e k (xs ++ ys) (.slice ad1 (xs.length + n2) c1) w1 B := by
    refine ⟨hkd, fun b hb => ?_, ad1, c1, by rw [List.length_append, hln], ?_, rfl⟩
    · rcases hat with h1 | h1
      · exact hB b (by rw [← hg, ← h1]; exact hb)
      · rw [hb] at h1
        injection h1 with h1
        subst h1
        intro h2
        have := H.own _ h2
        omega
    · unfold App nums
      rw [List.map_append, List.length_append, hln]
      exact hown
  have hst := St.wrote (w' := w1) (rs := []) H hm hgr.size (fun i hi hne => hgr.block i hi fun e => hne e.symm) hmg hgr.os hgr.tape hgr.output hk (fun z hz => by
      have h2 : some z ∈ is.map (fun i => l[i]?) := by rw [hks]; exact List.mem_map.2 ⟨z, hz, rfl⟩
      obtain ⟨i, _, hi⟩ := List.mem_map.1 h2
      exact List.mem_of_getElem? hi) (fun z hz => by cases hz)
  rw [List.nil_append] at hst
  have hs : ∀ d, (some s : Option Tmp) = some d → d < a.tmps.size := fun d hd2 => by
    injection hd2 with hd2
    subst hd2
    rw [H.sz]
    exact of_decide_eq_true hsN
  have hput : ∀ x, (a.put (some s) (.slice ad1 (xs.length + n2) c1)).tmps.getD x undef = if (some s : Option Tmp) = some x then .slice ad1 (xs.length + n2) c1 else a.tmps.getD x undef := fun x => put_getD hs
  have hold : ∀ x, x ∈ bxs → (a.put (some s) (.slice ad1 (xs.length + n2) c1)).tmps.getD x undef = a.tmps.getD x undef := fun x hx => by
    rw [hput, if_neg ?_]
    intro e
    injection e with e
    subst e
    rw [← List.contains_iff_mem, hbs] at hx
    cases hx
  unfold wpOp
  simp only [ho]
  rw [if_pos (by simp [Region.wanted])]
  refine .inl ?_
  unfold Oper.wp
  have hr2 : (execOp a.eval ⟨some s, .call { callee := .builtin .append, args := #[x, y], argTypes := #[t, t] }, ty, pos, af, none⟩).run P w = .ok (.value (.slice ad1 (xs.length + n2) c1)) w1 := by
    simp [execOp, e1, e2, resolve, invoke, builtin, Sem.run_bind, hrun]
  rw [hr2]
  refine hK _ _ B (blkOf ad1) (fun b hb => ?_) ⟨put_defers.trans hst.df, put_size.trans hst.sz, Fct.of_all fun x hx => ?_, fun x hx => ?_, fun x hx y hy hxy => ?_, hst.bel, hst.own, hst.own0⟩
  · rcases hat with h1 | h1
    · exact .inl (by rw [← hg, ← h1]; exact hb)
    · rw [hb] at h1
      injection h1 with h1
      exact .inr (by omega)
  · rcases List.mem_cons.1 hx with rfl | hx
    · show PApp _ _ _ _ _ _ w1 B
      rw [hput, if_pos rfl]
      exact hnew
    · have hne := of_decide_eq_true hns x hx
      rw [hput, if_neg (fun e => hne (by injection e with e; exact e.symm))]
      exact hst.fc.all x hx
  · obtain ⟨b, h1, h2, h3⟩ := hst.bx x hx
    exact ⟨b, (hold x hx).trans h1, h2, h3⟩
  · rw [hold x hx, hold y hy]; exact hst.ap x hx y hy hxy
end
end Go.Proofs.YtbcbmkeeoognpaaGreatDoor

