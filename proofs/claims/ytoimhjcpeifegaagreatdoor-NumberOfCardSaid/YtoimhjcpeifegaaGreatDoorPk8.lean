/- Contracts of functions, and plain facts, part 8. -/
import Derived.Laws.Strings
import Derived.Test.YtoimhjcpeifegaaGreatDoorPk5
set_option linter.unusedVariables false
set_option linter.unusedSimpArgs false
/- The operations on whole numbers of a kind and on texts, one law for each; loops. -/
namespace Go.Proofs.YtoimhjcpeifegaaGreatDoor
open Go Go.RowKit

theorem w_i64 {n : Int} (h : -9223372036854775808 ≤ n ∧ n < 9223372036854775808) : IntKind.i64.wrap n = n := by
  rw [IntKind.wrap_i64]; omega
theorem w_u64 {n : Int} (h : 0 ≤ n ∧ n < 18446744073709551616) : IntKind.u64.wrap n = n := by
  rw [IntKind.wrap_u64]; omega
theorem w_u32 {n : Int} (h : 0 ≤ n ∧ n < 4294967296) : IntKind.u32.wrap n = n := by
  rw [IntKind.wrap_u32]; omega
theorem w_u16 {n : Int} (h : 0 ≤ n ∧ n < 65536) : IntKind.u16.wrap n = n := by
  rw [IntKind.wrap_u16]; omega
theorem w_u8 {n : Int} (h : 0 ≤ n ∧ n < 256) : IntKind.u8.wrap n = n := by
  rw [IntKind.wrap_u8]; omega
theorem w_i8 {n : Int} (h : -128 ≤ n ∧ n < 128) : IntKind.i8.wrap n = n := by
  unfold IntKind.wrap
  rw [show IntKind.i8.bits = 8 from rfl, show IntKind.i8.signed = true from rfl]
  simp only [Bool.true_and, show ((2 : Int) ^ 8) = 256 from rfl, show ((2 : Int) ^ (8 - 1)) = 128 from rfl, decide_eq_true_eq]
  split <;> omega

section
variable {P : Program} {need : List (Tmp × FD)} {d : Option Tmp} {ty : TypeId} {pos : String} {af : Array Edge} {g : Option (Nat × Bool)} {x y : Operand} {k : IntKind} {i j r : Int} {t t' : TypeId}
theorem ok_add (h : Opd need x (.val (Lit (.int k i)))) (h' : Opd need y (.val (Lit (.int k j)))) (hr : k.wrap (i + j) = r) : OpOk P ⟨d, .binOp .add t x y t', ty, pos, af, g⟩ need (.val (Lit (.int k r))) false :=
  ok_lit2 h h' fun ρ w e1 e2 => by simp [execOp, e1, e2, eqGuard, binOp, Op.intArith, Sem.run_bind, hr]
theorem ok_sub (h : Opd need x (.val (Lit (.int k i)))) (h' : Opd need y (.val (Lit (.int k j)))) (hr : k.wrap (i - j) = r) : OpOk P ⟨d, .binOp .sub t x y t', ty, pos, af, g⟩ need (.val (Lit (.int k r))) false :=
  ok_lit2 h h' fun ρ w e1 e2 => by simp [execOp, e1, e2, eqGuard, binOp, Op.intArith, Sem.run_bind, hr]
theorem ok_mul (h : Opd need x (.val (Lit (.int k i)))) (h' : Opd need y (.val (Lit (.int k j)))) (hr : k.wrap (i * j) = r) : OpOk P ⟨d, .binOp .mul t x y t', ty, pos, af, g⟩ need (.val (Lit (.int k r))) false :=
  ok_lit2 h h' fun ρ w e1 e2 => by simp [execOp, e1, e2, eqGuard, binOp, Op.intArith, Sem.run_bind, hr]
theorem ok_quo (h : Opd need x (.val (Lit (.int k i)))) (h' : Opd need y (.val (Lit (.int k j)))) (hj : j ≠ 0) (hr : k.wrap (i.tdiv j) = r) : OpOk P ⟨d, .binOp .quo t x y t', ty, pos, af, g⟩ need (.val (Lit (.int k r))) false :=
  ok_lit2 h h' fun ρ w e1 e2 => by simp [execOp, e1, e2, eqGuard, binOp, Op.intDiv, Sem.run_bind, hr, hj]
theorem ok_rem (h : Opd need x (.val (Lit (.int k i)))) (h' : Opd need y (.val (Lit (.int k j)))) (hj : j ≠ 0) (hr : i.tmod j = r) : OpOk P ⟨d, .binOp .rem t x y t', ty, pos, af, g⟩ need (.val (Lit (.int k r))) false :=
  ok_lit2 h h' fun ρ w e1 e2 => by simp [execOp, e1, e2, eqGuard, binOp, Op.intDiv, Sem.run_bind, hr, hj]
theorem ok_neg (h : Opd need x (.val (Lit (.int k i)))) (hr : k.wrap (-i) = r) : OpOk P ⟨d, .unOp .neg t x, ty, pos, af, g⟩ need (.val (Lit (.int k r))) false :=
  ok_lit1 h fun ρ w e1 => by
    rw [← Int.zero_sub] at hr
    simp only [execOp, e1, Op.unary, Op.intArith, hr, Sem.run_bind, Sem.run_pure, Result.andThen_ok]
theorem ok_conv {k' : IntKind} {q : TypeDesc} (hs : P.underlying t = some q) (ht : P.underlying t' = some (.int k')) (h : Opd need x (.val (Lit (.int k i)))) (hr : k'.wrap i = r) : OpOk P ⟨d, .convert t t' x, ty, pos, af, g⟩ need (.val (Lit (.int k' r))) false :=
  ok_lit1 h fun ρ w e1 => by
    simp [execOp, e1, convert, Sem.run_bind, run_underlying hs, run_underlying ht, Conv.intToInt, hr]
theorem ok_shl {k2 : IntKind} (h : Opd need x (.val (Lit (.int k i)))) (h' : Opd need y (.val (Lit (.int k2 j)))) (hj : 0 ≤ j) (hr : k.wrap (i * 2 ^ (min j.toNat k.bits)) = r) : OpOk P ⟨d, .binOp .shl t x y t', ty, pos, af, g⟩ need (.val (Lit (.int k r))) false :=
  ok_lit2 h h' fun ρ w e1 e2 => by
    have hn : ¬ j < 0 := by omega
    simp [execOp, e1, e2, eqGuard, binOp, Op.shift, Sem.run_bind, hr, hn]
theorem ok_shr {k2 : IntKind} (h : Opd need x (.val (Lit (.int k i)))) (h' : Opd need y (.val (Lit (.int k2 j)))) (hj : 0 ≤ j) (hr : i.fdiv (2 ^ (min j.toNat k.bits)) = r) : OpOk P ⟨d, .binOp .shr t x y t', ty, pos, af, g⟩ need (.val (Lit (.int k r))) false :=
  ok_lit2 h h' fun ρ w e1 e2 => by
    have hn : ¬ j < 0 := by omega
    simp [execOp, e1, e2, eqGuard, binOp, Op.shift, Sem.run_bind, hr, hn]

/-! ### Texts -/
theorem ok_lenS {s : ByteArray} (hs : P.underlying t = some .string) (h : Opd need x (.val (Lit (.string s)))) : OpOk P ⟨d, .call { callee := .builtin .len, args := #[x], argTypes := #[t] }, ty, pos, af, g⟩ need (.val (Lit (.int .i64 s.size))) false :=
  ok_lit1 h fun ρ w e1 => by
    have hl : (Builtin.len_ #[t] ty #[.string s]).run P w = .ok (.int .i64 s.size) w := by
      simp [Builtin.len_, Sem.run_bind, run_underlying hs, goInt]
    simp [execOp, e1, resolve, invoke, builtin, Sem.run_bind, hl]
theorem ok_indexS {s : ByteArray} {n : Nat} {c : Int} (hs : P.underlying t = some .string) (h : Opd need x (.val (Lit (.string s)))) (h' : Opd need y (.val (Lit (.int k i)))) (hi : i = n) (hc : s[n]?.map (fun b => (b.toNat : Int)) = some c) : OpOk P ⟨d, .index t x y, ty, pos, af, g⟩ need (.val (Lit (.int .u8 c))) false :=
  ok_lit2 h h' fun ρ w e1 e2 => by
    subst hi
    cases hb : s[n]? with
    | none => rw [hb] at hc; cases hc
    | some b =>
      rw [hb] at hc
      simp only [Option.map_some, Option.some.injEq] at hc
      subst hc
      simp [execOp, e1, e2, Instr.index, asIntOf, Sem.run_bind, run_underlying hs, hb]
theorem ok_sliceS1 {s : ByteArray} {n : Nat} (hs : P.underlying t = some .string) (h : Opd need x (.val (Lit (.string s)))) (h' : Opd need y (.val (Lit (.int k i)))) (hi : i = n) (hn : n ≤ s.size) : OpOk P ⟨d, .slice t x (some y) none none, ty, pos, af, g⟩ need (.val (Lit (.string (s.extract n s.size)))) false :=
  ok_lit2 h h' fun ρ w e1 e2 => by
    subst hi
    have h2 : (0 : Int) ≤ (n : Int) ∧ (n : Int) ≤ (s.size : Int) := by omega
    simp [execOp, e1, e2, Instr.sliceAt, Instr.slice, Instr.sliceBounds, Instr.sliceBound, asIntOf, Sem.run_bind, run_underlying hs, h2]
    intro hh; omega
theorem ok_sliceS2 {s : ByteArray} {n : Nat} (hs : P.underlying t = some .string) (h : Opd need x (.val (Lit (.string s)))) (h' : Opd need y (.val (Lit (.int k i)))) (hi : i = n) (hn : n ≤ s.size) : OpOk P ⟨d, .slice t x none (some y) none, ty, pos, af, g⟩ need (.val (Lit (.string (s.extract 0 n)))) false :=
  ok_lit2 h h' fun ρ w e1 e2 => by
    subst hi
    have h2 : (0 : Int) ≤ (n : Int) ∧ (n : Int) ≤ (s.size : Int) := by omega
    simp [execOp, e1, e2, Instr.sliceAt, Instr.slice, Instr.sliceBounds, Instr.sliceBound, asIntOf, Sem.run_bind, run_underlying hs, h2]
    intro hh; omega
theorem ok_catS {s u v : ByteArray} (h : Opd need x (.val (Lit (.string s)))) (h' : Opd need y (.val (Lit (.string u)))) (hl : s.size + u.size ≤ 9223372036854775807) (hv : s ++ u = v) : OpOk P ⟨d, .binOp .add t x y t', ty, pos, af, g⟩ need (.val (Lit (.string v))) false :=
  ok_lit2 h h' fun ρ w e1 e2 => by
    have h2 : ¬ ((s.size : Int) + (u.size : Int) > IntKind.i64.max) := by
      have : IntKind.i64.max = 9223372036854775807 := by decide
      omega
    simp [execOp, e1, e2, eqGuard, binOp, Op.stringOp, Sem.run_bind, hv]
    first | done | (intro hh; omega) | omega
end

/-! ### Loops -/
section
variable {P : Program} {Q : Exit → Act → World → Prop} {N : Nat} {w0 : World} {B0 : Bx} {bxs : List Tmp}
/-- A loop: F p is what holds at the head of a round, and I p; the round leads to some q that is smaller. -/
theorem f_loop {α : Type} (F : α → List (Tmp × FD)) (I : α → Prop) (m : α → Nat) {c : Code} (p : α) {a : Act} {w : World} {B : Bx} (H : St N w0 B0 a w B (F p) bxs) (hI : I p)
    (round : ∀ (p : α) (a : Act) (w : World) (B : Bx), I p → St N w0 B0 a w B (F p) bxs → c.wp P (Exit.then (fun a w => ∃ (q : α) (B : Bx), I q ∧ St N w0 B0 a w B (F q) bxs ∧ m q < m p) Q) a w) : (Code.loop c).wp P Q a w := by
  classical
  let J : Act → World → Prop := fun a w => ∃ (p : α) (B : Bx), I p ∧ St N w0 B0 a w B (F p) bxs
  let S : Act → World → Nat → Prop := fun a w n => ∃ (p : α) (B : Bx), I p ∧ St N w0 B0 a w B (F p) bxs ∧ m p = n
  have low : ∀ a w, J a w → ∃ n, S a w n ∧ ∀ k, k < n → ¬ S a w k := fun a w ⟨p, B, h0, h⟩ => least_of (S a w) ⟨m p, p, B, h0, h, rfl⟩
  let μ : Act → World → Nat := fun a w => if h : J a w then Classical.choose (low a w h) else 0
  refine wp_loop J μ ⟨p, B, hI, H⟩ ?_
  intro a w hJ
  have hμ : μ a w = Classical.choose (low a w hJ) := dif_pos hJ
  obtain ⟨⟨p, B, h0, h1, h2⟩, _⟩ := Classical.choose_spec (low a w hJ)
  refine Code.wp_mono ?_ (round p a w B h0 h1)
  intro e a' w' he
  cases e with
  | normal =>
    obtain ⟨q, B', h5, h3, h4⟩ := he
    have hJ' : J a' w' := ⟨q, B', h5, h3⟩
    refine ⟨hJ', ?_⟩
    have hμ' : μ a' w' = Classical.choose (low a' w' hJ') := dif_pos hJ'
    have hmin := (Classical.choose_spec (low a' w' hJ')).2
    rw [hμ, hμ', ← h2]
    refine Nat.lt_of_le_of_lt ?_ h4
    rcases Nat.lt_or_ge (m q) (Classical.choose (low a' w' hJ')) with h6 | h6
    · exact absurd ⟨q, B', h5, h3, rfl⟩ (hmin _ h6)
    · exact h6
  | _ => exact he
/-- Back, more than one answer. -/
inductive RetOk (P : Program) (l : List (Tmp × FD)) : List ResultVar → List VP → Prop where
  | nil : RetOk P l [] []
  | tmp {s : Tmp} {D D' : VP} {rs : List ResultVar} {Ds : List VP} (k : Nat) (hk : l[k]? = some (s, .val D)) (hw : ∀ v w B, D.p v w B → D'.p v w B) (t : RetOk P l rs Ds) : RetOk P l (.tmp s :: rs) (D' :: Ds)
  | cell {s : Tmp} {t : TypeId} {n : Nat} {D D' : VP} {rs : List ResultVar} {Ds : List VP} (k : Nat) (T : TyOk P t n) (hk : l[k]? = some (s, .box t n D)) (hw : ∀ v w B, D.p v w B → D'.p v w B) (tl : RetOk P l rs Ds) : RetOk P l (.cell s t :: rs) (D' :: Ds)
def resF (ts : Array Value) : ResultVar → Sem Value
  | .tmp t => pure (ts.getD t undef)
  | .cell b t => do loadVar t (← asAddr (ts.getD b undef))
theorem RetOk.run {a : Act} {w : World} {B : Bx} {l : List (Tmp × FD)} {rs : List ResultVar} {Ds : List VP} (h : RetOk P l rs Ds) (hf : Fct a w B l) : ∃ vs, (rs.mapM (resF a.tmps)).run P w = .ok vs w ∧ VAll vs Ds w B := by
  induction h with
  | nil => exact ⟨[], rfl, trivial⟩
  | @tmp s D D' rs Ds k hk hw t ih =>
    obtain ⟨vs, h1, h2⟩ := ih
    refine ⟨a.tmps.getD s undef :: vs, ?_, hw _ _ _ (hf.get k hk), h2⟩
    simp only [List.mapM_cons, resF, Sem.run_bind, Sem.run_pure, Result.andThen_ok, h1]
  | @cell s t n D D' rs Ds k T hk hw tl ih =>
    obtain ⟨vs, h1, h2⟩ := ih
    obtain ⟨b, cs, e1, e2, e3, e4, e5, e6⟩ := hf.get k hk
    obtain ⟨dd, hu, hd⟩ := T.row
    have := run_loadVar_row (P := P) w b t t cs (0, 0) dd e4 hu (by cases dd <;> simp_all) (by rw [T.size, e5])
    refine ⟨.agg cs :: vs, ?_, hw _ _ _ e6, h2⟩
    have ha : asAddr (a.tmps.getD s undef) = pure ⟨b, 0, none⟩ := by rw [e1]; rfl
    simp only [List.mapM_cons, resF, Sem.run_bind, ha, Sem.run_pure, Result.andThen_ok, this, h1]
theorem f_retN {a : Act} {w : World} {B : Bx} {l : List (Tmp × FD)} {fn : Func} {rs : List ResultVar} {Ds : List VP} (H : St N w0 B0 a w B l bxs) (hr : fn.results = rs.toArray) (hn : decide (rs.length = 1) = false) (h : RetOk P l rs Ds) :
    bodyPost P fn (fun e w' => ∃ v, e = .returned v ∧ (Tup Ds).p v w' B0 ∧ Below w0.heap.size w0 w') .ret a w := by
  obtain ⟨vs, h1, h2⟩ := h.run H.fc
  have hl : rs.length = vs.length := by
    clear h1 hn hr
    have : ∀ {rs : List ResultVar} {Ds : List VP}, RetOk P l rs Ds → rs.length = Ds.length := by
      intro rs Ds h
      induction h with
      | nil => rfl
      | tmp _ _ _ _ ih => simp [ih]
      | cell _ _ _ _ _ ih => simp [ih]
    rw [this h]
    clear h this
    induction vs generalizing Ds with
    | nil => cases Ds with
      | nil => rfl
      | cons D Ds => exact h2.elim
    | cons v vs ih => cases Ds with
      | nil => exact h2.elim
      | cons D Ds => simp [ih h2.2]
  refine ⟨H.df, .tuple vs.toArray, ?_, _, rfl, ⟨vs, rfl, VAll.st (Mv.shrink H.own0) h2⟩, H.bel⟩
  have hu : results fn a.tmps = (do
      let vs ← rs.toArray.mapM (resF a.tmps)
      pure (if h : vs.size = 1 then vs[0] else .tuple vs)) := by
    unfold results
    rw [hr]
    rfl
  rw [hu, Sem.run_bind]
  have hm : (rs.toArray.mapM (resF a.tmps)).run P w = .ok vs.toArray w := by
    rw [List.mapM_toArray]
    simp [h1]
  rw [hm, Result.andThen_ok, Sem.run_pure]
  rw [dif_neg (by simpa [← hl] using of_decide_eq_false hn)]
/-- Another word on a slot. -/
theorem St.set1 {a : Act} {w : World} {B : Bx} {l l' : List (Tmp × FD)} (H : St N w0 B0 a w B l bxs) (k : Nat) {s : Tmp} {D D' : VP} (hk : l[k]? = some (s, .val D)) (hw : ∀ v w B, D.p v w B → D'.p v w B) (hl : l.set k (s, .val D') = l') : St N w0 B0 a w B l' bxs := by
  refine ⟨H.df, H.sz, Fct.of_all fun x hx => ?_, H.bx, H.ap, H.bel, H.own, H.own0⟩
  rw [← hl] at hx
  rcases List.mem_or_eq_of_mem_set hx with h | h
  · exact H.fc.all x h
  · subst h; exact hw _ _ _ (H.fc.get k hk)
/-- A bool of which something is known, by a letter. -/
theorem St.split {a : Act} {w : World} {B : Bx} {l : List (Tmp × FD)} (H : St N w0 B0 a w B l bxs) (k : Nat) {s : Tmp} {T F : Prop} (hk : l[k]? = some (s, .val (IsIf T F))) : ∃ r : Bool, (r = true → T) ∧ (r = false → F) ∧ St N w0 B0 a w B (l.set k (s, .val (IsB r))) bxs := by
  obtain ⟨r, e, h1, h2⟩ := H.fc.get k hk
  refine ⟨r, h1, h2, H.df, H.sz, Fct.of_all fun x hx => ?_, H.bx, H.ap, H.bel, H.own, H.own0⟩
  rcases List.mem_or_eq_of_mem_set hx with h | h
  · exact H.fc.all x h
  · subst h; exact e
theorem St.split2 {a : Act} {w : World} {B : Bx} {l : List (Tmp × FD)} (H : St N w0 B0 a w B l bxs) (k : Nat) {s : Tmp} {T F : Prop} (hk : l[k]? = some (s, .val (IsIf T F))) : (T ∧ St N w0 B0 a w B (l.set k (s, .val (IsB true))) bxs) ∨ (F ∧ St N w0 B0 a w B (l.set k (s, .val (IsB false))) bxs) := by
  obtain ⟨r, h1, h2, h3⟩ := H.split k hk
  cases r with
  | true => exact .inl ⟨h1 rfl, h3⟩
  | false => exact .inr ⟨h2 rfl, h3⟩
end
end Go.Proofs.YtoimhjcpeifegaaGreatDoor
