/- Contracts of functions, and plain facts, part 4. -/
import Derived.Laws.Strings
import Derived.Test.YtoimhjcpeifegaaGreatDoorProg
import Derived.Deep.QuietTactic
import Derived.BigQuiet
import Derived.Laws.Rows
import Derived.Test.YtoimhjcpeifegaaGreatDoorPk1
import Derived.Test.YtoimhjcpeifegaaGreatDoorPk2
import Derived.Test.YtoimhjcpeifegaaGreatDoorPk3
set_option linter.unusedVariables false
set_option linter.unusedSimpArgs false
/- nat.Len: how many bits it has. -/
namespace Go.Proofs.YtoimhjcpeifegaaGreatDoor
open Go.RowKit

/-- How many bits a whole number not below 0 has, as an int. -/
def bitsOf (V : Int) : Int := blen V.toNat

theorem nlen_calls (ad : Option Addr) (n c : Nat) (la : List Int) (w : World) (hn : n ≤ 70368744177664) (hnc : n ≤ c) (hr : Rds w .u32 ad n la) (da : Dig 4294967296 la) :
    Calls Tryz.prog 86 #[.slice ad n c] w fun e w' => e = .returned (.int .i64 (bitsOf (val 4294967296 la))) ∧ w = w' := by
  have hc := Lib.hid (cut_calls ad n c la w (by omega) hnc hr)
  have rx := hr.norm
  have dx := norm_dig da
  have hN := norm_norm la
  have hma := norm_length_le la
  rw [hr.len] at hma
  rw [← val_norm 4294967296 la]
  clear hr da
  generalize norm la = xs at *
  obtain ⟨m, hm⟩ : ∃ m, xs.length = m := ⟨_, rfl⟩
  rw [hm] at hc rx hma
  by_cases h0 : m = 0
  · subst h0
    have HB := Lib.hid (show bitsOf (val 4294967296 xs) = 0 by rw [List.eq_nil_of_length_eq_zero hm]; rfl)
    clear hN hm
    go_enter Tryz.func86, Tryz.ntmps86
    go_wp2_with fail
    refine (hc.out).mono ?_
    rintro e w' ⟨rfl, rfl⟩
    go_wp2
    go_ret
    rw [HB.out]
    exact ⟨rfl, rfl⟩
  · obtain ⟨t, rfl⟩ : ∃ t, m = t + 1 := ⟨m - 1, by omega⟩
    have bx := dx.get (by omega) t
    have hl := len32_calls (xs[t]?.getD 0) w bx.1 (by omega)
    have hB := bitLen_blen (xs[t]?.getD 0).toNat (by omega)
    have hb2 := Lib.bitLen_le (xs[t]?.getD 0).toNat 32 (by omega) (by omega)
    have HB := Lib.hid (show bitsOf (val 4294967296 xs) = 32 * (t : Int) + (Lib.bitLen (xs[t]?.getD 0).toNat : Nat) by
      unfold bitsOf
      rw [blen_list 32 4294967296 (by decide) xs dx hN t hm, hB]
      simp)
    have hl' := Lib.hid hl
    clear hN hm hl hB h0
    obtain ⟨a, rfl, hxl⟩ := rx.cell t (by omega)
    generalize xs[t]?.getD 0 = x at *
    generalize Lib.bitLen x.toNat = q at *
    have hmm : ((((t + 1 : Nat) : Int)) == 0) = false := by simp; omega
    go_enter Tryz.func86, Tryz.ntmps86
    go_wp2_with fail
    refine (hc.out).mono ?_
    rintro e w' ⟨rfl, rfl⟩
    go_wp2_with fail
    refine (hl'.out).mono ?_
    rintro e w' ⟨rfl, rfl⟩
    go_wp2
    go_ret
    rw [HB.out]
    exact ⟨rfl, rfl⟩
end Go.Proofs.YtoimhjcpeifegaaGreatDoor


/- Shifts of lists of digits, place by place: plain facts. -/
namespace Go.Proofs.YtoimhjcpeifegaaGreatDoor

/-- Is there a number 2^n times V, as Shl counts? -/
def shlOk (V n : Int) : Bool := decide (0 ≤ n ∧ (V = 0 ∨ n ≤ 8388608 - (blen V.toNat : Nat)))
def shlNum (V n : Int) : Int := if shlOk V n then V * 2 ^ n.toNat else 0
/-- What Shr answers. -/
def shrNum (V n : Int) : Int := if 0 ≤ n then V / 2 ^ n.toNat else 0
def shrMore (V n : Int) : Bool := decide (0 ≤ n) && decide (V % 2 ^ n.toNat ≠ 0)

/-- What comes up from the place below. -/
def carryUp (b R : Int) (zs : List Int) (j : Nat) : Int := if j = 0 then 0 else zs[j - 1]?.getD 0 * R / b

theorem shl_step (b R : Int) (hb : 0 < b) (zs ys : List Int) (j : Nat) (hz : j < zs.length) (hy : j < ys.length)
    (E : val b (ys.drop (j + 1)) = R * val b (zs.drop (j + 1)) + carryUp b R zs (j + 1)) :
    val b ((ys.set j (zs[j]?.getD 0 * R % b + carryUp b R zs j)).drop j) = R * val b (zs.drop j) + carryUp b R zs j := by
  rw [val_drop b zs j hz, val_drop b (ys.set j _) j (by rw [List.length_set]; exact hy), List.getElem?_set_self hy, List.drop_set_of_lt (by omega), E]
  have e : carryUp b R zs (j + 1) = zs[j]?.getD 0 * R / b := by unfold carryUp; rw [if_neg (by omega)]; rfl
  rw [e]
  simp only [Option.getD_some]
  have h := Int.emod_add_mul_ediv (zs[j]?.getD 0 * R) b
  generalize zs[j]?.getD 0 * R / b = q at *
  generalize zs[j]?.getD 0 * R % b = r at *
  generalize hx : zs[j]?.getD 0 = x at *
  generalize val b (zs.drop (j + 1)) = Z at *
  generalize carryUp b R zs j = c at *
  have : r = x * R - b * q := by omega
  subst this
  grind

theorem shr_step (b R Q : Int) (hR : 0 < R) (hb : b = R * Q) (zs ys : List Int) (i : Nat) (hy : i < ys.length) (c0 : Int)
    (E : val b (ys.take i) * R + c0 = val b (zs.take i) + b ^ i * (zs[i]?.getD 0 % R)) :
    val b ((ys.set i (zs[i]?.getD 0 / R + zs[i + 1]?.getD 0 % R * Q)).take (i + 1)) * R + c0 = val b (zs.take (i + 1)) + b ^ (i + 1) * (zs[i + 1]?.getD 0 % R) := by
  rw [take_set_succ ys i _ hy, val_append, val_take_succ', Int.pow_succ, List.length_take, Nat.min_eq_left (by omega)]
  simp only [val, Int.mul_zero, Int.add_zero]
  have h := Int.emod_add_mul_ediv (zs[i]?.getD 0) R
  generalize zs[i]?.getD 0 = x at *
  generalize zs[i + 1]?.getD 0 % R = t at *
  generalize x / R = q at *
  generalize x % R = r at *
  generalize hP : b ^ i = P at *
  generalize val b (ys.take i) = Y at *
  generalize val b (zs.take i) = Z at *
  subst hb
  subst h
  grind
theorem split_div (lo P Z R : Int) (h0 : 0 ≤ lo) (h1 : lo < P) (hR : 0 < R) : (lo + P * Z) / (P * R) = Z / R ∧ (lo + P * Z) % (P * R) = lo + P * (Z % R) := by
  have hP : 0 < P := by omega
  have e : lo + P * Z = (lo + P * (Z % R)) + P * R * (Z / R) := by
    have := Int.emod_add_mul_ediv Z R
    generalize Z / R = q at *
    generalize Z % R = r at *
    subst this
    grind
  have b0 : 0 ≤ Z % R := Int.emod_nonneg _ (by omega)
  have b1 : Z % R + 1 ≤ R := Int.emod_lt_of_pos _ hR
  have c0 : 0 ≤ P * (Z % R) := Int.mul_nonneg (by omega) b0
  have c1 : P * (Z % R + 1) ≤ P * R := Int.mul_le_mul_of_nonneg_left b1 (by omega)
  rw [Int.mul_add] at c1
  have hPR : 0 < P * R := Int.mul_pos hP hR
  rw [e]
  constructor
  · rw [Int.add_mul_ediv_left _ _ (by omega), Int.ediv_eq_zero_of_lt (by omega) (by omega), Int.zero_add]
  · rw [Int.add_mul_emod_self_left, Int.emod_eq_of_lt (by omega) (by omega)]

end Go.Proofs.YtoimhjcpeifegaaGreatDoor


/- The operations on whole numbers of a kind and on texts, one law for each; loops. -/
namespace Go.Proofs.YtoimhjcpeifegaaGreatDoor
open Go Go.RowKit

theorem w_i64 {n : Int} (h : -9223372036854775808 ≤ n ∧ n < 9223372036854775808) : IntKind.i64.wrap n = n := by
  rw [IntKind.wrap_i64]; omega
theorem w_u64 {n : Int} (h : 0 ≤ n ∧ n < 18446744073709551616) : IntKind.u64.wrap n = n := by
  rw [IntKind.wrap_u64]; omega
section
variable {P : Program} {need : List (Tmp × FD)} {d : Option Tmp} {ty : TypeId} {pos : String} {af : Array Edge} {g : Option (Nat × Bool)} {x y : Operand} {k : IntKind} {i j r : Int} {t t' : TypeId}
theorem ok_add (h : Opd need x (.val (Lit (.int k i)))) (h' : Opd need y (.val (Lit (.int k j)))) (hr : k.wrap (i + j) = r) : OpOk P ⟨d, .binOp .add t x y t', ty, pos, af, g⟩ need (.val (Lit (.int k r))) false :=
  ok_lit2 h h' fun ρ w e1 e2 => by simp [execOp, e1, e2, eqGuard, binOp, Op.intArith, Sem.run_bind, hr]
theorem ok_sub (h : Opd need x (.val (Lit (.int k i)))) (h' : Opd need y (.val (Lit (.int k j)))) (hr : k.wrap (i - j) = r) : OpOk P ⟨d, .binOp .sub t x y t', ty, pos, af, g⟩ need (.val (Lit (.int k r))) false :=
  ok_lit2 h h' fun ρ w e1 e2 => by simp [execOp, e1, e2, eqGuard, binOp, Op.intArith, Sem.run_bind, hr]
theorem ok_conv {k' : IntKind} {q : TypeDesc} (hs : P.underlying t = some q) (ht : P.underlying t' = some (.int k')) (h : Opd need x (.val (Lit (.int k i)))) (hr : k'.wrap i = r) : OpOk P ⟨d, .convert t t' x, ty, pos, af, g⟩ need (.val (Lit (.int k' r))) false :=
  ok_lit1 h fun ρ w e1 => by
    simp [execOp, e1, convert, Sem.run_bind, run_underlying hs, run_underlying ht, Conv.intToInt, hr]
theorem ok_lenS {s : ByteArray} (hs : P.underlying t = some .string) (h : Opd need x (.val (Lit (.string s)))) : OpOk P ⟨d, .call { callee := .builtin .len, args := #[x], argTypes := #[t] }, ty, pos, af, g⟩ need (.val (Lit (.int .i64 s.size))) false :=
  ok_lit1 h fun ρ w e1 => by
    have hl : (Builtin.len_ #[t] ty #[.string s]).run P w = .ok (.int .i64 s.size) w := by
      simp [Builtin.len_, Sem.run_bind, run_underlying hs, goInt]
    simp [execOp, e1, resolve, invoke, builtin, Sem.run_bind, hl]
end

section
variable {P : Program} {Q : Exit → Act → World → Prop} {N : Nat} {w0 : World} {B0 : Bx} {bxs : List Tmp}
/-- A loop: F p is what holds at the head of a round, and I p; the round leads to some q that is smaller. -/
theorem f_loop {α : Type} (F : α → List (Tmp × FD)) (I : α → Prop) (m : α → Nat) {c : Code} (p : α) {a : Act} {w : World} {B : Bx} (H : St N w0 B0 a w B (F p) bxs) (hI : I p)
    (round : ∀ (p : α) (a : Act) (w : World) (B : Bx), I p → St N w0 B0 a w B (F p) bxs → c.wp P (Exit.then (fun a w => ∃ (q : α) (B : Bx), I q ∧ St N w0 B0 a w B (F q) bxs ∧ m q < m p) Q) a w) : (Code.loop c).wp P Q a w := by
  classical
  let J : Act → World → Prop := fun a w => ∃ (p : α) (B : Bx), I p ∧ St N w0 B0 a w B (F p) bxs
  let S : Act → World → Nat → Prop := fun a w n => ∃ (p : α) (B : Bx), I p ∧ St N w0 B0 a w B (F p) bxs ∧ m p = n
  have low : ∀ a w, J a w → ∃ n, S a w n ∧ ∀ k, k < n → ¬ S a w k := fun a w ⟨p, B, h0, h⟩ => least_of (S a w) ⟨m p, p, B, h0, h, rfl⟩
  let μ : Act → World → Nat := fun a w => if h : J a w then Classical.choose (low a w h) else 0
  refine wp_loop J μ ⟨p, B, hI, H⟩ ?_
  intro a w hJ
  have hμ : μ a w = Classical.choose (low a w hJ) := dif_pos hJ
  obtain ⟨⟨p, B, h0, h1, h2⟩, _⟩ := Classical.choose_spec (low a w hJ)
  refine Code.wp_mono ?_ (round p a w B h0 h1)
  intro e a' w' he
  cases e with
  | normal =>
    obtain ⟨q, B', h5, h3, h4⟩ := he
    have hJ' : J a' w' := ⟨q, B', h5, h3⟩
    refine ⟨hJ', ?_⟩
    have hμ' : μ a' w' = Classical.choose (low a' w' hJ') := dif_pos hJ'
    have hmin := (Classical.choose_spec (low a' w' hJ')).2
    rw [hμ, hμ', ← h2]
    refine Nat.lt_of_le_of_lt ?_ h4
    rcases Nat.lt_or_ge (m q) (Classical.choose (low a' w' hJ')) with h6 | h6
    · exact absurd ⟨q, B', h5, h3, rfl⟩ (hmin _ h6)
    · exact h6
  | _ => exact he
/-- Back, more than one answer. -/
inductive RetOk (P : Program) (l : List (Tmp × FD)) : List ResultVar → List VP → Prop where
  | nil : RetOk P l [] []
  | tmp {s : Tmp} {D D' : VP} {rs : List ResultVar} {Ds : List VP} (k : Nat) (hk : l[k]? = some (s, .val D)) (hw : ∀ v w B, D.p v w B → D'.p v w B) (t : RetOk P l rs Ds) : RetOk P l (.tmp s :: rs) (D' :: Ds)
  | cell {s : Tmp} {t : TypeId} {n : Nat} {D D' : VP} {rs : List ResultVar} {Ds : List VP} (k : Nat) (T : TyOk P t n) (hk : l[k]? = some (s, .box t n D)) (hw : ∀ v w B, D.p v w B → D'.p v w B) (tl : RetOk P l rs Ds) : RetOk P l (.cell s t :: rs) (D' :: Ds)
def resF (ts : Array Value) : ResultVar → Sem Value
  | .tmp t => pure (ts.getD t undef)
  | .cell b t => do loadVar t (← asAddr (ts.getD b undef))
theorem RetOk.run {a : Act} {w : World} {B : Bx} {l : List (Tmp × FD)} {rs : List ResultVar} {Ds : List VP} (h : RetOk P l rs Ds) (hf : Fct a w B l) : ∃ vs, (rs.mapM (resF a.tmps)).run P w = .ok vs w ∧ VAll vs Ds w B := by
  induction h with
  | nil => exact ⟨[], rfl, trivial⟩
  | @tmp s D D' rs Ds k hk hw t ih =>
    obtain ⟨vs, h1, h2⟩ := ih
    refine ⟨a.tmps.getD s undef :: vs, ?_, hw _ _ _ (hf.get k hk), h2⟩
    simp only [List.mapM_cons, resF, Sem.run_bind, Sem.run_pure, Result.andThen_ok, h1]
  | @cell s t n D D' rs Ds k T hk hw tl ih =>
    obtain ⟨vs, h1, h2⟩ := ih
    obtain ⟨b, cs, e1, e2, e3, e4, e5, e6⟩ := hf.get k hk
    obtain ⟨dd, hu, hd⟩ := T.row
    have := run_loadVar_row (P := P) w b t t cs (0, 0) dd e4 hu (by cases dd <;> simp_all) (by rw [T.size, e5])
    refine ⟨.agg cs :: vs, ?_, hw _ _ _ e6, h2⟩
    have ha : asAddr (a.tmps.getD s undef) = pure ⟨b, 0, none⟩ := by rw [e1]; rfl
    simp only [List.mapM_cons, resF, Sem.run_bind, ha, Sem.run_pure, Result.andThen_ok, this, h1]
theorem f_retN {a : Act} {w : World} {B : Bx} {l : List (Tmp × FD)} {fn : Func} {rs : List ResultVar} {Ds : List VP} (H : St N w0 B0 a w B l bxs) (hr : fn.results = rs.toArray) (hn : decide (rs.length = 1) = false) (h : RetOk P l rs Ds) :
    bodyPost P fn (fun e w' => ∃ v, e = .returned v ∧ (Tup Ds).p v w' B0 ∧ Below w0.heap.size w0 w') .ret a w := by
  obtain ⟨vs, h1, h2⟩ := h.run H.fc
  have hl : rs.length = vs.length := by
    clear h1 hn hr
    have : ∀ {rs : List ResultVar} {Ds : List VP}, RetOk P l rs Ds → rs.length = Ds.length := by
      intro rs Ds h
      induction h with
      | nil => rfl
      | tmp _ _ _ _ ih => simp [ih]
      | cell _ _ _ _ _ ih => simp [ih]
    rw [this h]
    clear h this
    induction vs generalizing Ds with
    | nil => cases Ds with
      | nil => rfl
      | cons D Ds => exact h2.elim
    | cons v vs ih => cases Ds with
      | nil => exact h2.elim
      | cons D Ds => simp [ih h2.2]
  refine ⟨H.df, .tuple vs.toArray, ?_, _, rfl, ⟨vs, rfl, VAll.st (Mv.shrink H.own0) h2⟩, H.bel⟩
  have hu : results fn a.tmps = (do
      let vs ← rs.toArray.mapM (resF a.tmps)
      pure (if h : vs.size = 1 then vs[0] else .tuple vs)) := by
    unfold results
    rw [hr]
    rfl
  rw [hu, Sem.run_bind]
  have hm : (rs.toArray.mapM (resF a.tmps)).run P w = .ok vs.toArray w := by
    rw [List.mapM_toArray]
    simp [h1]
  rw [hm, Result.andThen_ok, Sem.run_pure]
  rw [dif_neg (by simpa [← hl] using of_decide_eq_false hn)]
/-- Another word on a slot. -/
theorem St.set1 {a : Act} {w : World} {B : Bx} {l l' : List (Tmp × FD)} (H : St N w0 B0 a w B l bxs) (k : Nat) {s : Tmp} {D D' : VP} (hk : l[k]? = some (s, .val D)) (hw : ∀ v w B, D.p v w B → D'.p v w B) (hl : l.set k (s, .val D') = l') : St N w0 B0 a w B l' bxs := by
  refine ⟨H.df, H.sz, Fct.of_all fun x hx => ?_, H.bx, H.ap, H.bel, H.own, H.own0⟩
  rw [← hl] at hx
  rcases List.mem_or_eq_of_mem_set hx with h | h
  · exact H.fc.all x h
  · subst h; exact hw _ _ _ (H.fc.get k hk)
/-- A bool of which something is known, by a letter. -/
theorem St.split {a : Act} {w : World} {B : Bx} {l : List (Tmp × FD)} (H : St N w0 B0 a w B l bxs) (k : Nat) {s : Tmp} {T F : Prop} (hk : l[k]? = some (s, .val (IsIf T F))) : ∃ r : Bool, (r = true → T) ∧ (r = false → F) ∧ St N w0 B0 a w B (l.set k (s, .val (IsB r))) bxs := by
  obtain ⟨r, e, h1, h2⟩ := H.fc.get k hk
  refine ⟨r, h1, h2, H.df, H.sz, Fct.of_all fun x hx => ?_, H.bx, H.ap, H.bel, H.own, H.own0⟩
  rcases List.mem_or_eq_of_mem_set hx with h | h
  · exact H.fc.all x h
  · subst h; exact e
end
end Go.Proofs.YtoimhjcpeifegaaGreatDoor


/- A region that draws, with stores into its own new variables among the other operations. -/
namespace Go.Proofs.YtoimhjcpeifegaaGreatDoor
open Go Go.RowKit

section
variable {P : Program} {ops : Array Oper} {Q : Exit → Act → World → Prop} {md : Region.Mode}
def curF (posts : List FD) (posts2 : List (Option (Nat × FD))) (l : Array Bool) (j : Nat) : FD := match posts2.getD j none with
  | some (i, f) => if l.getD i false then f else posts.getD j (.val VP.top)
  | none => posts.getD j (.val VP.top)
def FD.notPtr (t : TypeId) : FD → Bool
  | .ptr t' _ _ _ => decide (t' ≠ t)
  | _ => true

def notStore (posts2 : List (Option (Nat × FD))) (i : Nat) : Bool := posts2.all fun x => match x with
  | some (k, _) => decide (k ≠ i)
  | none => true
theorem notStore_ne {posts2 : List (Option (Nat × FD))} {i : Nat} (h : notStore posts2 i = true) (j : Nat) (f : FD) : posts2.getD j none ≠ some (i, f) := by
  intro e
  rw [List.getD_eq_getElem?_getD] at e
  cases hm : posts2[j]? with
  | none => rw [hm] at e; cases e
  | some y =>
    rw [hm] at e
    simp at e
    subst e
    have := List.all_eq_true.1 h _ (List.mem_of_getElem? hm)
    simp at this
inductive AllOkS (P : Program) (ops : Array Oper) (look : Ref → Tmp × FD) (dsts : List (Option Tmp)) (posts : List FD) (posts2 : List (Option (Nat × FD))) (als : List Bool) (refs : List (List Ref)) : Nat → List Oper → Prop where
  | nil {i : Nat} : AllOkS P ops look dsts posts posts2 als refs i []
  | norm {i : Nat} {o : Oper} {os : List Oper} (hn : notStore posts2 i = true) (h : StepOk P ops o ((refs.getD i []).map look) (posts.getD i (.val VP.top)) (als.getD i false)) (t : AllOkS P ops look dsts posts posts2 als refs (i + 1) os) : AllOkS P ops look dsts posts posts2 als refs i (o :: os)
  | stor {i : Nat} {o : Oper} {os : List Oper} (j : Nat) {p : Tmp} {x : Operand} {t : TypeId} {n : Nat} {D0 D : VP} {ty : TypeId} {pos : String} {af : Array Edge} (ho : o = ⟨none, .store t (.tmp p) x, ty, pos, af, none⟩) (hj : dsts.getD j none = some p) (h1 : posts.getD j (.val VP.top) = .box t n D0) (h2 : posts2.getD j none = some (i, .box t n D))
      (hx : Opd ((refs.getD i []).map look) x (.val D)) (T : TyOk P t n) (s0 : Shape n D0) (s1 : Shape n D) (hp : posts.all (FD.notPtr t) = true) (tl : AllOkS P ops look dsts posts posts2 als refs (i + 1) os) : AllOkS P ops look dsts posts posts2 als refs i (o :: os)
def OneOk (P : Program) (ops : Array Oper) (look : Ref → Tmp × FD) (dsts : List (Option Tmp)) (posts : List FD) (posts2 : List (Option (Nat × FD))) (als : List Bool) (refs : List (List Ref)) (i : Nat) (o : Oper) : Prop :=
  (notStore posts2 i = true ∧ StepOk P ops o ((refs.getD i []).map look) (posts.getD i (.val VP.top)) (als.getD i false)) ∨
  ∃ (j : Nat) (p : Tmp) (x : Operand) (t : TypeId) (n : Nat) (D0 D : VP) (ty : TypeId) (pos : String) (af : Array Edge), o = ⟨none, .store t (.tmp p) x, ty, pos, af, none⟩ ∧ dsts.getD j none = some p ∧ posts.getD j (.val VP.top) = .box t n D0 ∧ posts2.getD j none = some (i, .box t n D) ∧
      Opd ((refs.getD i []).map look) x (.val D) ∧ TyOk P t n ∧ Shape n D0 ∧ Shape n D ∧ posts.all (FD.notPtr t) = true
theorem AllOkS.get {look : Ref → Tmp × FD} {dsts : List (Option Tmp)} {posts : List FD} {posts2 : List (Option (Nat × FD))} {als : List Bool} {refs : List (List Ref)} {i : Nat} {os : List Oper} (h : AllOkS P ops look dsts posts posts2 als refs i os) :
    ∀ k o, os[k]? = some o → OneOk P ops look dsts posts posts2 als refs (i + k) o := by
  induction h with
  | nil => intro k o hk; simp at hk
  | norm hn h t ih =>
    intro k o hk
    cases k with
    | zero => simp at hk; subst hk; exact .inl ⟨hn, h⟩
    | succ k => rw [show ∀ i : Nat, i + (k + 1) = i + 1 + k from fun i => by omega]; exact ih k o (by simpa using hk)
  | stor j ho hj h1 h2 hx T s0 s1 hp tl ih =>
    intro k o hk
    cases k with
    | zero => simp at hk; subst hk; exact .inr ⟨j, _, _, _, _, _, _, _, _, _, ho, hj, h1, h2, hx, T, s0, s1, hp⟩
    | succ k => rw [show ∀ i : Nat, i + (k + 1) = i + 1 + k from fun i => by omega]; exact ih k o (by simpa using hk)

structure Mid3 (md : Region.Mode) (ops : Array Oper) (m : Nat) (dsts : List (Option Tmp)) (posts : List FD) (posts2 : List (Option (Nat × FD))) (als : List Bool) (base : Act) (w0 : World) (B0 : Bx) (l : Array Bool) (a : Act) (w : World) (B : Bx) : Prop where
  size : l.size = ops.size
  closed : ∀ j o, ops[j]? = some o → l.getD j false = true → ∀ e ∈ o.after, Region.binds md e = true → l.getD e.on false = true
  defers : a.defers = base.defers
  tsize : a.tmps.size = base.tmps.size
  rest : ∀ s, dsts.contains (some s) = false → a.tmps.getD s undef = base.tmps.getD s undef
  fact : ∀ i d, i < m → dsts.getD i none = some d → l.getD i false = true → (curF posts posts2 l i).p (a.tmps.getD d undef) w B
  fresh : ∀ i d, i < m → als.getD i false = true → dsts.getD i none = some d → l.getD i false = true → ∃ b, a.tmps.getD d undef = .pointer (some ⟨b, 0, none⟩) ∧ w0.heap.size ≤ b ∧ b < w.heap.size
  apart : ∀ i j d e, i < m → j < m → i ≠ j → als.getD i false = true → als.getD j false = true → dsts.getD i none = some d → dsts.getD j none = some e → l.getD i false = true → l.getD j false = true → a.tmps.getD d undef ≠ a.tmps.getD e undef
  bl : Bl w0 B0 w B
  below : Below w0.heap.size w0 w
  own : Own1 B w

/-- What is asked beside flowCheck: boxes that are stored into are new; they are named by their own store alone; the store comes behind. -/
def storeCheck (m : Nat) (dsts : List (Option Tmp)) (refs : List (List Ref)) (outs : List Ref) (als : List Bool) (posts : List FD) (posts2 : List (Option (Nat × FD))) (md : Region.Mode) (ops : Array Oper) : Bool :=
  decide (posts2.length = m) && (List.range m).all fun j => match posts2.getD j none with
    | none => match posts.getD j (.val VP.top) with
      | .box .. => als.getD j false
      | _ => true
    | some (i, f) => als.getD j false && decide (i < m) && decide (dsts.getD i none = none) && direct md ops i j && f.isBox && (posts.getD j (.val VP.top)).isBox && ((List.range m).all fun k => decide (k = j) || match posts2.getD k none with
        | some (q, _) => decide (q ≠ i)
        | none => true) &&
        (List.range m).all fun k => decide (k = i) || (refs.getD k []).all fun r => match r with
          | .res q => decide (q ≠ j)
          | _ => true

section
variable {m N : Nat} {dsts : List (Option Tmp)} {pres bxs : List Tmp} {refs : List (List Ref)} {outs : List Ref} {als : List Bool} {posts : List FD} {posts2 : List (Option (Nat × FD))} {pre : List (Tmp × FD)} {base : Act} {w0 : World} {B0 : Bx}

theorem storeCheck_spec (h : storeCheck m dsts refs outs als posts posts2 md ops = true) (j : Nat) (hj : j < m) :
    (posts2.getD j none = none ∧ (∀ t n D, posts.getD j (.val VP.top) = .box t n D → als.getD j false = true)) ∨ ∃ i f, posts2.getD j none = some (i, f) ∧ als.getD j false = true ∧ i < m ∧ dsts.getD i none = none ∧ direct md ops i j = true ∧ (∀ k, k < m → k ≠ i → ∀ r ∈ refs.getD k [], r ≠ .res j) ∧ f.isBox = true ∧ (posts.getD j (.val VP.top)).isBox = true ∧ ∀ k f2, k < m → k ≠ j → posts2.getD k none ≠ some (i, f2) := by
  simp only [storeCheck, Bool.and_eq_true, List.all_eq_true, List.mem_range] at h
  have h2 := h.2 j hj
  cases hp : posts2.getD j none with
  | none =>
    rw [hp] at h2
    refine .inl ⟨rfl, fun t n D hf => ?_⟩
    rw [hf] at h2
    exact h2
  | some x =>
    obtain ⟨i, f⟩ := x
    rw [hp] at h2
    simp only [Bool.and_eq_true, decide_eq_true_eq, List.all_eq_true, List.mem_range, Bool.or_eq_true] at h2
    obtain ⟨⟨⟨⟨⟨⟨⟨g1, g2⟩, g3⟩, g4⟩, g6⟩, g7⟩, g8⟩, g5⟩ := h2
    refine .inr ⟨i, f, rfl, g1, g2, g3, g4, fun k hk hki r hr e => ?_, g6, g7, fun k f2 hk hkj e => ?_⟩
    · subst e
      have := (g5 k hk).resolve_left hki _ hr
      simp at this
    · have := (g8 k hk).resolve_left hkj
      rw [e] at this
      simp at this

theorem curF_none {l : Array Bool} {j : Nat} (h : posts2.getD j none = none) : curF posts posts2 l j = posts.getD j (.val VP.top) := by unfold curF; rw [h]
theorem curF_some {l : Array Bool} {j i : Nat} {f : FD} (h : posts2.getD j none = some (i, f)) : curF posts posts2 l j = if l.getD i false then f else posts.getD j (.val VP.top) := by unfold curF; rw [h]

theorem Mid3.need (C : FlowOk true md ops m N dsts pres bxs refs outs als) (hpre : pre.map Prod.fst = pres) (hb : Fct base w0 B0 pre) {l : Array Bool} {a : Act} {w : World} {B : Bx} (h : Mid3 md ops m dsts posts posts2 als base w0 B0 l a w B)
    (r : Ref) (hr : match r with
      | .pre k => match pres[k]? with
        | some s => dsts.contains (some s) = false
        | none => False
      | .res j => j < m ∧ (dsts.getD j none).isSome = true ∧ l.getD j false = true ∧ curF posts posts2 l j = posts.getD j (.val VP.top)) : (lookR dsts posts pre r).2.p (a.tmps.getD (lookR dsts posts pre r).1 undef) w B := by
  cases r with
  | pre k =>
    simp only at hr
    cases hk : pres[k]? with
    | none => rw [hk] at hr; exact hr.elim
    | some s =>
      rw [hk] at hr
      simp only at hr
      rw [← hpre, List.getElem?_map] at hk
      cases hp : pre[k]? with
      | none => rw [hp] at hk; cases hk
      | some x =>
        rw [hp] at hk
        simp at hk
        have e : lookR dsts posts pre (.pre k) = x := by simp [lookR, List.getD_eq_getElem?_getD, hp]
        rw [e]
        have h1 := hb.all x (List.mem_of_getElem? hp)
        have h2 := h.rest x.1 (by rw [hk]; exact hr)
        rw [h2]
        exact x.2.st h.bl h1
  | res j =>
    obtain ⟨h1, h2, h3, h4⟩ := hr
    obtain ⟨d, hd⟩ := Option.isSome_iff_exists.1 h2
    have := h.fact j d h1 hd h3
    rw [h4] at this
    have e : lookR dsts posts pre (.res j) = (d, posts.getD j (.val VP.top)) := by simp only [lookR, hd, Option.getD_some]
    rw [e]
    exact this

theorem Mid3.step (C : FlowOk true md ops m N dsts pres bxs refs outs als) (S : storeCheck m dsts refs outs als posts posts2 md ops = true) (hms : m = ops.size) (hpre : pre.map Prod.fst = pres) (hb : Fct base w0 B0 pre) (hN : base.tmps.size = N)
    (hall : ∀ i o, ops[i]? = some o → OneOk P ops (lookR dsts posts pre) dsts posts posts2 als refs i o)
    {l : Array Bool} {a : Act} {w : World} {B : Bx} (h : Mid3 md ops m dsts posts posts2 als base w0 B0 l a w B) (i : Nat) (hi : i < m) (hun : l.getD i true = false)
    (hdeps : ∀ o, ops[i]? = some o → ∀ e ∈ o.after, Region.binds md e = true → l.getD e.on false = true) :
    wpOp P ops Q i (fun a' w' => ∃ B', Mid3 md ops m dsts posts posts2 als base w0 B0 (l.setIfInBounds i true) a' w' B') a w := by
  have hisz : i < ops.size := by omega
  have ho : ops[i]? = some ops[i] := Array.getElem?_eq_getElem hisz
  generalize ops[i] = o at ho
  have hod := C.dst i o hi ho
  have hdeps := hdeps o ho
  have hlset : ∀ j b, j < ops.size → (l.setIfInBounds i true).getD j b = if i = j then true else l.getD j b := fun j b hj => by
    have hil : i < l.size := by rw [h.size]; exact hisz
    rw [Array.getD_eq_getD_getElem?, Array.getD_eq_getD_getElem?, Array.getElem?_setIfInBounds]
    by_cases e : i = j
    · subst e; simp [hil]
    · rw [if_neg e, if_neg e]
  have hmono : ∀ j, l.getD j false = true → (l.setIfInBounds i true).getD j false = true := fun j hj => getD_set_true hj
  have hunf : l.getD i false = false := by
    have hil : i < l.size := by rw [h.size]; exact hisz
    rw [Array.getD_eq_getD_getElem?, Array.getElem?_eq_getElem hil] at hun ⊢
    simpa using hun
  have hclosed : ∀ j o2, ops[j]? = some o2 → (l.setIfInBounds i true).getD j false = true → ∀ e ∈ o2.after, Region.binds md e = true → (l.setIfInBounds i true).getD e.on false = true := by
    intro j o2 ho2 hlj e he hb2
    refine hmono _ ?_
    by_cases e1 : i = j
    · subst e1
      rw [ho] at ho2
      injection ho2 with ho2
      subst ho2
      exact hdeps e he hb2
    · have hj2 : j < ops.size := (Array.getElem?_eq_some_iff.1 ho2).1
      rw [hlset j false hj2, if_neg e1] at hlj
      exact h.closed j o2 ho2 hlj e he hb2
  have needs : ∀ r ∈ refs.getD i [], (lookR dsts posts pre r).2.p (a.tmps.getD (lookR dsts posts pre r).1 undef) w B := by
    intro r hr
    have hok := C.ref i r hi hr
    refine h.need C hpre hb r ?_
    cases r with
    | pre k =>
      simp only [refOk] at hok
      cases hs : pres[k]? with
      | none => rw [hs] at hok; cases hok
      | some s => rw [hs] at hok; simp only [hs]; simpa using hok
    | res j =>
      simp only [refOk, Bool.and_eq_true, decide_eq_true_eq] at hok
      refine ⟨hok.1.1, hok.1.2, direct_listed ho hdeps hok.2, ?_⟩
      rcases storeCheck_spec S j hok.1.1 with ⟨h1, _⟩ | ⟨k, f, h1, h2, h3, h4, h5, h6, _⟩
      · exact curF_none h1
      · rw [curF_some h1]
        by_cases e : i = k
        · subst e; rw [hunf]; rfl
        · exact absurd rfl (h6 i hi e _ hr)
  -- what the facts of others become when the list grows
  have curSame : ∀ j, j < m → (∀ f, posts2.getD j none ≠ some (i, f)) → curF posts posts2 (l.setIfInBounds i true) j = curF posts posts2 l j := by
    intro j hj hne
    rcases storeCheck_spec S j hj with ⟨h1, _⟩ | ⟨k, f, h1, h2, h3, _⟩
    · rw [curF_none h1, curF_none h1]
    · rw [curF_some h1, curF_some h1, hlset k false (by omega), if_neg (show ¬ i = k by rintro rfl; exact hne f h1)]
  rcases hall i o ho with ⟨hns, hstep⟩ | ⟨j, p, x, t, n, D0, D, ty, pos, af, rfl, hj, h1, h2, hx, T, s0, s1, hnp⟩
  · refine hstep Q _ i a w B ho h.own (Fct.of_all fun x hx => ?_) ?_
    · obtain ⟨r, hr, rfl⟩ := List.mem_map.1 hx
      exact needs r hr
    · intro v w' B' hp hbl hbel hown hal
      have hds : ∀ d, o.dst = some d → d < a.tmps.size := fun d hd => by
        rw [h.tsize, hN]; exact C.lt i d (by rw [← hod]; exact hd)
      have hput : ∀ s, (a.put o.dst v).tmps.getD s undef = if o.dst = some s then v else a.tmps.getD s undef := fun s => put_getD hds
      refine ⟨B', by rw [Array.size_setIfInBounds]; exact h.size, hclosed, ?_, ?_, ?_, ?_, ?_, ?_, h.bl.trans hbl, below_then h.below h.below.size hbel, hown⟩
      · rw [put_defers]; exact h.defers
      · rw [put_size]; exact h.tsize
      · intro s hs
        rw [hput, if_neg ?_]
        · exact h.rest s hs
        · intro e
          rw [hod] at e
          have : dsts.contains (some s) = true := by
            rw [List.contains_iff_mem]
            rw [List.getD_eq_getElem?_getD] at e
            cases h2 : dsts[i]? with
            | none => rw [h2] at e; cases e
            | some y => rw [h2] at e; simp at e; subst e; exact List.mem_of_getElem? h2
          rw [hs] at this; cases this
      · intro j d hj hd hlj
        rw [hlset j false (by omega)] at hlj
        rw [hput]
        rw [curSame j hj (notStore_ne hns j)]
        by_cases e : i = j
        · subst e
          rw [if_pos (by rw [hod]; exact hd)]
          rcases storeCheck_spec S i hi with ⟨g1, _⟩ | ⟨q, f2, g1, g2, g3, g4, g5, _⟩
          · rw [curF_none g1]; exact hp
          · rw [curF_some g1, if_neg]
            · exact hp
            · intro hq
              obtain ⟨oq, hoq⟩ : ∃ oq, ops[q]? = some oq := ⟨ops[q], Array.getElem?_eq_getElem (by omega)⟩
              have := direct_listed hoq (h.closed q oq hoq hq) g5
              rw [hunf] at this; cases this
        · rw [if_neg e] at hlj
          rw [if_neg (fun e2 => e (distinct_ne C.dis i j d (by rw [← hod]; exact e2) hd))]
          exact FD.st _ hbl (h.fact j d hj hd hlj)
      · intro j d hj haj hd hlj
        rw [hlset j false (by omega)] at hlj
        rw [hput]
        by_cases e : i = j
        · subst e
          rw [if_pos (by rw [hod]; exact hd)]
          obtain ⟨b, h1, h2, h3⟩ := hal haj
          exact ⟨b, h1, Nat.le_trans h.below.size h2, h3⟩
        · rw [if_neg e] at hlj
          rw [if_neg (fun e2 => e (distinct_ne C.dis i j d (by rw [← hod]; exact e2) hd))]
          obtain ⟨b, h1, h2, h3⟩ := h.fresh j d hj haj hd hlj
          exact ⟨b, h1, h2, Nat.lt_of_lt_of_le h3 hbel.size⟩
      · intro j k d e hj hk hjk aj ak hd he lj lk
        rw [hlset j false (by omega)] at lj
        rw [hlset k false (by omega)] at lk
        rw [hput, hput]
        by_cases e1 : i = j
        · subst e1
          rw [if_neg hjk] at lk
          rw [if_pos (by rw [hod]; exact hd), if_neg (fun e2 => hjk (distinct_ne C.dis i k e (by rw [← hod]; exact e2) he))]
          obtain ⟨b, h1, h2, h3⟩ := hal aj
          obtain ⟨c, g1, g2, g3⟩ := h.fresh k e hk ak he lk
          rw [h1, g1]
          intro e3
          injection e3 with e3; injection e3 with e3; injection e3 with e3
          omega
        · rw [if_neg e1] at lj
          rw [if_neg (fun e2 => e1 (distinct_ne C.dis i j d (by rw [← hod]; exact e2) hd))]
          by_cases e2 : i = k
          · subst e2
            rw [if_pos (by rw [hod]; exact he)]
            obtain ⟨b, h1, h2, h3⟩ := hal ak
            obtain ⟨c, g1, g2, g3⟩ := h.fresh j d hj aj hd lj
            rw [h1, g1]
            intro e3
            injection e3 with e3; injection e3 with e3; injection e3 with e3
            omega
          · rw [if_neg e2] at lk
            rw [if_neg (fun e3 => e2 (distinct_ne C.dis i k e (by rw [← hod]; exact e3) he))]
            exact h.apart j k d e hj hk hjk aj ak hd he lj lk
  · -- a store
    have hjm : j < m := by
      rcases Nat.lt_or_ge j m with g | g
      · exact g
      · rw [List.getD_eq_getElem?_getD, List.getElem?_eq_none (by rw [C.ld]; exact g)] at hj; cases hj
    obtain ⟨q, f2, g1, haj, g3, g4, g5, g6, g7, g8, g9⟩ := (storeCheck_spec S j hjm).resolve_left (fun e => by rw [e.1] at h2; cases h2)
    rw [h2] at g1
    injection g1 with g1
    injection g1 with g1 g1'
    subst g1 g1'
    have hlj : l.getD j false = true := direct_listed ho hdeps g5
    have hcur : curF posts posts2 l j = .box t n D0 := by rw [curF_some h2, hunf, ← h1]; rfl
    have hf := h.fact j p hjm hj hlj
    rw [hcur] at hf
    obtain ⟨b, cs0, e1, hB, hlt, hrow, hsz, hD0⟩ := hf
    have hxv := hx a w B (Fct.of_all fun x hx => by
      obtain ⟨r, hr, rfl⟩ := List.mem_map.1 hx
      exact needs r hr)
    obtain ⟨cs, e2, hn, hone, hpl⟩ := s1 _ _ _ hxv
    obtain ⟨cs1, e3, hn1, hone1, hpl1⟩ := s0 _ _ _ hD0
    injection e3 with e3
    subst e3
    have hrun : (storeVar t ⟨b, 0, none⟩ (.agg cs)).run P w = .ok () (w.setRow b cs) := run_storeVar_row w b t t cs0 cs hrow (by rw [T.size, hn]) (by omega) hone
    have hmv : Mv w B (w.setRow b cs) B := Mv.setRow hB hrow hpl1
    have hsame : ∀ k, k ≠ b → (w.setRow b cs).heap[k]? = w.heap[k]? := fun k hk => by simp [World.setRow, Array.getElem?_modify, Ne.symm hk]
    have hs : (w.setRow b cs).heap.size = w.heap.size := by simp [World.setRow]
    have hD1 : D.p (.agg cs) w B := by rw [← e2]; exact hxv
    obtain ⟨b', e1', hb0, hb1⟩ := h.fresh j p hjm haj hj hlj
    rw [e1] at e1'
    injection e1' with e1'; injection e1' with e1'; injection e1' with e1'
    subst e1'
    unfold wpOp
    simp only [ho]
    rw [if_pos (by simp [Region.wanted])]
    refine .inl ?_
    unfold Oper.wp
    have hr2 : (execOp a.eval ⟨none, .store t (.tmp p) x, ty, pos, af, none⟩).run P w = .ok .skip (w.setRow b cs) := by
      have e4 : a.eval (.tmp p) = .pointer (some ⟨b, 0, none⟩) := e1
      simp only [execOp, e4, e2, Instr.storeAt, Instr.sureAddr, Sem.run_bind, Sem.run_pure, Result.andThen_ok, hrun]
    rw [hr2]
    show ∃ B', Mid3 md ops m dsts posts posts2 als base w0 B0 (l.setIfInBounds i true) a (w.setRow b cs) B'
    have hnone : dsts.getD i none = none := g4
    refine ⟨B, by rw [Array.size_setIfInBounds]; exact h.size, hclosed, h.defers, h.tsize, h.rest, fun k d hk hd hlk => ?_, fun k d hk hak hd hlk => ?_, fun k q d e hk hq hkq ak aq hd he lk lq => ?_, ?_, ?_, fun k hk => by rw [hs]; exact h.own k hk⟩
    · have hik : i ≠ k := by rintro rfl; rw [hnone] at hd; cases hd
      rw [hlset k false (by omega), if_neg hik] at hlk
      by_cases ekj : k = j
      · subst ekj
        rw [hj] at hd
        injection hd with hd
        subst hd
        rw [curF_some h2, hlset i false (by omega), if_pos rfl, if_pos rfl]
        exact ⟨b, cs, e1, hB, by rw [hs]; exact hlt, setRow_heap w b cs0 cs t (0, 0) hrow, hn, D.st _ _ _ _ _ hmv hD1⟩
      · have hcs : curF posts posts2 (l.setIfInBounds i true) k = curF posts posts2 l k := by
          exact curSame k hk fun f e => g9 k f hk ekj e
        rw [hcs]
        have hfk := h.fact k d hk hd hlk
        have hxk : ∀ f, curF posts posts2 l k = f → f.p (a.tmps.getD d undef) w B → f.p (a.tmps.getD d undef) (w.setRow b cs) B := by
          intro f hfeq hp2
          cases f with
          | val E => exact E.st _ _ _ _ _ hmv hp2
          | box t2 n2 E =>
            have hak : als.getD k false = true := by
              rcases storeCheck_spec S k hk with ⟨q1, q2⟩ | ⟨z, f3, q1, q2, _⟩
              · rw [curF_none q1] at hfeq; exact q2 _ _ _ hfeq
              · exact q2
            obtain ⟨c, cs2, k1, k2, k3, k4, k5, k6⟩ := hp2
            have hne : c ≠ b := by
              rintro rfl
              exact h.apart k j d p hk hjm ekj hak haj hd hj hlk hlj (k1.trans e1.symm)
            exact ⟨c, cs2, k1, k2, by rw [hs]; exact k3, (hsame c hne).trans k4, k5, E.st _ _ _ _ _ hmv k6⟩
          | ptr t2 n2 E off =>
            obtain ⟨c, cs2, k1, k2, k3, k4, k5, k6⟩ := hp2
            have hne : c ≠ b := by
              rintro rfl
              rw [hrow] at k4
              injection k4 with k4
              injection k4 with _ k4
              have htt : FD.notPtr t (.ptr t2 n2 E off) = true := by
                rcases storeCheck_spec S k hk with ⟨q1, q2⟩ | ⟨z, f3, q1, q2, q3, q4, q5, q6⟩
                · rw [curF_none q1, List.getD_eq_getElem?_getD] at hfeq
                  cases hm : posts[k]? with
                  | none => rw [hm] at hfeq; cases hfeq
                  | some y =>
                    rw [hm] at hfeq
                    simp only [Option.getD_some] at hfeq
                    subst hfeq
                    exact List.all_eq_true.1 hnp _ (List.mem_of_getElem? hm)
                · exfalso
                  obtain ⟨q6, q7, q8, _⟩ := q6
                  rw [curF_some q1] at hfeq
                  split at hfeq
                  · rw [hfeq] at q7; cases q7
                  · rw [hfeq] at q8; cases q8
              exact (of_decide_eq_true htt) k4.symm
            exact ⟨c, cs2, k1, k2, by rw [hs]; exact k3, (hsame c hne).trans k4, k5, E.st _ _ _ _ _ hmv k6⟩
        exact hxk _ rfl hfk
    · have hik : i ≠ k := by rintro rfl; rw [hnone] at hd; cases hd
      rw [hlset k false (by omega), if_neg hik] at hlk
      rw [hs]
      exact h.fresh k d hk hak hd hlk
    · have hik : i ≠ k := by rintro rfl; rw [hnone] at hd; cases hd
      have hiq : i ≠ q := by rintro rfl; rw [hnone] at he; cases he
      rw [hlset k false (by omega), if_neg hik] at lk
      rw [hlset q false (by omega), if_neg hiq] at lq
      exact h.apart k q d e hk hq hkq ak aq hd he lk lq
    · refine ⟨by rw [hs]; exact h.bl.size, fun k hk => ?_, h.bl.box⟩
      rw [hsame k (by omega)]
      exact h.bl.same k hk
    · refine ⟨h.below.os, h.below.tape, h.below.output, by rw [hs]; exact h.below.size, fun k hk => ?_⟩
      rw [hsame k (by omega)]
      exact h.below.block k hk
theorem Mid3.done (C : FlowOk true md ops m N dsts pres bxs refs outs als) (hpre : pre.map Prod.fst = pres) {w00 : World} {B00 : Bx} (H : St N w00 B00 base w0 B0 pre bxs) {out : List (Tmp × FD)} {nb : List Tmp} (hnb : newBx dsts als = nb)
    {l : Array Bool} {a : Act} {w : World} {B : Bx} (h : Mid3 md ops m dsts posts posts2 als base w0 B0 l a w B) (hl : ∀ i, i < m → l.getD i false = true)
    (hout : outs.map (lookR dsts ((List.range m).map fun j => match posts2.getD j none with
      | some (_, f) => f
      | none => posts.getD j (.val VP.top)) pre) = out) (S : storeCheck m dsts refs outs als posts posts2 md ops = true) : St N w00 B00 a w B out (nb ++ bxs) := by
  have h2 : Mid2 md ops m dsts ((List.range m).map fun j => match posts2.getD j none with
      | some (_, f) => f
      | none => posts.getD j (.val VP.top)) als base w0 B0 (coreFull ops.size m) a w B := by
    have full : ∀ i, i < m → i < ops.size → (coreFull ops.size m).getD i false = true := fun i hi hs => by simp [coreFull, Array.getD_eq_getD_getElem?, hs, hi]
    have lt : ∀ i, (coreFull ops.size m).getD i false = true → i < m := by
      intro i hi
      rw [Array.getD_eq_getD_getElem?] at hi
      unfold coreFull at hi
      rw [List.getElem?_toArray, List.getElem?_map] at hi
      cases hr : (List.range ops.size)[i]? with
      | none => rw [hr] at hi; cases hi
      | some x =>
        rw [hr] at hi
        obtain ⟨hlt, he⟩ := List.getElem?_eq_some_iff.1 hr
        rw [List.getElem_range] at he
        subst he
        simpa using hi
    refine ⟨by simp [coreFull], fun j hj hs => by simp [coreFull, Array.getD_eq_getD_getElem?, hs]; omega, fun j o ho hlj e he hb => ?_, h.defers, h.tsize, h.rest, fun i d hi hd hli => ?_, fun i d hi hai hd hli => h.fresh i d hi hai hd (hl i hi), fun i j d e hi hj hij ai aj hd he li lj => h.apart i j d e hi hj hij ai aj hd he (hl i hi) (hl j hj), h.bl, h.below, h.own⟩
    · have hjm := lt j hlj
      have := h.closed j o ho (hl j hjm) e he hb
      have hsz : e.on < ops.size := by
        rcases Nat.lt_or_ge e.on l.size with g | g
        · rw [← h.size]; exact g
        · rw [Array.getD_eq_getD_getElem?, Array.getElem?_eq_none g] at this; cases this
      have hc := C.core
      unfold coreOk1 at hc
      rw [Bool.and_eq_true, List.all_eq_true] at hc
      have hoj := hc.2 j (List.mem_range.2 (Array.getElem?_eq_some_iff.1 ho).1)
      rw [ho] at hoj
      simp only [hjm, if_true] at hoj
      have h3 := Array.all_eq_true_iff_forall_mem.1 hoj e he
      have h4 : e.on < j := by simpa [hb] using h3
      exact full e.on (by omega) hsz
    · have := h.fact i d hi hd (hl i hi)
      have e : (((List.range m).map fun j => match posts2.getD j none with
        | some (_, f) => f
        | none => posts.getD j (.val VP.top)).getD i (.val VP.top)) = curF posts posts2 l i := by
        rw [List.getD_eq_getElem?_getD, List.getElem?_map, List.getElem?_range hi]
        simp only [Option.map_some, Option.getD_some]
        rcases storeCheck_spec S i hi with ⟨g1, _⟩ | ⟨q, f, g1, g2, g3, _⟩
        · rw [curF_none g1, g1]
        · rw [curF_some g1, g1, hl q g3]; rfl
      rw [e]
      exact this
  refine Mid2.done C hpre H hout hnb h2 fun i hi => ?_
  have hs : i < ops.size := by
    have hc := C.core
    unfold coreOk1 at hc
    rw [Bool.and_eq_true, decide_eq_true_eq] at hc
    omega
  simp [coreFull, Array.getD_eq_getD_getElem?, hs, hi]
end

end
end Go.Proofs.YtoimhjcpeifegaaGreatDoor


/- Patterns of bits as numbers: plain facts, no program. -/
namespace Go.Proofs.YtoimhjcpeifegaaGreatDoor

/-- The size z of a pattern as a number of least steps (F digits of fraction). -/
def numN (F z : Nat) : Nat := if z < 2 ^ F then z else (2 ^ F + z % 2 ^ F) * 2 ^ (z / 2 ^ F - 1)

theorem numN_at (F d k : Nat) (h1 : d = 0 ∨ 2 ^ F ≤ k) (h2 : k ≤ 2 ^ (F + 1)) : numN F (d * 2 ^ F + k) = k * 2 ^ d := by
  have hP := Nat.two_pow_pos F
  rw [Nat.pow_succ] at h2
  unfold numN
  rcases Nat.lt_or_ge k (2 ^ F) with hk | hk
  · have hd : d = 0 := by omega
    subst hd
    rw [Nat.zero_mul, Nat.zero_add, if_pos hk]
    simp
  · rw [if_neg (by have := Nat.le_add_left k (d * 2 ^ F); omega)]
    rcases Nat.lt_or_ge k (2 ^ F * 2) with hk2 | hk2
    · have e : d * 2 ^ F + k = (k - 2 ^ F) + 2 ^ F * (d + 1) := by rw [Nat.mul_add, Nat.mul_comm d]; omega
      rw [e, Nat.add_mul_mod_self_left, Nat.add_mul_div_left _ _ hP, Nat.mod_eq_of_lt (by omega), Nat.div_eq_of_lt (by omega), Nat.zero_add, Nat.add_sub_cancel, Nat.add_sub_cancel' hk]
    · have hk3 : k = 2 ^ F * 2 := by omega
      have e : d * 2 ^ F + k = 0 + 2 ^ F * (d + 2) := by rw [Nat.mul_add, Nat.mul_comm d]; omega
      rw [e, Nat.add_mul_mod_self_left, Nat.add_mul_div_left _ _ hP, Nat.zero_mod, Nat.zero_div, Nat.zero_add, hk3, show d + 2 - 1 = d + 1 by omega, Nat.pow_succ, Nat.add_zero]
      rw [Nat.mul_assoc, Nat.mul_comm 2]

/-- Every size in that form. -/
theorem size_form (F z : Nat) : ∃ d k, z = d * 2 ^ F + k ∧ (d = 0 ∨ 2 ^ F ≤ k) ∧ k < 2 ^ (F + 1) := by
  have hP := Nat.two_pow_pos F
  rcases Nat.lt_or_ge z (2 ^ F) with h | h
  · exact ⟨0, z, by omega, .inl rfl, by rw [Nat.pow_succ]; omega⟩
  · refine ⟨z / 2 ^ F - 1, 2 ^ F + z % 2 ^ F, ?_, .inr (Nat.le_add_right _ _), ?_⟩
    · have h1 := Nat.div_add_mod z (2 ^ F)
      have h2 : 1 ≤ z / 2 ^ F := (Nat.le_div_iff_mul_le hP).2 (by omega)
      obtain ⟨q, hq⟩ : ∃ q, z / 2 ^ F = q + 1 := ⟨z / 2 ^ F - 1, by omega⟩
      rw [hq] at h1 ⊢
      rw [Nat.mul_add] at h1
      rw [Nat.add_sub_cancel, Nat.mul_comm q]
      omega
    · have := Nat.mod_lt z hP
      rw [Nat.pow_succ]
      omega

theorem numN_succ (F z : Nat) : ∃ d k, z = d * 2 ^ F + k ∧ (d = 0 ∨ 2 ^ F ≤ k) ∧ k < 2 ^ (F + 1) ∧ numN F z = k * 2 ^ d ∧ numN F (z + 1) = (k + 1) * 2 ^ d := by
  obtain ⟨d, k, rfl, h1, h2⟩ := size_form F z
  exact ⟨d, k, rfl, h1, h2, numN_at F d k h1 (by omega), by rw [Nat.add_assoc]; exact numN_at F d (k + 1) (by omega) (by omega)⟩

theorem numN_lt_succ (F z : Nat) : numN F z < numN F (z + 1) := by
  obtain ⟨d, k, -, -, -, e1, e2⟩ := numN_succ F z
  rw [e1, e2]
  exact Nat.mul_lt_mul_of_pos_right (by omega) (Nat.two_pow_pos d)

theorem numN_mono (F : Nat) {a b : Nat} (h : a ≤ b) : numN F a ≤ numN F b := by
  induction h with
  | refl => exact Nat.le_refl _
  | step _ ih => exact Nat.le_of_lt (Nat.lt_of_le_of_lt ih (numN_lt_succ F _))

/-- r is the size of the nearest pattern to X; U: the least step; I: the first size that is no finite one's. -/
def Nearest (F I U X r : Nat) : Prop :=
  ∃ low, low ≤ I ∧ numN F low * U ≤ X ∧ (low < I → X < numN F (low + 1) * U) ∧
    r = if low = I then I else if (numN F low + numN F (low + 1)) * U < 2 * X ∨ (2 * X = (numN F low + numN F (low + 1)) * U ∧ low % 2 = 1) then low + 1 else low

theorem low_unique (F I U X a b : Nat) (ha : a ≤ I) (hb : b ≤ I) (a1 : numN F a * U ≤ X) (a2 : a < I → X < numN F (a + 1) * U) (b1 : numN F b * U ≤ X) (b2 : b < I → X < numN F (b + 1) * U) : a = b := by
  rcases Nat.lt_trichotomy a b with h | h | h
  · exfalso
    have := a2 (by omega)
    have m := Nat.mul_le_mul_right U (numN_mono F (show a + 1 ≤ b from h))
    omega
  · exact h
  · exfalso
    have := b2 (by omega)
    have m := Nat.mul_le_mul_right U (numN_mono F (show b + 1 ≤ a from h))
    omega

theorem Nearest.unique {F I U X r s : Nat} (h : Nearest F I U X r) (k : Nearest F I U X s) : r = s := by
  obtain ⟨a, a0, a1, a2, rfl⟩ := h
  obtain ⟨b, b0, b1, b2, rfl⟩ := k
  obtain rfl := low_unique F I U X a b a0 b0 a1 a2 b1 b2
  rfl

/-- The direct way: so many digits, cut, and rounded. W: 2^d steps. -/
theorem nearest_direct (F I U X d k : Nat) (hk : k = X / (2 ^ d * U)) (hU : 0 < U) (h1 : d = 0 ∨ 2 ^ F ≤ k) (h2 : k < 2 ^ (F + 1)) (hI : d * 2 ^ F + k < I) (hF : d = 0 ∨ 0 < F) :
    Nearest F I U X (d * 2 ^ F + (if 2 ^ d * U < 2 * (X % (2 ^ d * U)) ∨ (2 * (X % (2 ^ d * U)) = 2 ^ d * U ∧ k % 2 = 1) then k + 1 else k)) := by
  have hW : 0 < 2 ^ d * U := Nat.mul_pos (Nat.two_pow_pos d) hU
  have hX := Nat.div_add_mod X (2 ^ d * U)
  have hr := Nat.mod_lt X hW
  rw [← hk] at hX
  have n1 := numN_at F d k h1 (by omega)
  have n2 := numN_at F d (k + 1) (by omega) (by omega)
  have e1 : k * 2 ^ d * U = 2 ^ d * U * k := by rw [Nat.mul_assoc, Nat.mul_comm]
  have e2 : (k + 1) * 2 ^ d * U = 2 ^ d * U * k + 2 ^ d * U := by rw [Nat.mul_assoc, Nat.mul_comm, Nat.mul_add, Nat.mul_one]
  refine ⟨d * 2 ^ F + k, Nat.le_of_lt hI, by rw [n1, e1]; omega, fun _ => by rw [Nat.add_assoc, n2, e2]; omega, ?_⟩
  rw [if_neg (Nat.ne_of_lt hI), Nat.add_assoc (d * 2 ^ F), n1, n2, Nat.add_mul, e1, e2]
  have par : (d * 2 ^ F + k) % 2 = k % 2 := by
    rcases hF with h | h
    · subst h; simp
    · obtain ⟨f, rfl⟩ : ∃ f, F = f + 1 := ⟨F - 1, by omega⟩
      rw [Nat.pow_succ, ← Nat.mul_assoc]
      omega
  rw [par]
  have i1 : (2 ^ d * U * k + (2 ^ d * U * k + 2 ^ d * U) < 2 * X) ↔ 2 ^ d * U < 2 * (X % (2 ^ d * U)) := by omega
  have i2 : (2 * X = 2 ^ d * U * k + (2 ^ d * U * k + 2 ^ d * U)) ↔ 2 * (X % (2 ^ d * U)) = 2 ^ d * U := by omega
  simp only [i1, i2]
  split <;> rfl

/-- Too great. -/
theorem nearest_inf (F I U X : Nat) (h : numN F I * U ≤ X) : Nearest F I U X I := ⟨I, Nat.le_refl _, h, fun h => absurd h (Nat.lt_irrefl _), by rw [if_pos rfl]⟩

/-- Less than a half of the least step. -/
theorem nearest_zero (F I U X : Nat) (hI : 0 < I) (h : 2 * X < U) : Nearest F I U X 0 := by
  have n0 : numN F 0 = 0 := by
    unfold numN
    rw [if_pos (Nat.two_pow_pos F)]
  have n1 : numN F 1 = 1 := by
    have := numN_at F 0 1 (.inl rfl) (Nat.one_le_two_pow)
    simpa using this
  refine ⟨0, Nat.zero_le _, by rw [n0]; omega, fun _ => by rw [Nat.zero_add, n1]; omega, ?_⟩
  rw [if_neg (by omega), Nat.zero_add, n0, n1, if_neg (by omega)]
end Go.Proofs.YtoimhjcpeifegaaGreatDoor


/- nat.Uint: the number, if it is below 2 to the 64. -/
namespace Go.Proofs.YtoimhjcpeifegaaGreatDoor
open Go.RowKit

theorem fits_len (xs : List Int) (dx : Dig 4294967296 xs) : (norm xs).length ≤ 2 ↔ val 4294967296 xs < 18446744073709551616 := by
  have h0 := val_nonneg (b := 4294967296) (by omega) dx
  have e := norm_eq 4294967296 (by omega) dx
  rw [e]
  have := dg_len_iff 4294967296 (by omega) 2 (val 4294967296 xs) h0
  simpa using this

theorem or_up (l h : Int) (hl : 0 ≤ l ∧ l < 4294967296) (hh : 0 ≤ h ∧ h < 4294967296) : bits .or .u64 l (h * 4294967296) = l + h * 4294967296 := by
  obtain ⟨h, rfl⟩ := Int.eq_ofNat_of_zero_le hh.1
  obtain ⟨l, rfl⟩ := Int.eq_ofNat_of_zero_le hl.1
  have e : ((h : Int) * 4294967296) = ((h * 4294967296 : Nat) : Int) := by simp
  rw [e, bits_or_u64_nat _ _ (by omega) (by omega), Nat.or_comm, nat_join 32 _ _ (by omega) (by omega)]
  omega
theorem or_zero64 (l : Int) (hl : 0 ≤ l ∧ l < 4294967296) : bits .or .u64 0 l = l := by
  obtain ⟨l, rfl⟩ := Int.eq_ofNat_of_zero_le hl.1
  have := bits_or_u64_nat 0 l (by omega) (by omega)
  simpa using this

set_option maxHeartbeats 400000 in
theorem uint_calls (ad : Option Addr) (n c : Nat) (la : List Int) (w : World) (hn : n ≤ 9223372036854775807) (hnc : n ≤ c) (hr : Rds w .u32 ad n la) (da : Dig 4294967296 la) :
    Calls Tryz.prog 122 #[.slice ad n c] w fun e w' => e = .returned (.tuple #[.int .u64 (low64 (val 4294967296 la)), .bool (fits64 (val 4294967296 la))]) ∧ w = w' := by
  have hc := Lib.hid (cut_calls ad n c la w (by omega) hnc hr)
  have rx := hr.norm
  have dx := norm_dig da
  have hF := fits_len la da
  have hma := norm_length_le la
  rw [hr.len] at hma
  rw [← val_norm 4294967296 la] at hF ⊢
  clear hr da
  generalize norm la = xs at *
  obtain ⟨m, hm⟩ : ∃ m, xs.length = m := ⟨_, rfl⟩
  rw [hm] at hc rx hF hma
  have HM := Lib.hid hm
  clear hm
  by_cases h2 : m ≤ 2
  · have HV := Lib.hid (hF.1 h2)
    have HL := Lib.hid (show low64 (val 4294967296 xs) = val 4294967296 xs by unfold low64; rw [if_pos HV.out])
    have HB := Lib.hid (show fits64 (val 4294967296 xs) = true from decide_eq_true HV.out)
    clear hF
    go_enter Tryz.func122, Tryz.ntmps122
    go_wp2_with fail
    refine (hc.out).mono ?_
    rintro e w' ⟨rfl, rfl⟩
    go_wp2_with fail
    go_loop [13, 4] (fun i acc => ∃ k : Nat, k ≤ m ∧ i = .int .i64 k ∧ acc = .int .u64 (val 4294967296 (xs.take k))) (fun i _ => m - (intOf i).toNat)
    case atStart => exact ⟨0, Nat.zero_le _, rfl, by simp [val]⟩
    case round =>
      obtain ⟨k, hk, rfl, rfl⟩ := hrel
      by_cases hkm : k < m
      · obtain ⟨a, rfl, hxl⟩ := rx.cell k hkm
        have bx := dx.get (by omega) k
        have hs := Lib.hid (val_take_succ' 4294967296 xs k)
        have b0 := val_nonneg (b := 4294967296) (by omega) (dx.take k)
        have b1 := val_lt (b := 4294967296) (by omega) (dx.take k)
        rw [List.length_take, HM.out, Nat.min_eq_left (by omega)] at b1
        generalize xs[k]?.getD 0 = x at *
        rcases (show k = 0 ∨ k = 1 by omega) with rfl | rfl
        · have B := or_zero64 x bx
          have hxl' : w.cell? a = some (.int .u32 x) := by simpa [Addr.add] using hxl
          have HS := Lib.hid (show val 4294967296 (xs.take (0 + 1)) = x by rw [hs.out]; simp [val])
          rw [show val 4294967296 (xs.take 0) = 0 by simp [val]]
          clear b0 b1 hs
          go_wp2
          go_round
          case rel => exact ⟨0 + 1, by omega, rfl, by rw [HS.out]⟩
          case measure => simp [intOf]; omega
        · simp only [Int.pow_one] at b1 hs
          have B := or_up (val 4294967296 (xs.take 1)) x ⟨b0, b1⟩ bx
          have hxl' : w.cell? ⟨a.block, a.off + 1, none⟩ = some (.int .u32 x) := by simpa [Addr.add] using hxl
          have HS := Lib.hid (show val 4294967296 (xs.take (1 + 1)) = val 4294967296 (xs.take 1) + x * 4294967296 by rw [hs.out, Int.mul_comm x])
          clear hs
          generalize val 4294967296 (xs.take 1) = v at *
          go_wp2
          go_round
          case rel => exact ⟨1 + 1, by omega, rfl, by rw [HS.out]⟩
          case measure => simp [intOf]; omega
      · obtain rfl : k = m := by omega
        have HT := Lib.hid (show val 4294967296 (xs.take k) = val 4294967296 xs by rw [← HM.out, List.take_length])
        go_wp2
        go_ret2
        rw [HL.out, HB.out, ← HT.out]
        exact ⟨rfl, rfl⟩
  · have HV := Lib.hid (fun h => h2 (hF.2 h))
    have HL := Lib.hid (show low64 (val 4294967296 xs) = 0 by unfold low64; rw [if_neg HV.out])
    have HB := Lib.hid (show fits64 (val 4294967296 xs) = false from decide_eq_false HV.out)
    clear hF
    have h3 : (2 : Int) < (m : Int) := by omega
    go_enter Tryz.func122, Tryz.ntmps122
    go_wp2_with fail
    refine (hc.out).mono ?_
    rintro e w' ⟨rfl, rfl⟩
    go_wp2
    go_ret2
    rw [HL.out, HB.out]
    exact ⟨rfl, rfl⟩
end Go.Proofs.YtoimhjcpeifegaaGreatDoor


/- cruciblelaw01: BeyondNat, LeftNat. -/
namespace Go.Proofs.YtoimhjcpeifegaaGreatDoor
open Go.RowKit



/-- The numbers of places of so many lists, each one more. -/
def parts : List Nat → Nat
  | [] => 0
  | n :: l => n + 1 + parts l

end Go.Proofs.YtoimhjcpeifegaaGreatDoor


/- Norm by worth alone. -/
namespace Go.Proofs.YtoimhjcpeifegaaGreatDoor
open Go.RowKit

theorem num_norm (ad : Option Addr) (n c : Nat) (V : Int) (w : World) (h : Num w ad n c V) (hn : n ≤ 70368744177663) :
    Calls Tryz.prog 161 #[.slice ad n c] w (RetC V w) := by
  obtain ⟨xs, h1, h2, rfl⟩ := h.row
  exact (norm_calls ad n c xs w (by omega) h.le h1 h2).mono fun e w' q => q.can
end Go.Proofs.YtoimhjcpeifegaaGreatDoor


/- A block of few cells of the call's own (a struct in memory), known whole. -/
namespace Go.Proofs.YtoimhjcpeifegaaGreatDoor
open Go.RowKit

theorem Num.nonneg {w : World} {ad : Option Addr} {n c : Nat} {V : Int} (h : Num w ad n c V) : 0 ≤ V := by
  obtain ⟨xs, h1, h2, rfl⟩ := h.row
  exact val_nonneg (by omega) h2
theorem Num.lt {w : World} {ad : Option Addr} {n c : Nat} {V : Int} (h : Num w ad n c V) : V < 4294967296 ^ n := by
  obtain ⟨xs, h1, h2, rfl⟩ := h.row
  have := val_lt (by omega) h2
  rwa [h1.len] at this

def Cel (w : World) (b : Nat) (t : TypeId) (cs : List Value) : Prop := w.heap[b]? = some (.cells cs.toArray t (0, 0))
theorem Cel.lt {w : World} {b : Nat} {t : TypeId} {cs : List Value} (h : Cel w b t cs) : b < w.heap.size := (Array.getElem?_eq_some_iff.1 h).1
theorem Cel.cell {w : World} {b : Nat} {t : TypeId} {cs : List Value} (h : Cel w b t cs) (j : Nat) (v : Value) (hj : cs[j]? = some v) : w.cell? ⟨b, j, none⟩ = some v := by
  unfold Cel at h
  simp [World.cell?, h, hj]
theorem Cel.free {w : World} {b : Nat} {t : TypeId} {cs : List Value} (h : Cel w b t cs) (j : Nat) : w.frozen? ⟨b, j, none⟩ = false := by
  unfold Cel at h
  simp [World.frozen?, h]
theorem Cel.set {w : World} {b : Nat} {t : TypeId} {cs : List Value} (h : Cel w b t cs) (j : Nat) (v : Value) : Cel (w.setCell ⟨b, j, none⟩ v) b t (cs.set j v) := by
  unfold Cel at *
  simp only [World.setCell, Array.getElem?_modify, h, if_true, Option.map_some, Option.isSome_none]
  simp
theorem Cel.below {w w1 : World} {b : Nat} {t : TypeId} {cs : List Value} (h : Cel w b t cs) {B : Nat} (hb : Below B w w1) (hB : b < B) : Cel w1 b t cs := (hb.block b hB).trans h
theorem Cel.next {w w1 : World} {b : Nat} {t : TypeId} {cs : List Value} (h : Cel w b t cs) (hb : Below w.heap.size w w1) : Cel w1 b t cs := h.below hb h.lt
theorem Cel.made (w : World) (t : TypeId) (cs : List Value) (b : Nat) (hb : b = w.heap.size) : Cel (w.alloc (.cells cs.toArray t)) b t cs := by
  subst hb
  exact heap_alloc_new w _
theorem Cel.drewN {w : World} {b : Nat} {t : TypeId} {cs : List Value} (h : Cel w b t cs) (n : Nat) : Cel (w.drewN n) b t cs := h
theorem Cel.row {w : World} {b : Nat} {t : TypeId} {cs : List Value} (h : Cel w b t cs) : w.heap[b]? = some (.cells cs.toArray t (0, 0)) := h

/-- A store into a cell that holds no number leaves lists of numbers alone. -/
theorem Rds.poke {w : World} {k : IntKind} {ad : Option Addr} {n : Nat} {xs : List Int} (h : Rds w k ad n xs) (p : Addr) (u v : Value) (hp : w.cell? p = some u) (hu : ∀ x, u ≠ .int k x) : Rds (w.setCell p v) k ad n xs := by
  refine ⟨h.len, fun j hj => ?_⟩
  obtain ⟨a, e, hc⟩ := h.cell j hj
  refine ⟨a, e, ?_⟩
  rw [World.cell?_setCell_other, hc]
  intro e2
  rw [e2, hc] at hp
  injection hp with hp
  exact hu _ hp.symm
theorem Num.poke {w : World} {ad : Option Addr} {n c : Nat} {V : Int} (h : Num w ad n c V) (p : Addr) (u v : Value) (hp : w.cell? p = some u) (hu : ∀ x, u ≠ .int .u32 x) : Num (w.setCell p v) ad n c V := by
  obtain ⟨xs, h1, h2, h3⟩ := h.row
  exact ⟨h.le, xs, h1.poke p u v hp hu, h2, h3⟩
theorem Can.poke {w : World} {ad : Option Addr} {n c : Nat} {V : Int} (h : Can w ad n c V) (p : Addr) (u v : Value) (hp : w.cell? p = some u) (hu : ∀ x, u ≠ .int .u32 x) : Can (w.setCell p v) ad n c V := ⟨h.le, h.rds.poke p u v hp hu⟩
/-- Both cells of a whole number in memory written over. -/
theorem Can.poke2 {w : World} {ad : Option Addr} {n c : Nat} {V : Int} (h : Can w ad n c V) {b : Nat} {t : TypeId} {b0 : Bool} {a0 : Option Addr} {n0 c0 : Nat} (k : Cel w b t [.bool b0, .slice a0 n0 c0]) (v0 v1 : Value) : Can ((w.setCell ⟨b, 0, none⟩ v0).setCell ⟨b, 1, none⟩ v1) ad n c V := by
  refine (h.poke _ _ v0 (k.cell 0 _ rfl) (fun x e => by cases e)).poke _ (.slice a0 n0 c0) v1 ?_ (fun x e => by cases e)
  exact (k.set 0 v0).cell 1 _ rfl
theorem Num.poke2 {w : World} {ad : Option Addr} {n c : Nat} {V : Int} (h : Num w ad n c V) {b : Nat} {t : TypeId} {b0 : Bool} {a0 : Option Addr} {n0 c0 : Nat} (k : Cel w b t [.bool b0, .slice a0 n0 c0]) (v0 v1 : Value) : Num ((w.setCell ⟨b, 0, none⟩ v0).setCell ⟨b, 1, none⟩ v1) ad n c V := by
  refine (h.poke _ _ v0 (k.cell 0 _ rfl) (fun x e => by cases e)).poke _ (.slice a0 n0 c0) v1 ?_ (fun x e => by cases e)
  exact (k.set 0 v0).cell 1 _ rfl
end Go.Proofs.YtoimhjcpeifegaaGreatDoor

