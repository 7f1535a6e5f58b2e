/- Contracts of functions, and plain facts, part 39. -/
import Derived.Test.YtgnophflogmmaaaPk5
import Derived.Test.YtgnophflogmmaaaPk7
import Derived.Test.YtgnophflogmmaaaPk8
import Derived.Test.YtgnophflogmmaaaPk38
set_option linter.unusedVariables false
set_option linter.unusedSimpArgs false
/- A text as bytes of one's own, and what flip makes of them; more operations. -/
namespace Go.Proofs.Ytgnophflogmmaaa
open Go Go.RowKit

/-- The first cells of block b read as xs; they may be written upon (what lies behind may be frozen). -/
def RowF (w : World) (b : Nat) (k : IntKind) (xs : List Int) : Prop := ∃ cs t lo hi, w.heap[b]? = some (.cells cs t (lo, hi)) ∧ xs.length ≤ cs.size ∧ (∀ j, j < xs.length → cs[j]? = some (.int k (xs[j]?.getD 0))) ∧ ∀ j, j < xs.length → ¬ (lo ≤ j ∧ j < hi)
theorem RowF.lt {w : World} {b : Nat} {k : IntKind} {xs : List Int} (h : RowF w b k xs) : b < w.heap.size := by
  obtain ⟨cs, t, lo, hi, h1, _⟩ := h
  exact (Array.getElem?_eq_some_iff.1 h1).1
theorem RowF.cell {w : World} {b : Nat} {k : IntKind} {xs : List Int} (h : RowF w b k xs) (j : Nat) (hj : j < xs.length) : w.cell? ⟨b, j, none⟩ = some (.int k (xs[j]?.getD 0)) := by
  obtain ⟨cs, t, lo, hi, h1, _, h3, _⟩ := h
  simp [World.cell?, h1, h3 j hj]
theorem RowF.free {w : World} {b : Nat} {k : IntKind} {xs : List Int} (h : RowF w b k xs) (j : Nat) (hj : j < xs.length) : w.frozen? ⟨b, j, none⟩ = false := by
  obtain ⟨cs, t, lo, hi, h1, _, _, h4⟩ := h
  have := h4 j hj
  simp [World.frozen?, h1]
  omega
theorem RowF.drew {w : World} {b : Nat} {k : IntKind} {xs : List Int} (h : RowF w b k xs) : RowF w.drew b k xs := h
theorem RowF.drewN {w : World} {b : Nat} {k : IntKind} {xs : List Int} (h : RowF w b k xs) (n : Nat) : RowF (w.drewN n) b k xs := h
theorem RowF.set {w : World} {b : Nat} {k : IntKind} {xs : List Int} (h : RowF w b k xs) (j : Nat) (x : Int) : RowF (w.setCell ⟨b, j, none⟩ (.int k x)) b k (xs.set j x) := by
  obtain ⟨cs, t, lo, hi, h1, h2, h3, h4⟩ := h
  refine ⟨cs.setIfInBounds j (.int k x), t, lo, hi, ?_, by simpa using h2, fun i hi2 => ?_, fun i hi2 => h4 i (by simpa using hi2)⟩
  · simp only [World.setCell, Array.getElem?_modify, h1, if_true, Option.map_some, Option.isSome_none]
    simp
  · rw [List.length_set] at hi2
    rw [Array.getElem?_setIfInBounds, List.getElem?_set]
    by_cases e : j = i
    · subst e
      rw [if_pos rfl, if_pos (by omega), if_pos rfl, if_pos hi2]
      rfl
    · rw [if_neg e, if_neg e]
      exact h3 i hi2
theorem RowF.kept {w w1 : World} {b : Nat} {k : IntKind} {xs : List Int} (h : RowF w b k xs) (hk : w1.heap[b]? = w.heap[b]?) : RowF w1 b k xs := by
  obtain ⟨cs, t, lo, hi, h1, h2⟩ := h
  exact ⟨cs, t, lo, hi, hk.trans h1, h2⟩
theorem RowF.rds {w : World} {b : Nat} {k : IntKind} {xs : List Int} (h : RowF w b k xs) : Rds w k (some ⟨b, 0, none⟩) xs.length xs :=
  ⟨rfl, fun j hj => ⟨_, rfl, by rw [plain_add]; exact h.cell j hj⟩⟩

set_option maxHeartbeats 1000000 in
theorem flipF_calls (b n c : Nat) (xs : List Int) (w : World) (hn : n ≤ 140737488355328) (hnc : n ≤ c) (hx : RowF w b .u8 xs) (hd : Dig 256 xs) (hl : xs.length = n) :
    Calls Try.prog 63 #[.slice (some ⟨b, 0, none⟩) n c] w (fun e w' => e = .returned (.tuple #[]) ∧ RowF w' b .u8 (flipB xs) ∧ Only b w w') := by
  have HL := Lib.hid hl
  have HD := Lib.hid hd
  have HI := Lib.hid (FlipI.start xs)
  obtain ⟨res, hres⟩ : ∃ r, r = flipB xs := ⟨_, rfl⟩
  rw [← hres]
  have HRES := Lib.hid hres
  clear hl hd hres
  go_enter Try.func63, Try.ntmps63
  go_wp2
  go_loopw [2, 3] (fun cv i wr => ∃ (r k : Nat) (cy : Int) (X : List Int), cv = .int .u8 cy ∧ i = .int .i64 ((r : Int) - 1) ∧ Hid (k + r = n) ∧ r ≤ n ∧ Hid (FlipI xs X k cy) ∧ RowF wr b .u8 X ∧ Only b w wr) (fun _ i _ => ((intOf i) + 1).toNat)
  case atStart => exact ⟨n, 0, 1, xs, rfl, rfl, Lib.hid (by omega), Nat.le_refl _, HI, hx, Only.refl _ _⟩
  case round =>
    clear hx HI
    obtain ⟨r, k, cy, X, rfl, rfl, hkr, hrn, hI, hr, ho⟩ := hrel
    rcases r with _ | r
    · have hX : Hid (X = res) := Lib.hid (by
        have := hI.out
        rw [show k = xs.length by have := hkr.out; have := HL.out; omega] at this
        rw [HRES.out]
        exact this.end)
      go_wp2
      go_end0
      exact ⟨rfl, by rw [← hX.out]; exact hr, ho⟩
    · obtain ⟨q1, q2⟩ := hI.out.step (r := r) (by have := hkr.out; have := HL.out; omega)
      have hXl : X.length = n := by rw [hI.out.length (by have := hkr.out; have := HL.out; omega), HL.out]
      have cm := hr.cell r (by omega)
      have fm := hr.free r (by omega)
      have hcy := hI.out.bd
      have bx := HD.out.get (by omega) r
      rw [q1] at cm
      clear hXl q1
      generalize xs[r]?.getD 0 = x at *
      have X1 : bits .xor .u8 (if IntKind.u8.signed = true then -1 else IntKind.u8.max) x = 255 - x := xor_u8 x bx
      obtain ⟨v, hv⟩ : ∃ v, (255 - x + cy) % 256 = v := ⟨_, rfl⟩
      rw [hv] at q2
      have W1 : (255 - x + cy) % 256 = v := hv
      have W2 : IntKind.u8.wrap (255 - x + cy) = v := by rw [← hv]; simp [IntKind.wrap, IntKind.bits, IntKind.signed]
      have hvb : 0 ≤ v ∧ v < 256 := by omega
      have e1 : (((r + 1 : Nat) : Int) - 1) = (r : Int) := by omega
      have Q2 := Lib.hid q2
      have hkr' := Lib.hid (show k + 1 + r = n by have := hkr.out; omega)
      have R1 := hr.set r v
      have O1 := ho.set r (.int .u8 v)
      rw [e1]
      clear hv q2
      by_cases hv0 : v = 0
      · have hz : (v != 0) = false := by rw [hv0]; rfl
        have Q3 : Hid (FlipI xs (X.set r v) (k + 1) cy) := Lib.hid (by have := Q2.out; rwa [if_pos hv0] at this)
        clear hv0 Q2 hr ho
        go_wp2_with fail
        go_roundw
        case rel => exact ⟨r, k + 1, _, _, rfl, by go_num, hkr', by omega, Q3, R1, O1⟩
        case measure => simp [intOf]
      · have hz : (v != 0) = true := by simpa using hv0
        have Q3 : Hid (FlipI xs (X.set r v) (k + 1) 0) := Lib.hid (by have := Q2.out; rwa [if_neg hv0] at this)
        clear hv0 Q2 hr ho
        go_wp2_with fail
        go_roundw
        case rel => exact ⟨r, k + 1, _, _, rfl, by go_num, hkr', by omega, Q3, R1, O1⟩
        case measure => simp [intOf]


/-! ### In the state -/
def PRw (g m : Nat) (k : IntKind) (xs : List Int) (v : Value) (w : World) (B : Bx) : Prop := Kd k ∧ ¬ B g ∧ m ≤ g ∧ ∃ c, xs.length ≤ c ∧ v = .slice (some ⟨g, 0, none⟩) xs.length c ∧ RowF w g k xs
theorem PRw.st {g m : Nat} {k : IntKind} {xs : List Int} (v : Value) (w : World) (B : Bx) (w' : World) (B' : Bx) (h : Mv w B w' B') (hp : PRw g m k xs v w B) : PRw g m k xs v w' B' := by
  obtain ⟨hk, hb, hm, c, hc, e, r⟩ := hp
  exact ⟨hk, fun h2 => hb (h.box g r.lt h2), hm, c, hc, e, r.kept ((h.same g r.lt).resolve_right fun h2 => hb h2.1)⟩
/-- A row of one's own in block g that is not appended to. -/
def IsRw (g m : Nat) (k : IntKind) (xs : List Int) : VP := ⟨PRw g m k xs, PRw.st⟩
def IsRwN (m : Nat) (k : IntKind) (xs : List Int) : VP := ⟨fun v w B => ∃ g, PRw g m k xs v w B, fun v w B w' B' h ⟨g, hp⟩ => ⟨g, PRw.st v w B w' B' h hp⟩⟩
theorem weakRwL {g m : Nat} {k : IntKind} {xs : List Int} (v : Value) (w : World) (B : Bx) (h : (IsRw g m k xs).p v w B) : (IsL k xs).p v w B := by
  obtain ⟨hk, hb, hm, c, hc, e, r⟩ := h
  exact ⟨hk, _, _, c, e, r.rds⟩
section
variable {P : Program} {need : List (Tmp × FD)} {d : Option Tmp} {ty : TypeId} {pos : String} {af : Array Edge} {g : Option (Nat × Bool)} {x y : Operand}
theorem ok_bytesOf {src dst e : TypeId} {s : ByteArray} {m : Nat} {z : Tmp} (q : Nat) (hs : P.underlying src = some .string) (hd : P.underlying dst = some (.slice e)) (he : P.underlying e = some (.int .u8)) (h : Opd need x (.val (Lit (.string s)))) (hz : need[q]? = some (z, .val (Sz m))) :
    OpOk P ⟨d, .convert src dst x, ty, pos, af, g⟩ need (.val (IsRwN m .u8 (bytesI s))) false := by
  intro Q K a w B hB hF hK
  have e1 : a.eval x = .string s := h a w B hF
  have hm : m ≤ w.heap.size := hF.get q hz
  have hr := run_bytes_of_string (P := P) w src dst e s hs hd he
  have hg := grownCap_ge w s.size 0 e
  have hsz : (bytesRow s (grownCap w s.size 0 e)).size = grownCap w s.size 0 e := by
    have : s.data.size = s.size := rfl
    simp [bytesRow, this]; omega
  have hl := bytesI_length s
  have hbel : Below w.heap.size w (w.drew.alloc (.cells (bytesRow s (grownCap w s.size 0 e)) e ((bytesRow s (grownCap w s.size 0 e)).size, (bytesRow s (grownCap w s.size 0 e)).size + 1))) := (below_drew (Below.refl _ _)).alloc (Nat.le_refl _) _
  have hnew : (w.drew.alloc (.cells (bytesRow s (grownCap w s.size 0 e)) e ((bytesRow s (grownCap w s.size 0 e)).size, (bytesRow s (grownCap w s.size 0 e)).size + 1))).heap[w.heap.size]? = some (.cells (bytesRow s (grownCap w s.size 0 e)) e ((bytesRow s (grownCap w s.size 0 e)).size, (bytesRow s (grownCap w s.size 0 e)).size + 1)) := heap_alloc_new w.drew _
  unfold Oper.wp
  simp only [execOp, e1, Sem.run_bind, hr, Result.andThen_ok, Sem.run_pure]
  refine hK _ _ B ⟨w.heap.size, .inr rfl, fun h2 => by have := hB _ h2; omega, hm, _, by rw [hl]; exact hg, by rw [hl], _, e, _, _, hnew, by rw [hl, hsz]; exact hg, fun j hj => ?_, fun j hj => ?_⟩ (Bl.of_below B hbel) hbel (below_own1 hB hbel) (by simp)
  · have hj2 : j < s.data.size := by rw [hl] at hj; exact hj
    rw [bytesRow_at s _ j hj2, bytesI_get s j hj2]
    rfl
  · rw [hl] at hj; omega
theorem ok_or {i j r : Int} {k : IntKind} {t t' : TypeId} (h : Opd need x (.val (Lit (.int k i)))) (h' : Opd need y (.val (Lit (.int k j)))) (hr : bits .or k i j = r) : OpOk P ⟨d, .binOp .or t x y t', ty, pos, af, g⟩ need (.val (Lit (.int k r))) false :=
  ok_lit2 h h' fun ρ w e1 e2 => by
    subst hr
    simp [execOp, e1, e2, eqGuard, binOp, Op.intArith, Op.intBits, Sem.run_bind]
    try rfl
end
section
variable {P : Program} {ops : Array Oper} {Q : Exit → Act → World → Prop} {N : Nat} {w0 : World} {B0 : Bx} {a : Act} {w : World} {B : Bx} {l : List (Tmp × FD)} {bxs : List Tmp}
theorem St.nameRw (H : St N w0 B0 a w B l bxs) (i : Nat) {s : Tmp} {m : Nat} {k : IntKind} {xs : List Int} (hi : l[i]? = some (s, .val (IsRwN m k xs))) : ∃ g, m ≤ g ∧ St N w0 B0 a w B (l.set i (s, .val (IsRw g m k xs))) bxs := by
  obtain ⟨g, hp⟩ := H.fc.get i hi
  refine ⟨g, hp.2.2.1, H.df, H.sz, Fct.of_all fun x hx => ?_, H.bx, H.ap, H.bel, H.own, H.own0⟩
  rcases List.mem_or_eq_of_mem_set hx with h | h
  · exact H.fc.all x h
  · subst h; exact hp
/-- A call that writes upon the row in block g. -/
theorem flip_op {i : Nat} {K : Act → World → Prop} {g m : Nat} {f : FuncId} {k : IntKind} {xs ys : List Int} {s : Tmp} {x : Operand} {ts : Array TypeId} {ty : TypeId} {pos : String} {af : Array Edge} (rs : List Tmp) (is : List Nat) {ks l' : List (Tmp × FD)}
    (H : St N w0 B0 a w B l bxs) (hm : w0.heap.size ≤ m) (ho : ops[i]? = some ⟨some s, .call { callee := .value (.func f), args := #[x], argTypes := ts }, ty, pos, af, none⟩) (he : ∀ (vs : Array Value) (w : World), (callFunc f vs).run P w = .ok (.enter f vs) w)
    (hx : Opd l x (.val (IsRw g m k xs))) (hc : ∀ (c : Nat) (w : World), xs.length ≤ c → RowF w g k xs → Calls P f #[.slice (some ⟨g, 0, none⟩) xs.length c] w (fun e w' => e = .returned (.tuple #[]) ∧ RowF w' g k ys ∧ Only g w w')) (hl2 : ys.length = xs.length)
    (hks : is.map (fun i => l[i]?) = ks.map some) (hk : KeepAll (some g) m ks) (hrs : ∀ s ∈ rs, (s, FD.val (IsRw g m k xs)) ∈ l) (hl : rs.map (fun s => (s, FD.val (IsRw g m k ys))) ++ ks = l') (hns : decide (∀ x ∈ l', x.1 ≠ s) = true) (hbs : bxs.contains s = false) (hsN : decide (s < N) = true)
    (hK : ∀ a w B, St N w0 B0 a w B l' bxs → K a w) : wpOp P ops Q i K a w := by
  obtain ⟨hkd, hB, hmg, c, hcl, e1, hr⟩ := hx a w B H.fc
  have hs : ∀ d, (some s : Option Tmp) = some d → d < a.tmps.size := fun d hd2 => by
    injection hd2 with hd2
    subst hd2
    rw [H.sz]
    exact of_decide_eq_true hsN
  unfold wpOp
  simp only [ho]
  rw [if_pos (by simp [Region.wanted])]
  refine .inl ?_
  unfold Oper.wp
  have hr2 : (execOp a.eval ⟨some s, .call { callee := .value (.func f), args := #[x], argTypes := ts }, ty, pos, af, none⟩).run P w = .ok (.enter f #[a.eval x]) w := by
    simp [execOp, resolve, Act.eval, Deferred.ofValue, invoke, Sem.run_bind, he]
  rw [hr2, e1]
  refine (hc c w hcl hr).mono ?_
  rintro e w' ⟨rfl, hr3, hon⟩
  have hst := St.wrote (w' := w') (g := some g) (rs := rs.map (fun s => (s, FD.val (IsRw g m k ys)))) H hm (Nat.le_of_eq hon.size.symm) (fun i hi hne => hon.rest i fun e => hne (by rw [e])) (fun b hb => by
      injection hb with hb
      subst hb
      exact ⟨hmg, hB⟩) hon.os hon.tape hon.output hk (fun z hz => by
      have h2 : some z ∈ is.map (fun i => l[i]?) := by rw [hks]; exact List.mem_map.2 ⟨z, hz, rfl⟩
      obtain ⟨i, _, hi⟩ := List.mem_map.1 h2
      exact List.mem_of_getElem? hi) (fun z hz => by
      obtain ⟨s, hs, rfl⟩ := List.mem_map.1 hz
      obtain ⟨hkd2, hB2, hm2, c2, hc2, e3, r2⟩ := H.fc.all _ (hrs s hs)
      exact ⟨hkd2, hB2, hm2, c2, by rw [hl2]; exact hc2, by rw [hl2]; exact e3, hr3⟩)
  rw [hl] at hst
  have hput : ∀ x, (a.put (some s) (.tuple #[])).tmps.getD x undef = if (some s : Option Tmp) = some x then .tuple #[] else a.tmps.getD x undef := fun x => put_getD hs
  have hold : ∀ x, x ∈ bxs → (a.put (some s) (.tuple #[])).tmps.getD x undef = a.tmps.getD x undef := fun x hx => by
    rw [hput, if_neg ?_]
    intro e
    injection e with e
    subst e
    rw [← List.contains_iff_mem, hbs] at hx
    cases hx
  refine hK _ _ B ⟨put_defers.trans hst.df, put_size.trans hst.sz, Fct.of_all fun x hx => ?_, fun x hx => ?_, fun x hx y hy hxy => ?_, hst.bel, hst.own, hst.own0⟩
  · have hne := of_decide_eq_true hns x hx
    rw [hput, if_neg (fun e => hne (by injection e with e; exact e.symm))]
    exact hst.fc.all x hx
  · obtain ⟨b, h1, h2, h3⟩ := hst.bx x hx
    exact ⟨b, (hold x hx).trans h1, h2, h3⟩
  · rw [hold x hx, hold y hy]; exact hst.ap x hx y hy hxy
end
theorem con_natnorm (V : Int) : Con Try.prog 67 [IsM V] (IsC V) := by
  refine ⟨fun _ _ => by go_simp, fun vs w B hB hV => ?_⟩
  match vs, hV with
  | [v], ⟨h1, _⟩ =>
    have z1 := PM.nonneg h1
    have hf := PM.fit h1
    obtain ⟨ad, n, c, rfl, k, l⟩ := h1
    exact (num_norm ad n c V w k (by have := lim_eq; omega)).mono fun e w' h => h.con z1 hf
theorem con_made (s V : Int) : Con Try.prog 52 [Lit (.int .i8 s), IsC V] (IsI (if s = -1 then -V else V)) := by
  refine ⟨fun _ _ => by go_simp, fun vs w B hB hV => ?_⟩
  match vs, hV with
  | [v, u], ⟨h1, h2, _⟩ =>
    obtain rfl := h1
    obtain ⟨ad, n, c, rfl, k, l, hV⟩ := h2
    refine (wmade_calls s ad n c V w k hV).mono ?_
    rintro e w' ⟨rfl, hb⟩
    refine ⟨_, rfl, ⟨ad, n, c, ?_, ⟨k.le, ?_⟩, l⟩, hb⟩
    · congr 3
      by_cases h : s = -1
      · rw [if_pos h, decide_eq_true h, Bool.true_and]; congr 1; rw [decide_eq_decide]; omega
      · rw [if_neg h, decide_eq_false h, Bool.false_and]
        exact congrArg Value.bool (decide_eq_false (by omega)).symm
    · rw [show (((if s = -1 then -V else V).natAbs : Nat) : Int) = V by split <;> omega]
      exact k.rds.below hb (Nat.le_refl _)
end Go.Proofs.Ytgnophflogmmaaa
