/- Contracts of functions, and plain facts, part 23. -/
import Derived.Test.YtbcbmkeeoognpaaGreatDoorPk22
set_option linter.unusedVariables false
set_option linter.unusedSimpArgs false
/- Contracts that answer lists of their own; functions that are handed a Book; over. -/
set_option maxRecDepth 50000
namespace Go.Proofs.YtbcbmkeeoognpaaGreatDoor
open Go Go.RowKit

/-- As Con, with a mark: what is answered lies from it on. -/
structure ConF (P : Program) (f : FuncId) (Ds : List VP) (R : Nat → VP) : Prop where
  enters : ∀ (vs : Array Value) (w : World), (callFunc f vs).run P w = .ok (.enter f vs) w
  calls : ∀ (lo : Nat) (vs : List Value) (w : World) (B : Bx), lo ≤ w.heap.size → Own1 B w → VAll vs Ds w B → Calls P f vs.toArray w (fun e w' => ∃ v, e = .returned v ∧ (R lo).p v w' B ∧ Below w.heap.size w w')
theorem ConF.con {P : Program} {f : FuncId} {Ds : List VP} {R : Nat → VP} {R' : VP} (h : ConF P f Ds R) (hw : ∀ v w B, (R 0).p v w B → R'.p v w B) : Con P f Ds R' :=
  ⟨h.enters, fun vs w B hB hV => (h.calls 0 vs w B (Nat.zero_le _) hB hV).mono fun e w' ⟨v, e1, h1, h2⟩ => ⟨v, e1, hw _ _ _ h1, h2⟩⟩
theorem ConF.weak {P : Program} {f : FuncId} {Ds : List VP} {R R' : Nat → VP} (h : ConF P f Ds R) (hw : ∀ lo v w B, (R lo).p v w B → (R' lo).p v w B) : ConF P f Ds R' :=
  ⟨h.enters, fun lo vs w B hl hB hV => (h.calls lo vs w B hl hB hV).mono fun e w' ⟨v, e1, h1, h2⟩ => ⟨v, e1, hw _ _ _ _ h1, h2⟩⟩
section
variable {P : Program} {need : List (Tmp × FD)} {d : Option Tmp} {ty : TypeId} {pos : String} {af : Array Edge} {g : Option (Nat × Bool)}
theorem ok_callF {f : FuncId} {args : List Operand} {ts : Array TypeId} {Ds : List VP} {R : Nat → VP} {lo : Nat} {z : Tmp} (kz : Nat) (C : ConF P f Ds R) (hz : need[kz]? = some (z, .val (Sz lo))) (h : Opds need args Ds) : OpOk P ⟨d, .call { callee := .value (.func f), args := args.toArray, argTypes := ts }, ty, pos, af, g⟩ need (.val (R lo)) false := by
  intro Q K a w B hB hF hK
  have hr : (execOp a.eval ⟨d, .call { callee := .value (.func f), args := args.toArray, argTypes := ts }, ty, pos, af, g⟩).run P w = .ok (.enter f (args.map a.eval).toArray) w := by
    simp [execOp, resolve, Act.eval, Deferred.ofValue, invoke, Sem.run_bind, C.enters]
  unfold Oper.wp
  rw [hr]
  refine (C.calls lo (args.map a.eval) w B (hF.get kz hz) hB (h.all hF)).mono ?_
  rintro e w' ⟨v, rfl, h1, h2⟩
  have hbl := Bl.of_below B h2
  exact hK v w' B h1 hbl h2 (fun k hk => Nat.lt_of_lt_of_le (hB k hk) h2.size) (by simp)
end
theorem f_enterF {P : Program} {f : FuncId} {fn : Func} {c : Code} {Ds : List VP} {R : Nat → VP} {N : Nat} (hN : fn.ntmps = N) (he : ∀ (vs : Array Value) (w : World), (callFunc f vs).run P w = .ok (.enter f vs) w) (hf : P.funcs[f]? = some fn) (hb : fn.body = some c) (hn : Ds.length ≤ N)
    (h : ∀ (lo : Nat) (a : Act) (w : World) (B : Bx), St N w B a w B (Ds.zipIdx.map (fun x => (x.2, .val x.1)) ++ [(N, .val (Sz lo))]) [] → c.wp P (bodyPost P fn fun e w' => ∃ v, e = .returned v ∧ (R lo).p v w' B ∧ Below w.heap.size w w') a w) : ConF P f Ds R := by
  refine ⟨he, fun lo vs w B hlo hB hV => calls_of_wp hf hb (h lo _ w B ⟨rfl, ?_, Fct.of_all fun x hx => ?_, by simp, by simp, Below.refl _ _, hB, fun _ h => h⟩)⟩
  · have hl : vs.length = Ds.length := by
      clear hn h hB hlo
      induction vs generalizing Ds with
      | nil => cases Ds with
        | nil => rfl
        | cons D Ds => exact hV.elim
      | cons v vs ih => cases Ds with
        | nil => exact hV.elim
        | cons D Ds => simp [ih hV.2]
    simp [hN]; omega
  · rcases List.mem_append.1 hx with hx | hx
    · obtain ⟨y, hy, rfl⟩ := List.mem_map.1 hx
      have h1 := List.mem_zipIdx_iff_getElem?.1 hy
      obtain ⟨v, h2, h3⟩ := hV.get y.2 y.1 h1
      have hlt : y.2 < vs.length := (List.getElem?_eq_some_iff.1 h2).1
      have e : (vs.toArray ++ Array.replicate (fn.ntmps - vs.toArray.size) undef).getD y.2 undef = v := by
        rw [Array.getD_eq_getD_getElem?, Array.getElem?_append_left (by simpa using hlt)]
        simp [h2]
      show y.1.p _ w B
      rw [e]
      exact h3
    · rw [List.mem_singleton] at hx
      subst hx
      exact hlo

/-- A list of its own and a bool. -/
def IsFrB (lo : Nat) (D : VP) (b : Bool) : VP := ⟨fun v w B => ∃ g, (∀ b, g = some b → lo ≤ b) ∧ (Tup [IsHd g D, IsB b]).p v w B, fun v w B w' B' h ⟨g, h1, h2⟩ => ⟨g, h1, (Tup [IsHd g D, IsB b]).st v w B w' B' h h2⟩⟩
theorem isFr_nil {lo : Nat} (v : Value) (w : World) (B : Bx) (h : (Lit (.slice none 0 0)).p v w B) : (IsFr lo (IsC 0)).p v w B := by
  have h2 := weakNilM v w B h
  obtain rfl := h
  exact ⟨none, (fun b hb => by cases hb), ⟨none, 0, 0, rfl, Nat.le_refl _, by omega, by omega, fun _ => rfl, fun h => absurd h (by omega)⟩, h2⟩
theorem isFrC_eq {lo : Nat} {A N : Int} (e : A = N) {v : Value} {w : World} {B : Bx} (h : (IsFr lo (IsC A)).p v w B) : (IsFr lo (IsC N)).p v w B := e ▸ h
theorem fr_of_own {lo : Nat} {w w' : World} {B : Bx} {ad : Option Addr} {n c : Nat} {V : Int} (hl : lo ≤ w.heap.size) (hB : Own1 B w) (o : Own w.heap.size w' 44 .u32 ad n c (dg 4294967296 V)) (hn : n ≤ LIM) (hV : 0 ≤ V) : (IsFr lo (IsC V)).p (.slice ad n c) w' B := by
  have hlim := lim_eq
  obtain ⟨g, h1, h2, _⟩ := PHd.of_own hl hB o (by omega)
  exact ⟨g, h1, h2, ad, n, c, rfl, ⟨o.le, o.rds⟩, hn, hV⟩
theorem own_len {B n c : Nat} {w : World} {ad : Option Addr} {V : Int} {k : Nat} (o : Own B w 44 .u32 ad n c (dg 4294967296 V)) (hf : FitK k V) (hV : 0 ≤ V) : n ≤ k := by
  rw [← o.len]
  exact dg_length_le 4294967296 (by omega) k V (by unfold FitK at hf; rw [show ((4294967296 : Nat) : Int) = 4294967296 from rfl]; omega)
theorem con_rnormF (V : Int) : ConF Tryz.prog 125 [IsM V] (fun lo => IsFr lo (IsC V)) := by
  refine ⟨fun _ _ => by go_simp, fun lo vs w B hl hB hV => ?_⟩
  match vs, hV with
  | [v], ⟨h1, _⟩ =>
    have hf := PM.fit h1
    have h0 := PM.nonneg h1
    obtain ⟨ad, n, c, rfl, k, l⟩ := h1
    obtain ⟨xs, r1, r2, rfl⟩ := k.row
    have hlim := lim_eq
    refine (rnorm_calls ad n c xs w (by omega) r1 r2).mono ?_
    rintro e w' ⟨ad2, n2, c2, rfl, o, hb⟩
    obtain ⟨q, hq, hf⟩ := hf
    exact ⟨_, rfl, fr_of_own hl hB o (Nat.le_trans (own_len o hf h0) hq) h0, hb⟩
/-- TwinNat. -/
theorem con_twinF (n : Nat) (xs : List Int) (hn : n ≤ 1048576) : ConF Tryz.prog 14 [IsAn n xs] (fun lo => IsFr lo (IsTN n xs)) := by
  refine ⟨fun _ _ => by go_simp, fun lo vs w B hl hB hV => ?_⟩
  match vs, hV with
  | [v], ⟨h1, _⟩ =>
    obtain ⟨ad, c, rfl, k⟩ := h1
    refine (twin_calls ad n c xs w (by omega) k.rds).mono ?_
    rintro e w' ⟨rfl, h2, hb⟩
    have hx := k.rds.len
    refine ⟨_, rfl, ⟨some w.heap.size, (fun b e => by injection e with e; omega), ⟨_, _, _, rfl, by omega, by omega, by omega, fun h => absurd h (by omega), fun _ => ⟨w.heap.size, _, rfl, rfl, fun h => ?_, h2, by simp [nums, hx]⟩⟩, ⟨w.heap.size, by rw [hx], ⟨hx, h2, k.dig⟩⟩⟩, hb⟩
    have := hB _ h; omega
theorem weakTNAn {n : Nat} {xs : List Int} (v : Value) (w : World) (B : Bx) (h : (IsTN n xs).p v w B) : (IsAn n xs).p v w B := by
  obtain ⟨b, rfl, k⟩ := h
  exact ⟨_, _, rfl, by omega, twin_rds k.blk k.len, k.dig⟩
theorem weakHdHd {g : Option Nat} {D E : VP} (hw : ∀ v w B, D.p v w B → E.p v w B) (v : Value) (w : World) (B : Bx) (h : (IsHd g D).p v w B) : (IsHd g E).p v w B := ⟨h.1, hw _ _ _ h.2⟩
theorem loc_An {n : Nat} {xs : List Int} : Loc (IsAn n xs) := fun ad m c w w' B hn hb ⟨ad2, c2, e, k⟩ => by
  injection e with e1 e2 e3
  subst e1 e2 e3
  exact ⟨ad, c, rfl, ⟨k.le, k.rds.kept fun h => hb (by have := k.le; omega), k.dig⟩⟩
theorem con_sameC (V : Int) : Con Tryz.prog 16 [IsC V, IsC V] (IsB true) := by
  refine ⟨fun _ _ => by go_simp, fun vs w B hB hV => ?_⟩
  match vs, hV with
  | [v, u], ⟨h1, h2, _⟩ =>
    obtain ⟨ad, n, c, rfl, k, l, _⟩ := h1
    obtain ⟨bd, m, c2, rfl, k2, l2, _⟩ := h2
    have hlim := lim_eq
    refine (same_calls ad bd n m c c2 _ _ w (by omega) (by omega) k.rds k2.rds).mono ?_
    rintro e w' ⟨rfl, q, rfl⟩
    exact ⟨_, rfl, by show _ = _; simp, below_drewN (Below.refl _ _) q⟩
theorem con_sameAn (n : Nat) (xs : List Int) (hn : n ≤ 1048576) : Con Tryz.prog 16 [IsAn n xs, IsAn n xs] (IsB true) := by
  refine ⟨fun _ _ => by go_simp, fun vs w B hB hV => ?_⟩
  match vs, hV with
  | [v, u], ⟨h1, h2, _⟩ =>
    obtain ⟨ad, c, rfl, k⟩ := h1
    obtain ⟨bd, c2, rfl, k2⟩ := h2
    refine (same_calls ad bd n n c c2 _ _ w (by omega) (by omega) k.rds k2.rds).mono ?_
    rintro e w' ⟨rfl, q, rfl⟩
    exact ⟨_, rfl, by show _ = _; simp, below_drewN (Below.refl _ _) q⟩
theorem con_leftNat (n : Nat) (xs : List Int) (hn : n ≤ 1048576) : Con Tryz.prog 24 [IsTN n xs, IsAn n xs] (IsB true) := by
  refine ⟨fun _ _ => by go_simp, fun vs w B hB hV => ?_⟩
  match vs, hV with
  | [v, u], ⟨h1, h2, _⟩ =>
    obtain ⟨b, rfl, k⟩ := h1
    obtain ⟨bd, c2, rfl, k2⟩ := h2
    refine (left_calls b bd n c2 xs w (by omega) k.blk k2.rds).mono ?_
    rintro e w' ⟨rfl, hq⟩
    first
      | exact ⟨_, rfl, rfl, hq⟩
      | (obtain ⟨q, rfl⟩ := hq; exact ⟨_, rfl, rfl, below_drewN (Below.refl _ _) q⟩)

/-- What has come to pass since a function began that was handed the book at b: nothing but what the book did. -/
def PFrm (Bs b : Nat) (we : World) (w : World) (B : Bx) : Prop := we.heap.size ≤ w.heap.size ∧ (∀ k, k < we.heap.size → k ≠ b → w.heap[k]? = we.heap[k]? ∨ (Bs ≤ k ∧ ∃ cs, we.heap[k]? = some (.cells cs 150 (0, 0)))) ∧ ∀ k, k < we.heap.size → B k → k = b
def IsFrm (Bs b : Nat) (we : World) : VP := ⟨fun _ w B => PFrm Bs b we w B, fun v w B w' B' h ⟨h1, h2, h3⟩ => by
  refine ⟨Nat.le_trans h1 h.size, fun k hk hne => ?_, fun k hk hB => h3 k hk (h.box k (by omega) hB)⟩
  rcases h.same k (by omega) with e | ⟨e, _⟩
  · rw [e]; exact h2 k hk hne
  · exact absurd (h3 k hk e) hne⟩
theorem keptB_frm {Bs b : Nat} {we : World} : KeptB Bs (.val (IsFrm Bs b we)) := fun v w w' B b2 hbs hb k ⟨h1, h2, h3⟩ => by
  refine ⟨Nat.le_trans h1 k.size, fun j hj hne => ?_, h3⟩
  have hj2 : j ≠ b2 := fun e => hne (h3 j hj (e ▸ hb))
  rcases k.rest j (by omega) hj2 with e | ⟨e1, cs, e2⟩
  · rw [e]; exact h2 j hj hne
  · rcases h2 j hj hne with e3 | e3
    · exact .inr ⟨e1, cs, by rw [← e3]; exact e2⟩
    · exact .inr e3
abbrev IsPt (b : Nat) : VP := Lit (.pointer (some ⟨b, 0, none⟩))
/-- Function f is handed a book and what meets Ds: it answers r, at most k lists of its own are kept. -/
def BookFn (P : Program) (f : FuncId) (Ds : List VP) (r : Value) (k : Nat) : Prop :=
  ∀ (wL w : World) (b : Nat) (v : Value) (L : List Hd) (vs : List Value), Below wL.heap.size wL w → BookAt wL.heap.size w b v L → v.ownBlock ≠ some b → L.length + k ≤ 1000000 → VAll vs Ds w (fun j => j = b) →
    Calls P f (Value.pointer (some ⟨b, 0, none⟩) :: vs).toArray w (fun e w' => e = .returned r ∧ Kp wL.heap.size b w w' ∧ ∃ v' L', BookAt wL.heap.size w' b v' L' ∧ L'.length ≤ L.length + k ∧
      (∀ h ∈ L', 0 < h.c → ∃ x, blkOf h.ad = some x ∧ x ≠ b ∧ ((∃ h0 ∈ L, 0 < h0.c ∧ blkOf h0.ad = some x) ∨ w.heap.size ≤ x)) ∧ ∀ x, v'.ownBlock = some x → v.ownBlock = some x ∨ w.heap.size ≤ x)
/-- What is shown at its end. -/
def BookEnd (wL w : World) (b : Nat) (ex : List (Option Nat)) (Ow : Nat → Prop) (n : Nat) (r : Value) (e : Ending) (w' : World) : Prop :=
  e = .returned r ∧ Kp wL.heap.size b w w' ∧ ∃ v' L', BookAt wL.heap.size w' b v' L' ∧ L'.length ≤ n ∧ (∀ h ∈ L', 0 < h.c → ∃ x, blkOf h.ad = some x ∧ x ≠ b ∧ (some x ∈ ex ∨ w.heap.size ≤ x)) ∧ ∀ x, v'.ownBlock = some x → Ow x
theorem f_enterB {P : Program} {f : FuncId} {fn : Func} {c : Code} {Ds : List VP} {r : Value} {n N : Nat} (hN : fn.ntmps = N) (hf : P.funcs[f]? = some fn) (hb : fn.body = some c) (hn : Ds.length + 1 ≤ N)
    (h : ∀ (wL w : World) (b : Nat) (ex : List (Option Nat)) (Ow : Nat → Prop) (cnt : Nat) (a : Act), cnt + n ≤ 1000000 → wL.heap.size ≤ w.heap.size → (∀ x, w.heap.size ≤ x → Ow x) → (∀ x, some x ∈ ex → x < w.heap.size) →
      St N wL (fun j => j = b) a w (fun j => j = b) ((0, .box 42 15 (IsBook wL.heap.size Ow w.heap.size w.heap.size ex cnt)) :: (0, .val (IsPt b)) :: (N, .val (IsFrm wL.heap.size b w)) :: (N + 1, .val (Sz w.heap.size)) :: (Ds.zipIdx 1).map (fun x => (x.2, .val x.1))) [0] →
      c.wp P (bodyPost P fn (BookEnd wL w b ex Ow (cnt + n) r)) a w) : BookFn P f Ds r n := by
  intro wL w b v L vs hbel hA hvb hL hV
  have hvl : vs.length = Ds.length := by
    clear hn h
    induction vs generalizing Ds with
    | nil => cases Ds with
      | nil => rfl
      | cons D Ds => exact hV.elim
    | cons v vs ih => cases Ds with
      | nil => exact hV.elim
      | cons D Ds => simp [ih hV.2]
  have hx : ∀ x, some x ∈ (L.filter fun h => decide (0 < h.c)).map (fun h => blkOf h.ad) → ∃ h0 ∈ L, 0 < h0.c ∧ blkOf h0.ad = some x := fun x hx => by
    obtain ⟨h0, h1, h2⟩ := List.mem_map.1 hx
    rw [List.mem_filter, decide_eq_true_eq] at h1
    exact ⟨h0, h1.1, h1.2, h2⟩
  have hblk : ∀ h0 ∈ L, 0 < h0.c → ∃ x cs, blkOf h0.ad = some x ∧ w.heap[x]? = some (.cells cs 44 (0, 0)) := fun h0 h1 h2 => by
    obtain ⟨g, cs, e, _, h3, _⟩ := (hA.one h0 h1).row h2
    exact ⟨g, cs, by rw [e]; rfl, h3⟩
  have get0 : ((Value.pointer (some ⟨b, 0, none⟩) :: vs).toArray ++ Array.replicate (fn.ntmps - (Value.pointer (some ⟨b, 0, none⟩) :: vs).toArray.size) undef).getD 0 undef = .pointer (some ⟨b, 0, none⟩) := by
    rw [Array.getD_eq_getD_getElem?, Array.getElem?_append_left (by simp)]
    simp
  refine (calls_of_wp (R := BookEnd wL w b ((L.filter fun h => decide (0 < h.c)).map fun h => blkOf h.ad) (fun x => v.ownBlock = some x ∨ w.heap.size ≤ x) (L.length + n) r) hf hb (h wL w b ((L.filter fun h => decide (0 < h.c)).map fun h => blkOf h.ad) (fun x => v.ownBlock = some x ∨ w.heap.size ≤ x) L.length _ hL hbel.size (fun x hx => .inr hx) (fun x hx2 => ?_)
    ⟨rfl, ?_, Fct.of_all fun x hx2 => ?_, ?_, ?_, hbel, fun j hj => by rw [hj]; exact hA.lt, fun _ h => h⟩)).mono ?_
  · obtain ⟨h0, h1, h2, h3⟩ := hx x hx2
    obtain ⟨y, cs, e1, e2⟩ := hblk h0 h1 h2
    rw [h3] at e1
    injection e1 with e1
    subst e1
    exact (Array.getElem?_eq_some_iff.1 e2).1
  · simp [hN]; omega
  · simp only [List.mem_cons] at hx2
    rcases hx2 with rfl | rfl | rfl | rfl | hx2
    · refine ⟨b, _, get0, rfl, hA.lt, hA.hd, rfl, v, L, rfl, Nat.le_refl _, hA.row, fun x hx3 => ⟨fun h4 => hvb (by rw [← h4]; exact hx3), .inl hx3⟩, hA.sep, fun h0 h1 => ⟨hA.one h0 h1, fun h2 => ?_⟩⟩
      obtain ⟨y, cs, e1, e2⟩ := hblk h0 h1 h2
      refine ⟨y, e1, (hA.block_ne e2).1, .inr ?_⟩
      rw [← e1]
      exact List.mem_map.2 ⟨h0, List.mem_filter.2 ⟨h1, decide_eq_true h2⟩, rfl⟩
    · exact get0
    · exact ⟨Nat.le_refl _, fun _ _ _ => .inl rfl, fun _ _ h => h⟩
    · exact Nat.le_refl _
    · obtain ⟨y, hy, rfl⟩ := List.mem_map.1 hx2
      have h1 := List.mk_mem_zipIdx_iff_le_and_getElem?_sub.1 hy
      obtain ⟨u, h2, h3⟩ := hV.get (y.2 - 1) y.1 h1.2
      have hlt : y.2 - 1 < vs.length := (List.getElem?_eq_some_iff.1 h2).1
      have e : ((Value.pointer (some ⟨b, 0, none⟩) :: vs).toArray ++ Array.replicate (fn.ntmps - (Value.pointer (some ⟨b, 0, none⟩) :: vs).toArray.size) undef).getD y.2 undef = u := by
        rw [Array.getD_eq_getD_getElem?, Array.getElem?_append_left (by simp; omega)]
        obtain ⟨q, hq⟩ : ∃ q, y.2 = q + 1 := ⟨y.2 - 1, by omega⟩
        rw [hq] at h2 ⊢
        simp at h2
        simp [h2]
      show y.1.p _ w _
      rw [e]
      exact h3
  · intro s hs
    rw [List.mem_singleton] at hs
    subst hs
    exact ⟨b, get0, hA.lt, hA.lo⟩
  · intro s hs t ht hst
    rw [List.mem_singleton] at hs ht
    exact absurd (hs.trans ht.symm) hst
  · rintro e w' ⟨h1, h2, v', L', h3, h4, h5, h6⟩
    refine ⟨h1, h2, v', L', h3, h4, fun h0 h7 h8 => ?_, h6⟩
    obtain ⟨x, e1, e2, e3⟩ := h5 h0 h7 h8
    refine ⟨x, e1, e2, ?_⟩
    rcases e3 with e3 | e3
    · exact .inl (hx x e3)
    · exact .inr e3
section
variable {P : Program} {ops : Array Oper} {Q : Exit → Act → World → Prop} {N : Nat} {w0 : World} {B0 : Bx} {a : Act} {w : World} {B : Bx} {l : List (Tmp × FD)} {bxs : List Tmp}
theorem f_retB {fn : Func} {r : Value} {s : Tmp} {wE : World} {b lo hi cnt n : Nat} {ex ex' : List (Option Nat)} {Ow : Nat → Prop} (H : St N w0 B0 a w B l bxs) (hr : fn.results = #[.tmp s]) (kp k0 kf k : Nat) {z : Tmp} (h0 : 0 ∈ bxs)
    (hk : l[k]? = some (s, .val (Lit r))) (hp : l[kp]? = some (0, .box 42 15 (IsBook w0.heap.size Ow lo hi ex' cnt))) (h0p : l[k0]? = some (0, .val (IsPt b))) (hf : l[kf]? = some (z, .val (IsFrm w0.heap.size b wE)))
    (hE : Below w0.heap.size w0 wE) (hcnt : cnt ≤ n) (hn : n ≤ 1000000) (hlo : wE.heap.size ≤ lo) (hex : ∀ x, some x ∈ ex' → some x ∈ ex ∨ wE.heap.size ≤ x) : bodyPost P fn (BookEnd w0 wE b ex Ow n r) .ret a w := by
  obtain ⟨b2, rv, L, e1, hBb, hbs, hA, hL, hblk, hrow⟩ := H.book kp hp h0 (by omega)
  have e2 : a.tmps.getD 0 undef = .pointer (some ⟨b, 0, none⟩) := H.fc.get k0 h0p
  rw [e1] at e2
  have e3 : b2 = b := by injection e2 with e2; injection e2 with e2; injection e2
  subst e3
  obtain ⟨f1, f2, f3⟩ : PFrm w0.heap.size b2 wE w B := H.fc.get kf hf
  have hv : a.tmps.getD s undef = r := H.fc.get k hk
  refine ⟨H.df, a.tmps.getD s undef, by simp [results, hr], by rw [hv], ⟨H.bel.os.trans hE.os.symm, H.bel.tape.trans hE.tape.symm, H.bel.output.trans hE.output.symm, f1, f2⟩, rv, L, hA, by omega, fun h hh hc => ?_, fun x hx => (hrow x hx).2⟩
  obtain ⟨x, g1, g2, g3⟩ := hblk h hh hc
  refine ⟨x, g1, fun e => g2 (e ▸ hBb), ?_⟩
  rcases g3 with g3 | g3
  · exact .inr (by omega)
  · exact hex x g3
/-- A guard that lets the operation pass. -/
theorem St.wanted (H : St N w0 B0 a w B l bxs) (g : Nat) (b : Bool) {o og : Oper} {s : Tmp} (hg : o.guard = some (g, b)) (hog : ops[g]? = some og) (hd : og.dst = some s) (k : Nat) (hk : l[k]? = some (s, .val (IsB b))) : Region.wanted o (yielded ops a.tmps) = true := by
  have hv : a.tmps.getD s undef = .bool b := H.fc.get k hk
  simp [Region.wanted, hg, yielded_of hog hd hv]
theorem wanted_none {o : Oper} {y : Nat → Option Bool} (hg : o.guard = none) : Region.wanted o y = true := by simp [Region.wanted, hg]
/-- A function that is handed the book, at a region's end. -/
theorem book_op {i : Nat} {K : Act → World → Prop} {f : FuncId} {Ow : Nat → Prop} {lo hi cnt n : Nat} {ex : List (Option Nat)} {Ds : List VP} {r : Value} {s p z : Tmp} {y : Operand} {xs : List Operand} {ts : Array TypeId} {ty : TypeId} {pos : String} {af : Array Edge} {gd : Option (Nat × Bool)} (kp kz : Nat) (is : List Nat) {ks : List (Tmp × FD)}
    (H : St N w0 B0 a w B l bxs) (ho : ops[i]? = some ⟨some s, .call { callee := .value (.func f), args := (y :: xs).toArray, argTypes := ts }, ty, pos, af, gd⟩) (hw : Region.wanted ⟨some s, .call { callee := .value (.func f), args := (y :: xs).toArray, argTypes := ts }, ty, pos, af, gd⟩ (yielded ops a.tmps) = true)
    (hent : ∀ (vs : Array Value) (w : World), (callFunc f vs).run P w = .ok (.enter f vs) w) (hf : BookFn P f Ds r n)
    (hp : l[kp]? = some (p, .box 42 15 (IsBook w0.heap.size Ow lo hi ex cnt))) (hy : a.eval y = a.tmps.getD p undef) (hx : Opds l xs Ds) (hz : l[kz]? = some (z, .val (Sz lo)))
    (hcnt : cnt + n ≤ 1000000) (hOw : ∀ x, w.heap.size ≤ x → Ow x)
    (hks : is.map (fun i => l[i]?) = ks.map some) (hc : (bxs.contains p && decide (s < N) && (!bxs.contains s) && ks.all fun y => y.1 != s && (y.2.isVal || (y.1 != p && y.2.isBox && bxs.contains y.1))) = true) (hk : KeepB w0.heap.size ks) (hps : s ≠ p)
    (hK : ∀ a w B m, St N w0 B0 a w B ((s, .val (Lit r)) :: (p, FD.box 42 15 (IsBook w0.heap.size Ow lo m ex (cnt + n))) :: ks) bxs → K a w) : wpOp P ops Q i K a w := by
  simp only [Bool.and_eq_true, List.all_eq_true, Bool.or_eq_true, Bool.not_eq_true', decide_eq_true_eq, bne_iff_ne, ne_eq] at hc
  obtain ⟨⟨⟨hpb, hsN⟩, hsb⟩, hall⟩ := hc
  rw [List.contains_iff_mem] at hpb
  obtain ⟨b, rv, L, e1, hBb, hbs, hA, hL, hblk, hrow⟩ := H.book kp hp hpb (by omega)
  have hB0 : w0.heap.size ≤ w.heap.size := H.bel.size
  have hlw : lo ≤ w.heap.size := H.fc.get kz hz
  have hVs : VAll (xs.map a.eval) Ds w (fun j => j = b) := (hx.all H.fc).st (Mv.shrink fun k hk => by rw [hk]; exact hBb)
  unfold wpOp
  simp only [ho]
  rw [if_pos hw]
  refine .inl ?_
  unfold Oper.wp
  have hr : (execOp a.eval ⟨some s, .call { callee := .value (.func f), args := (y :: xs).toArray, argTypes := ts }, ty, pos, af, gd⟩).run P w = .ok (.enter f (Value.pointer (some ⟨b, 0, none⟩) :: xs.map a.eval).toArray) w := by
    have q1 := hy
    rw [e1] at q1
    have : execOp a.eval ⟨some s, .call { callee := .value (.func f), args := (y :: xs).toArray, argTypes := ts }, ty, pos, af, gd⟩ = callFunc f ((y :: xs).map a.eval).toArray := by
      simp [execOp, resolve, Act.eval, Deferred.ofValue, invoke]
    rw [this, hent, List.map_cons, q1]
  rw [hr]
  refine (hf w0 w b rv L (xs.map a.eval) H.bel hA (fun e => (hrow b e).1 hBb) (by omega) hVs).mono ?_
  rintro e w' ⟨rfl, kk, v', L', hA', hL', hbl', hrr⟩
  refine hK _ w' B w'.heap.size ?_
  have hsz : ∀ d, (some s : Option Tmp) = some d → d < a.tmps.size := fun d hd => by injection hd with hd; subst hd; rw [H.sz]; exact hsN
  have hput : ∀ z v, (a.put (some s) v).tmps.getD z undef = if some s = some z then v else a.tmps.getD z undef := fun z v => put_getD hsz
  have hold : ∀ z v, z ≠ s → (a.put (some s) v).tmps.getD z undef = a.tmps.getD z undef := fun z v hz => by
    rw [hput, if_neg fun e => hz (by injection e with e; exact e.symm)]
  have hbx : ∀ z ∈ bxs, z ≠ s := fun z hz e => by
    subst e
    rw [← List.contains_iff_mem, hsb] at hz
    cases hz
  refine ⟨put_defers.trans H.df, put_size.trans H.sz, Fct.of_all fun z hz => ?_, fun z hz => ?_, fun z hz t ht hzt => ?_, H.bel.trans (kk.below hbs hB0), fun k hk2 => Nat.lt_of_lt_of_le (H.own k hk2) kk.size, H.own0⟩
  · rcases List.mem_cons.1 hz with rfl | hz
    · show _ = _
      rw [hput, if_pos rfl]
    rcases List.mem_cons.1 hz with rfl | hz
    · refine ⟨b, _, (hold p _ (Ne.symm hps)).trans e1, hBb, hA'.lt, hA'.hd, rfl, v', _, rfl, by omega, hA'.row, fun x hx => ?_, hA'.sep, fun h hh => ⟨hA'.one h hh, fun h0 => ?_⟩⟩
      · rcases hrr x hx with e | e
        · exact hrow x e
        · exact ⟨fun hBx => (by have := H.own x hBx; omega), hOw x e⟩
      · obtain ⟨x, k1, k2, k3⟩ := hbl' h hh h0
        obtain ⟨g, cs, f1, f2, f3, f4⟩ := (hA'.one h hh).row h0
        rw [f1] at k1
        have f5 : g = x := by injection k1
        subst f5
        have hlt := (Array.getElem?_eq_some_iff.1 f3).1
        have hcase : ¬ B g ∧ ((lo ≤ g ∧ g < w'.heap.size) ∨ some g ∈ ex) := by
          rcases k3 with ⟨h1, m1, m2, m3⟩ | k3
          · obtain ⟨x2, j1, j2, j3⟩ := hblk h1 m1 m2
            rw [m3] at j1
            have j4 : g = x2 := by injection j1
            subst j4
            refine ⟨j2, ?_⟩
            rcases j3 with j3 | j3
            · exact .inl ⟨j3.1, hlt⟩
            · exact .inr j3
          · exact ⟨fun hBx => (by have := H.own g hBx; omega), .inl ⟨by omega, hlt⟩⟩
        exact ⟨g, by rw [f1]; rfl, hcase⟩
    · have hm : z ∈ l := by
        have h2 : some z ∈ is.map (fun i => l[i]?) := by rw [hks]; exact List.mem_map.2 ⟨z, hz, rfl⟩
        obtain ⟨i, _, hi⟩ := List.mem_map.1 h2
        exact List.mem_of_getElem? hi
      obtain ⟨q1, q3⟩ := hall z hz
      rw [hold z.1 _ q1]
      refine (hk.all z hz).run hbs hBb (fun hb e => ?_) kk (H.fc.all z hm)
      rcases q3 with q3 | ⟨⟨q2, q4⟩, q5⟩
      · cases hf : z.2 with
        | val E => rw [hf] at hb; simp [FD.isBox] at hb
        | ptr t n E off => rw [hf] at q3; simp [FD.isVal] at q3
        | box t n E => rw [hf] at q3; simp [FD.isVal] at q3
      · exact H.ap z.1 (List.contains_iff_mem.1 q5) p hpb q2 (e.trans e1.symm)
  · obtain ⟨c2, k1, k2, k3⟩ := H.bx z hz
    exact ⟨c2, (hold z _ (hbx z hz)).trans k1, Nat.lt_of_lt_of_le k2 kk.size, k3⟩
  · rw [hold z _ (hbx z hz), hold t _ (hbx t ht)]; exact H.ap z hz t ht hzt
end
end Go.Proofs.YtbcbmkeeoognpaaGreatDoor

