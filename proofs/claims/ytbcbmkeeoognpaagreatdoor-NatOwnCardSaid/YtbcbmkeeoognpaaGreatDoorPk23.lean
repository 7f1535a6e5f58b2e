/- Contracts of functions, and plain facts, part 23. -/
import Derived.Test.YtbcbmkeeoognpaaGreatDoorPk22
set_option linter.unusedVariables false
set_option linter.unusedSimpArgs false
/- Contracts that answer lists of their own; functions that are handed a Book; over. -/
set_option maxRecDepth 50000
namespace Go.Proofs.YtbcbmkeeoognpaaGreatDoor
open Go Go.RowKit

/-- As Con, with a mark: what is answered lies from it on. -/
structure ConF (P : Program) (f : FuncId) (Ds : List VP) (R : Nat → VP) : Prop where
  enters : ∀ (vs : Array Value) (w : World), (callFunc f vs).run P w = .ok (.enter f vs) w
  calls : ∀ (lo : Nat) (vs : List Value) (w : World) (B : Bx), lo ≤ w.heap.size → Own1 B w → VAll vs Ds w B → Calls P f vs.toArray w (fun e w' => ∃ v, e = .returned v ∧ (R lo).p v w' B ∧ Below w.heap.size w w')
theorem ConF.weak {P : Program} {f : FuncId} {Ds : List VP} {R R' : Nat → VP} (h : ConF P f Ds R) (hw : ∀ lo v w B, (R lo).p v w B → (R' lo).p v w B) : ConF P f Ds R' :=
  ⟨h.enters, fun lo vs w B hl hB hV => (h.calls lo vs w B hl hB hV).mono fun e w' ⟨v, e1, h1, h2⟩ => ⟨v, e1, hw _ _ _ _ h1, h2⟩⟩
section
variable {P : Program} {need : List (Tmp × FD)} {d : Option Tmp} {ty : TypeId} {pos : String} {af : Array Edge} {g : Option (Nat × Bool)}
theorem ok_callF {f : FuncId} {args : List Operand} {ts : Array TypeId} {Ds : List VP} {R : Nat → VP} {lo : Nat} {z : Tmp} (kz : Nat) (C : ConF P f Ds R) (hz : need[kz]? = some (z, .val (Sz lo))) (h : Opds need args Ds) : OpOk P ⟨d, .call { callee := .value (.func f), args := args.toArray, argTypes := ts }, ty, pos, af, g⟩ need (.val (R lo)) false := by
  intro Q K a w B hB hF hK
  have hr : (execOp a.eval ⟨d, .call { callee := .value (.func f), args := args.toArray, argTypes := ts }, ty, pos, af, g⟩).run P w = .ok (.enter f (args.map a.eval).toArray) w := by
    simp [execOp, resolve, Act.eval, Deferred.ofValue, invoke, Sem.run_bind, C.enters]
  unfold Oper.wp
  rw [hr]
  refine (C.calls lo (args.map a.eval) w B (hF.get kz hz) hB (h.all hF)).mono ?_
  rintro e w' ⟨v, rfl, h1, h2⟩
  have hbl := Bl.of_below B h2
  exact hK v w' B h1 hbl h2 (fun k hk => Nat.lt_of_lt_of_le (hB k hk) h2.size) (by simp)
end
theorem f_enterF {P : Program} {f : FuncId} {fn : Func} {c : Code} {Ds : List VP} {R : Nat → VP} {N : Nat} (hN : fn.ntmps = N) (he : ∀ (vs : Array Value) (w : World), (callFunc f vs).run P w = .ok (.enter f vs) w) (hf : P.funcs[f]? = some fn) (hb : fn.body = some c) (hn : Ds.length ≤ N)
    (h : ∀ (lo : Nat) (a : Act) (w : World) (B : Bx), St N w B a w B (Ds.zipIdx.map (fun x => (x.2, .val x.1)) ++ [(N, .val (Sz lo))]) [] → c.wp P (bodyPost P fn fun e w' => ∃ v, e = .returned v ∧ (R lo).p v w' B ∧ Below w.heap.size w w') a w) : ConF P f Ds R := by
  refine ⟨he, fun lo vs w B hlo hB hV => calls_of_wp hf hb (h lo _ w B ⟨rfl, ?_, Fct.of_all fun x hx => ?_, by simp, by simp, Below.refl _ _, hB, fun _ h => h⟩)⟩
  · have hl : vs.length = Ds.length := by
      clear hn h hB hlo
      induction vs generalizing Ds with
      | nil => cases Ds with
        | nil => rfl
        | cons D Ds => exact hV.elim
      | cons v vs ih => cases Ds with
        | nil => exact hV.elim
        | cons D Ds => simp [ih hV.2]
    simp [hN]; omega
  · rcases List.mem_append.1 hx with hx | hx
    · obtain ⟨y, hy, rfl⟩ := List.mem_map.1 hx
      have h1 := List.mem_zipIdx_iff_getElem?.1 hy
      obtain ⟨v, h2, h3⟩ := hV.get y.2 y.1 h1
      have hlt : y.2 < vs.length := (List.getElem?_eq_some_iff.1 h2).1
      have e : (vs.toArray ++ Array.replicate (fn.ntmps - vs.toArray.size) undef).getD y.2 undef = v := by
        rw [Array.getD_eq_getD_getElem?, Array.getElem?_append_left (by simpa using hlt)]
        simp [h2]
      show y.1.p _ w B
      rw [e]
      exact h3
    · rw [List.mem_singleton] at hx
      subst hx
      exact hlo

/-- A list of its own and a bool. -/
def IsFrB (lo : Nat) (D : VP) (b : Bool) : VP := ⟨fun v w B => ∃ g, (∀ b, g = some b → lo ≤ b) ∧ (Tup [IsHd g D, IsB b]).p v w B, fun v w B w' B' h ⟨g, h1, h2⟩ => ⟨g, h1, (Tup [IsHd g D, IsB b]).st v w B w' B' h h2⟩⟩
theorem own_len {B n c : Nat} {w : World} {ad : Option Addr} {V : Int} {k : Nat} (o : Own B w 44 .u32 ad n c (dg 4294967296 V)) (hf : FitK k V) (hV : 0 ≤ V) : n ≤ k := by
  rw [← o.len]
  exact dg_length_le 4294967296 (by omega) k V (by unfold FitK at hf; rw [show ((4294967296 : Nat) : Int) = 4294967296 from rfl]; omega)
/-- TwinNat. -/
theorem con_twinF (n : Nat) (xs : List Int) (hn : n ≤ 1048576) : ConF Tryz.prog 14 [IsAn n xs] (fun lo => IsFr lo (IsTN n xs)) := by
  refine ⟨fun _ _ => by go_simp, fun lo vs w B hl hB hV => ?_⟩
  match vs, hV with
  | [v], ⟨h1, _⟩ =>
    obtain ⟨ad, c, rfl, k⟩ := h1
    refine (twin_calls ad n c xs w (by omega) k.rds).mono ?_
    rintro e w' ⟨rfl, h2, hb⟩
    have hx := k.rds.len
    refine ⟨_, rfl, ⟨some w.heap.size, (fun b e => by injection e with e; omega), ⟨_, _, _, rfl, by omega, by omega, by omega, fun h => absurd h (by omega), fun _ => ⟨w.heap.size, _, rfl, rfl, fun h => ?_, h2, by simp [nums, hx]⟩⟩, ⟨w.heap.size, by rw [hx], ⟨hx, h2, k.dig⟩⟩⟩, hb⟩
    have := hB _ h; omega
theorem weakTNAn {n : Nat} {xs : List Int} (v : Value) (w : World) (B : Bx) (h : (IsTN n xs).p v w B) : (IsAn n xs).p v w B := by
  obtain ⟨b, rfl, k⟩ := h
  exact ⟨_, _, rfl, by omega, twin_rds k.blk k.len, k.dig⟩
theorem con_sameC (V : Int) : Con Tryz.prog 16 [IsC V, IsC V] (IsB true) := by
  refine ⟨fun _ _ => by go_simp, fun vs w B hB hV => ?_⟩
  match vs, hV with
  | [v, u], ⟨h1, h2, _⟩ =>
    obtain ⟨ad, n, c, rfl, k, l, _⟩ := h1
    obtain ⟨bd, m, c2, rfl, k2, l2, _⟩ := h2
    have hlim := lim_eq
    refine (same_calls ad bd n m c c2 _ _ w (by omega) (by omega) k.rds k2.rds).mono ?_
    rintro e w' ⟨rfl, q, rfl⟩
    exact ⟨_, rfl, by show _ = _; simp, below_drewN (Below.refl _ _) q⟩
section
variable {P : Program} {ops : Array Oper} {Q : Exit → Act → World → Prop} {N : Nat} {w0 : World} {B0 : Bx} {a : Act} {w : World} {B : Bx} {l : List (Tmp × FD)} {bxs : List Tmp}
/-- A guard that lets the operation pass. -/
theorem St.wanted (H : St N w0 B0 a w B l bxs) (g : Nat) (b : Bool) {o og : Oper} {s : Tmp} (hg : o.guard = some (g, b)) (hog : ops[g]? = some og) (hd : og.dst = some s) (k : Nat) (hk : l[k]? = some (s, .val (IsB b))) : Region.wanted o (yielded ops a.tmps) = true := by
  have hv : a.tmps.getD s undef = .bool b := H.fc.get k hk
  simp [Region.wanted, hg, yielded_of hog hd hv]
theorem wanted_none {o : Oper} {y : Nat → Option Bool} (hg : o.guard = none) : Region.wanted o y = true := by simp [Region.wanted, hg]
end
end Go.Proofs.YtbcbmkeeoognpaaGreatDoor

