/- Contracts of functions, and plain facts, part 20. -/
import Derived.Deep.RegionHeld3
import Derived.Test.YtbcbmkeeoognpaaGreatDoorPk5
import Derived.Test.YtbcbmkeeoognpaaGreatDoorPk8
import Derived.Test.YtbcbmkeeoognpaaGreatDoorPk11
import Derived.Test.YtbcbmkeeoognpaaGreatDoorPk13
import Derived.Test.YtbcbmkeeoognpaaGreatDoorPk14
import Derived.Test.YtbcbmkeeoognpaaGreatDoorPk15
import Derived.Test.YtbcbmkeeoognpaaGreatDoorPk16
import Derived.Test.YtbcbmkeeoognpaaGreatDoorPk17
import Derived.Test.YtbcbmkeeoognpaaGreatDoorPk18
import Derived.Test.YtbcbmkeeoognpaaGreatDoorPk19
set_option linter.unusedVariables false
set_option linter.unusedSimpArgs false
/- cruciblelaw02.lives: the chapter's first examples. (Printed by lives2.py.) -/
namespace Go.Proofs.YtbcbmkeeoognpaaGreatDoor
open Go.RowKit

end Go.Proofs.YtbcbmkeeoognpaaGreatDoor


/- cruciblelaw03.lives. (Printed by lives3.py.) -/
namespace Go.Proofs.YtbcbmkeeoognpaaGreatDoor
open Go.RowKit

/-- As RetQuo, signs and sizes by name. -/
def RetQuoR (r1 : Bool) (A1 : Int) (r2 : Bool) (A2 : Int) (ok : Bool) (w : World) (e : Ending) (w' : World) : Prop :=
  ∃ ad n c ad2 n2 c2, e = .returned (.tuple #[.agg #[.bool r1, .slice ad n c], .agg #[.bool r2, .slice ad2 n2 c2], .bool ok]) ∧ Can w' ad n c A1 ∧ Can w' ad2 n2 c2 A2 ∧ Below w.heap.size w w'
theorem RetQuo.named {Q R : Int} {ok : Bool} {r1 r2 : Bool} {A1 A2 : Int} (h1 : decide (Q < 0) = r1) (h2 : (Q.natAbs : Int) = A1) (h3 : decide (R < 0) = r2) (h4 : (R.natAbs : Int) = A2) {w : World} {e : Ending} {w' : World} (h : RetQuo Q R ok w e w') : RetQuoR r1 A1 r2 A2 ok w e w' := by
  obtain ⟨ad, n, c, ad2, n2, c2, e1, q1, q2, q3⟩ := h
  rw [h1, h3] at e1
  rw [h2] at q1
  rw [h4] at q2
  exact ⟨ad, n, c, ad2, n2, c2, e1, q1, q2, q3⟩
def RetIntRB (r : Bool) (A : Int) (ok : Bool) (w : World) (e : Ending) (w' : World) : Prop :=
  ∃ ad n c, e = .returned (.tuple #[.agg #[.bool r, .slice ad n c], .bool ok]) ∧ Can w' ad n c A ∧ Below w.heap.size w w'
theorem RetIntB.named {N : Int} {ok r : Bool} {A : Int} (h1 : decide (N < 0) = r) (h2 : (N.natAbs : Int) = A) {w : World} {e : Ending} {w' : World} (h : RetIntB N ok w e w') : RetIntRB r A ok w e w' := by
  obtain ⟨ad, n, c, e1, q1, q2⟩ := h
  rw [h1] at e1
  rw [h2] at q1
  exact ⟨ad, n, c, e1, q1, q2⟩
/-- A number of one limb. -/
theorem Can.one {w : World} {ad : Option Addr} {n c : Nat} {V : Int} (h : Can w ad n c V) (hV : 0 < V ∧ V < 4294967296) : n = 1 := by
  have h1 := h.len_le 1 (by omega)
  have h2 := h.zero_iff (by omega)
  omega

end Go.Proofs.YtbcbmkeeoognpaaGreatDoor


/- Whole numbers as words on values; the contracts of package whole and of the statements' helpers by them. -/
namespace Go.Proofs.YtbcbmkeeoognpaaGreatDoor
open Go Go.RowKit

theorem Rds.mv {w w' : World} {B B' : Bx} (h : Mv w B w' B') {k : IntKind} (hk : k = .u32 ∨ k = .u8) {ad : Option Addr} {n : Nat} {xs : List Int} (r : Rds w k ad n xs) : Rds w' k ad n xs := by
  refine ⟨r.len, fun j hj => ?_⟩
  obtain ⟨a, e, hc⟩ := r.cell j hj
  refine ⟨a, e, ?_⟩
  have hl := World.block_lt_of_cell? w _ hc
  rcases h.same _ hl with h1 | ⟨_, h2⟩
  · rw [← hc]; exact World.cell?_of_block h1
  · exact absurd hc (h2 _ k _ rfl hk)
def LIM : Nat := 274877906944
theorem lim_eq : LIM = 274877906944 := rfl
/-- N has at most k limbs. -/
def FitK (k : Nat) (N : Int) : Prop := (N.natAbs : Int) < 4294967296 ^ k
def Fits (N : Int) : Prop := ∃ k, k ≤ LIM ∧ FitK k N
theorem FitK.fits {k : Nat} {N : Int} (h : FitK k N) (hk : k ≤ 274877906944) : Fits N := ⟨k, hk, h⟩
theorem FitK.mono {k m : Nat} {N : Int} (h : FitK k N) (hk : k ≤ m) : FitK m N := Int.lt_of_lt_of_le h (pow_le (by omega) hk)
theorem FitK.neg {k : Nat} {N : Int} (h : FitK k N) : FitK k (-N) := by unfold FitK at *; rwa [Int.natAbs_neg]
theorem FitK.add {k m : Nat} {N M : Int} (h : FitK k N) (h' : FitK m M) : FitK (k + m + 1) (N + M) := by
  unfold FitK at *
  have := pow_add_lt _ _ _ _ h h'
  omega
theorem FitK.small {N : Int} (h : N.natAbs < 4294967296) : FitK 1 N := by unfold FitK; rw [Int.pow_one]; omega
theorem FitK.i64 {N : Int} (h : -9223372036854775808 ≤ N ∧ N < 9223372036854775808) : FitK 2 N := by
  unfold FitK
  have : (4294967296 : Int) ^ 2 = 18446744073709551616 := rfl
  omega
theorem FitK.le {k : Nat} {N M : Int} (h : FitK k N) (hM : M.natAbs ≤ N.natAbs) : FitK k M := by unfold FitK at *; omega

def PI (L : Nat) (N : Int) (v : Value) (w : World) (B : Bx) : Prop := ∃ ad n c, v = .agg #[.bool (decide (N < 0)), .slice ad n c] ∧ Can w ad n c (N.natAbs : Int) ∧ n ≤ L
/-- The number N in normal form. -/
def IsI (N : Int) : VP := ⟨PI LIM N, fun v w B w' B' h hp => by
  obtain ⟨ad, n, c, e, k, l⟩ := hp
  exact ⟨ad, n, c, e, ⟨k.le, k.rds.mv h (.inl rfl)⟩, l⟩⟩
def PN (N : Int) (v : Value) (w : World) (B : Bx) : Prop := ∃ ng ad n c V, v = .agg #[.bool ng, .slice ad n c] ∧ Num w ad n c V ∧ n ≤ LIM ∧ N = sI ng V
/-- The number N. -/
def IsN (N : Int) : VP := ⟨PN N, fun v w B w' B' h hp => by
  obtain ⟨ng, ad, n, c, V, e, k, l, hN⟩ := hp
  obtain ⟨xs, h1, h2, h3⟩ := k.row
  exact ⟨ng, ad, n, c, V, e, ⟨k.le, xs, h1.mv h (.inl rfl), h2, h3⟩, l, hN⟩⟩
def PArg (ng : Bool) (n : Nat) (xs : List Int) (v : Value) (w : World) (B : Bx) : Prop := ∃ ad c, v = .agg #[.bool ng, .slice ad n c] ∧ Arg w ad n c xs
/-- What was handed in. -/
def IsArg (ng : Bool) (n : Nat) (xs : List Int) : VP := ⟨PArg ng n xs, fun v w B w' B' h hp => by
  obtain ⟨ad, c, e, k⟩ := hp
  exact ⟨ad, c, e, ⟨k.le, k.rds.mv h (.inl rfl), k.dig⟩⟩⟩
theorem shapeI {b : Bool} {ad : Option Addr} {n c : Nat} {v : Value} (e : v = .agg #[.bool b, .slice ad n c]) : ∃ cs, v = .agg cs ∧ cs.size = 2 ∧ (cs.all (·.oneCell') = true) ∧ ∀ (j : Nat) (ik : IntKind) (x : Int), (ik = .u32 ∨ ik = .u8) → cs[j]? ≠ some (.int ik x) := by
  refine ⟨_, e, rfl, by simp [Value.oneCell'], fun j ik x _ => ?_⟩
  rcases j with _ | _ | j <;> simp
theorem shape_I {N : Int} : Shape 2 (IsI N) := fun v w B ⟨ad, n, c, e, _⟩ => shapeI e
theorem shape_N {N : Int} : Shape 2 (IsN N) := fun v w B ⟨ng, ad, n, c, V, e, _⟩ => shapeI e
/-- A variable not yet written. -/
abbrev Zero2 : VP := Lit (.agg #[.bool false, .slice none 0 0])
theorem shape_Z : Shape 2 Zero2 := fun v w B e => shapeI e
theorem Shape.two {n : Nat} {D : VP} (h : Shape n D) (v : Value) (w : World) (B : Bx) (hp : D.p v w B) : ∃ cs, v = .agg cs ∧ cs.size = n := by
  obtain ⟨cs, e, hn, _⟩ := h v w B hp
  exact ⟨cs, e, hn⟩
theorem tyI : TyOk Tryz.prog 52 2 := ⟨⟨_, Tryz.underlying52, rfl⟩, by kernel_rfl⟩
theorem zeroI : (Tryz.prog.info? 52).map (·.zero) = some (some (.agg #[.bool false, .slice none 0 0])) := by kernel_rfl
theorem zero_isI (w : World) (B : Bx) : (IsI 0).p (.agg #[.bool false, .slice none 0 0]) w B := by
  refine ⟨none, 0, 0, rfl, ⟨Nat.le_refl _, ?_⟩, Nat.zero_le _⟩
  show Rds w .u32 none 0 (dg 4294967296 0)
  rw [dg_zero]
  exact Rds.nil _ _ _

theorem RetInt.con {N : Int} {w : World} {B : Bx} {e : Ending} {w' : World} (hN : Fits N) (h : RetInt N w e w') : ∃ v, e = .returned v ∧ (IsI N).p v w' B ∧ Below w.heap.size w w' := by
  obtain ⟨ad, n, c, rfl, k, hb⟩ := h
  obtain ⟨q, hq, hf⟩ := hN
  exact ⟨_, rfl, ⟨ad, n, c, rfl, k, Nat.le_trans (k.len_le q hf) hq⟩, hb⟩
theorem RetBB.con {r : Bool} {w : World} {B : Bx} {e : Ending} {w' : World} (h : RetBB r w e w') : ∃ v, e = .returned v ∧ (IsB r).p v w' B ∧ Below w.heap.size w w' := ⟨_, h.1, rfl, h.2⟩
theorem PN.fit {N : Int} {v : Value} {w : World} {B : Bx} (h : (IsN N).p v w B) : Fits N := by
  obtain ⟨ng, ad, n, c, V, e, k, l, rfl⟩ := h
  refine ⟨n, l, ?_⟩
  unfold FitK
  rw [sI_abs ng V k.nonneg]
  exact k.lt
theorem con_same (X Y : Int) : Con Tryz.prog 21 [IsI X, IsI Y] (IsB (decide (X = Y))) := by
  refine ⟨fun _ _ => by go_simp, fun vs w B hB hV => ?_⟩
  match vs, hV with
  | [v, u], ⟨h1, h2, _⟩ =>
    obtain ⟨ad, n, c, rfl, k, l⟩ := h1
    obtain ⟨ad2, n2, c2, rfl, k2, l2⟩ := h2
    refine (sameInt_calls _ _ ad ad2 n n2 c c2 _ _ w k k2 (by omega) (by omega) (by have := lim_eq; omega) (by have := lim_eq; omega)).mono fun e w' h => ?_
    rw [show ((decide (X < 0) == decide (Y < 0)) && decide ((X.natAbs : Int) = Y.natAbs)) = decide (X = Y) from ?_] at h
    · exact h.con
    · by_cases h1 : X < 0 <;> by_cases h2 : Y < 0 <;> simp [h1, h2] <;> omega
theorem con_sameT {X Y : Int} (h : X = Y) : Con Tryz.prog 21 [IsI X, IsI Y] (IsB true) := by
  have := con_same X Y
  rwa [decide_eq_true h] at this
theorem PArg.fit {ng : Bool} {n : Nat} {xs : List Int} {X : Int} {v : Value} {w : World} {B : Bx} (hX : sI ng (val 4294967296 xs) = X) (h : (IsArg ng n xs).p v w B) : FitK n X := by
  obtain ⟨ad, c, e, k⟩ := h
  unfold FitK
  rw [← hX, sI_abs ng _ k.nonneg]
  exact k.lt
section
variable {need : List (Tmp × FD)} {d : Option Tmp} {ty : TypeId} {pos : String} {af : Array Edge} {g : Option (Nat × Bool)}
end
end Go.Proofs.YtbcbmkeeoognpaaGreatDoor


/- Parts of whole numbers; natural numbers as words on values; the contracts of crucibleref01 by them. -/
namespace Go.Proofs.YtbcbmkeeoognpaaGreatDoor
open Go Go.RowKit

def PM (V : Int) (v : Value) (w : World) (B : Bx) : Prop := ∃ ad n c, v = .slice ad n c ∧ Num w ad n c V ∧ n ≤ LIM
/-- A list of worth V. -/
def IsM (V : Int) : VP := ⟨PM V, fun v w B w' B' h hp => by
  obtain ⟨ad, n, c, e, k, l⟩ := hp
  obtain ⟨xs, h1, h2, h3⟩ := k.row
  exact ⟨ad, n, c, e, ⟨k.le, xs, h1.mv h (.inl rfl), h2, h3⟩, l⟩⟩
def PC (V : Int) (v : Value) (w : World) (B : Bx) : Prop := ∃ ad n c, v = .slice ad n c ∧ Can w ad n c V ∧ n ≤ LIM ∧ 0 ≤ V
/-- The list of the number V. -/
def IsC (V : Int) : VP := ⟨PC V, fun v w B w' B' h hp => by
  obtain ⟨ad, n, c, e, k, l, hV⟩ := hp
  exact ⟨ad, n, c, e, ⟨k.le, k.rds.mv h (.inl rfl)⟩, l, hV⟩⟩
/-- A bool that is the sign of X, where X is not 0. -/
def IsSg (X : Int) : VP := ⟨fun v _ _ => ∃ ng : Bool, v = .bool ng ∧ X = sI ng (X.natAbs : Int), fun _ _ _ _ _ _ h => h⟩
theorem weakCM {V : Int} (v : Value) (w : World) (B : Bx) (h : (IsC V).p v w B) : (IsM V).p v w B := by
  obtain ⟨ad, n, c, e, k, l, hV⟩ := h
  exact ⟨ad, n, c, e, k.num hV, l⟩
theorem weakZI (v : Value) (w : World) (B : Bx) (h : Zero2.p v w B) : (IsI 0).p v w B := by
  obtain rfl := h
  exact zero_isI w B
theorem weakNilM (v : Value) (w : World) (B : Bx) (h : (Lit (.slice none 0 0)).p v w B) : (IsC 0).p v w B := by
  obtain rfl := h
  refine ⟨none, 0, 0, rfl, ⟨Nat.le_refl _, ?_⟩, Nat.zero_le _, Int.le_refl _⟩
  rw [dg_zero]
  exact Rds.nil _ _ _
theorem PM.nonneg {V : Int} {v : Value} {w : World} {B : Bx} (h : (IsM V).p v w B) : 0 ≤ V := by
  obtain ⟨ad, n, c, e, k, l⟩ := h
  exact k.nonneg
theorem PM.fit {V : Int} {v : Value} {w : World} {B : Bx} (h : (IsM V).p v w B) : Fits V := by
  have h0 := PM.nonneg h
  obtain ⟨ad, n, c, e, k, l⟩ := h
  refine ⟨n, l, ?_⟩
  unfold FitK
  have := k.lt
  omega
section
variable {need : List (Tmp × FD)} {d : Option Tmp} {ty : TypeId} {pos : String} {af : Array Edge} {g : Option (Nat × Bool)} {x : Operand} {D : VP}
set_option maxRecDepth 50000 in
theorem ok_addrI0 (h : Opd need x (.box 52 2 D)) : OpOk Tryz.prog ⟨d, .fieldAddr 52 x 0, ty, pos, af, g⟩ need (.ptr 52 2 D 0) false :=
  ok_fieldAddr 0 0 Tryz.underlying52 rfl rfl (fun w => ⟨1, by go_simp, by decide⟩) h
set_option maxRecDepth 50000 in
theorem ok_addrI1 (h : Opd need x (.box 52 2 D)) : OpOk Tryz.prog ⟨d, .fieldAddr 52 x 1, ty, pos, af, g⟩ need (.ptr 52 2 D 1) false :=
  ok_fieldAddr 1 1 Tryz.underlying52 rfl rfl (fun w => ⟨1, by go_simp, by decide⟩) h
theorem aggBool (w : World) : (isAgg 4).run Tryz.prog w = .ok false w := by go_simp
theorem aggNat (w : World) : (isAgg 23).run Tryz.prog w = .ok false w := by go_simp
theorem ok_loadNegN {N : Int} (h : Opd need x (.ptr 52 2 (IsN N) 0)) : OpOk Tryz.prog ⟨d, .load 4 x, ty, pos, af, g⟩ need (.val (IsSg N)) false :=
  ok_loadPtr1 aggBool h (by decide) fun cs v w B ⟨ng, ad, n, c, V, e, k, l, hN⟩ hv => by
    injection e with e
    subst e
    simp at hv
    exact ⟨ng, hv.symm, by rw [hN, sI_abs ng V k.nonneg]⟩
theorem ok_loadMagN {N : Int} (h : Opd need x (.ptr 52 2 (IsN N) 1)) : OpOk Tryz.prog ⟨d, .load 23 x, ty, pos, af, g⟩ need (.val (IsM (N.natAbs : Int))) false :=
  ok_loadPtr1 aggNat h (by decide) fun cs v w B ⟨ng, ad, n, c, V, e, k, l, hN⟩ hv => by
    injection e with e
    subst e
    simp at hv
    exact ⟨ad, n, c, hv.symm, by rw [hN, sI_abs ng V k.nonneg]; exact k, l⟩
set_option maxRecDepth 50000 in
theorem run_build2 (b : Bool) (ad : Option Addr) (n c : Nat) (w : World) : (Instr.build 52 #[(0, .bool b), (1, .slice ad n c)]).run Tryz.prog w = .ok (.agg #[.bool b, .slice ad n c]) w := by go_simp
set_option maxRecDepth 50000 in
theorem ok_buildBN {y : Operand} {b : Bool} {V : Int} (h : Opd need x (.val (IsB b))) (h' : Opd need y (.val (IsM V))) : OpOk Tryz.prog ⟨d, .build 52 #[(0, x), (1, y)], ty, pos, af, g⟩ need (.val (IsN (sI b V))) false :=
  ok_via2 h h' fun ρ w B v u e1 ⟨ad, n, c, e2, k, l⟩ h1 h2 => by
    refine ⟨.agg #[.bool b, .slice ad n c], ?_, b, ad, n, c, _, rfl, k, l, rfl⟩
    have := run_build2 b ad n c w
    have e1 : v = .bool b := e1
    simp [execOp, h1, h2, e1, e2, this]
theorem len_run (ad : Option Addr) (n c : Nat) (ρ : Operand → Value) (w : World) (hx : ρ x = .slice ad n c) : (execOp ρ ⟨d, .call { callee := .builtin .len, args := #[x], argTypes := #[23] }, 3, pos, af, g⟩).run Tryz.prog w = .ok (.value (.int .i64 n)) w := by
  unfold execOp
  simp only [hx, resolve, List.map_toArray, List.map_cons, List.map_nil]
  go_simp
end

theorem FitK.sI {k : Nat} {V : Int} {b : Bool} (h : FitK k V) : FitK k (sI b V) := by
  cases b
  · exact h
  · exact h.neg

theorem RetC.con {V : Int} {w : World} {B : Bx} {e : Ending} {w' : World} (hV : 0 ≤ V) (hN : Fits V) (h : RetC V w e w') : ∃ v, e = .returned v ∧ (IsC V).p v w' B ∧ Below w.heap.size w w' := by
  obtain ⟨ad, n, c, rfl, k, hb⟩ := h
  obtain ⟨q, hq, hf⟩ := hN
  unfold FitK at hf
  exact ⟨_, rfl, ⟨ad, n, c, rfl, k, Nat.le_trans (k.len_le q (by omega)) hq, hV⟩, hb⟩
end Go.Proofs.YtbcbmkeeoognpaaGreatDoor


/- crucibleref03: Neg Add Sub Mul. (Printed by flowfn.py.) -/
namespace Go.Proofs.YtbcbmkeeoognpaaGreatDoor
open Go Go.RowKit

end Go.Proofs.YtbcbmkeeoognpaaGreatDoor


/- Texts of whole numbers: there and back. -/
namespace Go.Proofs.YtbcbmkeeoognpaaGreatDoor
open Go Go.RowKit

section
variable {need : List (Tmp × FD)} {d : Option Tmp} {ty : TypeId} {pos : String} {af : Array Edge} {g : Option (Nat × Bool)} {x : Operand}
end
end Go.Proofs.YtbcbmkeeoognpaaGreatDoor


/- R3cmp. (Printed by flowfn.py.) -/
namespace Go.Proofs.YtbcbmkeeoognpaaGreatDoor
open Go Go.RowKit

theorem lit_int {A N : Int} {k : IntKind} (e : A = N) {v : Value} {w : World} {B : Bx} (h : (Lit (.int k A)).p v w B) : (Lit (.int k N)).p v w B := e ▸ h

end Go.Proofs.YtbcbmkeeoognpaaGreatDoor


/- Texts in the document's way: lists of one limb, lengths of lists; the contract of crucibleref02.Digits; what Read takes. -/
namespace Go.Proofs.YtbcbmkeeoognpaaGreatDoor
open Go Go.RowKit

section
variable {need : List (Tmp × FD)} {d : Option Tmp} {ty : TypeId} {pos : String} {af : Array Edge} {g : Option (Nat × Bool)} {x : Operand}
theorem ok_lenC {V : Int} (h : Opd need x (.val (IsC V))) : OpOk Tryz.prog ⟨d, .call { callee := .builtin .len, args := #[x], argTypes := #[23] }, 3, pos, af, g⟩ need (.val (Lit (.int .i64 ((dg 4294967296 V).length : Int)))) false :=
  ok_via h fun ρ w B v ⟨ad, n, c, e, k, l, hV⟩ h1 => ⟨_, len_run ad n c ρ w (h1.trans e), by rw [show n = (dg 4294967296 V).length from k.rds.len.symm]; rfl⟩
end
theorem isB_eq {A N : Bool} (e : A = N) {v : Value} {w : World} {B : Bx} (h : (IsB A).p v w B) : (IsB N).p v w B := e ▸ h
theorem dg_len_zero {V : Int} (h : 0 ≤ V) : ((dg 4294967296 V).length : Int) = 0 ↔ V = 0 := by
  constructor
  · intro e
    have h2 : dg 4294967296 V = [] := List.length_eq_zero_iff.1 (by omega)
    have := val_dg 4294967296 (by omega) V h
    rw [h2] at this
    exact this.symm
  · rintro rfl; rw [dg_zero]; rfl
end Go.Proofs.YtbcbmkeeoognpaaGreatDoor

