/- Contracts of functions, and plain facts, part 23. -/
import Derived.Test.YtgnophflogmmaaaPk9
import Derived.Test.YtgnophflogmmaaaPk10
import Derived.Test.YtgnophflogmmaaaPk13
import Derived.Test.YtgnophflogmmaaaPk14
import Derived.Test.YtgnophflogmmaaaPk15
import Derived.Test.YtgnophflogmmaaaPk16
import Derived.Test.YtgnophflogmmaaaPk17
import Derived.Test.YtgnophflogmmaaaPk20
import Derived.Test.YtgnophflogmmaaaPk22
set_option linter.unusedVariables false
set_option linter.unusedSimpArgs false
/- Whole numbers as words on values; the contracts of package whole and of the statements' helpers by them. -/
namespace Go.Proofs.Ytgnophflogmmaaa
open Go Go.RowKit

theorem Rds.mv {w w' : World} {B B' : Bx} (h : Mv w B w' B') {k : IntKind} (hk : k = .u32 ∨ k = .u8) {ad : Option Addr} {n : Nat} {xs : List Int} (r : Rds w k ad n xs) : Rds w' k ad n xs := by
  refine ⟨r.len, fun j hj => ?_⟩
  obtain ⟨a, e, hc⟩ := r.cell j hj
  refine ⟨a, e, ?_⟩
  have hl := World.block_lt_of_cell? w _ hc
  rcases h.same _ hl with h1 | ⟨_, h2⟩
  · rw [← hc]; exact World.cell?_of_block h1
  · exact absurd hc (h2 _ k _ rfl hk)
def LIM : Nat := 274877906944
theorem lim_eq : LIM = 274877906944 := rfl
/-- N has at most k limbs. -/
def FitK (k : Nat) (N : Int) : Prop := (N.natAbs : Int) < 4294967296 ^ k
def Fits (N : Int) : Prop := ∃ k, k ≤ LIM ∧ FitK k N
theorem FitK.fits {k : Nat} {N : Int} (h : FitK k N) (hk : k ≤ 274877906944) : Fits N := ⟨k, hk, h⟩
theorem FitK.mono {k m : Nat} {N : Int} (h : FitK k N) (hk : k ≤ m) : FitK m N := Int.lt_of_lt_of_le h (pow_le (by omega) hk)
theorem FitK.neg {k : Nat} {N : Int} (h : FitK k N) : FitK k (-N) := by unfold FitK at *; rwa [Int.natAbs_neg]
theorem FitK.add {k m : Nat} {N M : Int} (h : FitK k N) (h' : FitK m M) : FitK (k + m + 1) (N + M) := by
  unfold FitK at *
  have := pow_add_lt _ _ _ _ h h'
  omega
theorem FitK.sub {k m : Nat} {N M : Int} (h : FitK k N) (h' : FitK m M) : FitK (k + m + 1) (N - M) := by
  have := h.add h'.neg
  rwa [← Int.sub_eq_add_neg] at this
theorem FitK.mul {k m : Nat} {N M : Int} (h : FitK k N) (h' : FitK m M) : FitK (k + m) (N * M) := by
  unfold FitK at *
  rw [Int.natAbs_mul, Int.natCast_mul]
  exact pow_mul_lt _ _ _ _ (by omega) (by omega) h h'
theorem FitK.small {N : Int} (h : N.natAbs < 4294967296) : FitK 1 N := by unfold FitK; rw [Int.pow_one]; omega
theorem FitK.i64 {N : Int} (h : -9223372036854775808 ≤ N ∧ N < 9223372036854775808) : FitK 2 N := by
  unfold FitK
  have : (4294967296 : Int) ^ 2 = 18446744073709551616 := rfl
  omega
theorem FitK.le {k : Nat} {N M : Int} (h : FitK k N) (hM : M.natAbs ≤ N.natAbs) : FitK k M := by unfold FitK at *; omega

def PI (L : Nat) (N : Int) (v : Value) (w : World) (B : Bx) : Prop := ∃ ad n c, v = .agg #[.bool (decide (N < 0)), .slice ad n c] ∧ Can w ad n c (N.natAbs : Int) ∧ n ≤ L
/-- The number N in normal form. -/
def IsI (N : Int) : VP := ⟨PI LIM N, fun v w B w' B' h hp => by
  obtain ⟨ad, n, c, e, k, l⟩ := hp
  exact ⟨ad, n, c, e, ⟨k.le, k.rds.mv h (.inl rfl)⟩, l⟩⟩
def PN (N : Int) (v : Value) (w : World) (B : Bx) : Prop := ∃ ng ad n c V, v = .agg #[.bool ng, .slice ad n c] ∧ Num w ad n c V ∧ n ≤ LIM ∧ N = sI ng V
/-- The number N. -/
def IsN (N : Int) : VP := ⟨PN N, fun v w B w' B' h hp => by
  obtain ⟨ng, ad, n, c, V, e, k, l, hN⟩ := hp
  obtain ⟨xs, h1, h2, h3⟩ := k.row
  exact ⟨ng, ad, n, c, V, e, ⟨k.le, xs, h1.mv h (.inl rfl), h2, h3⟩, l, hN⟩⟩
def PArg (ng : Bool) (n : Nat) (xs : List Int) (v : Value) (w : World) (B : Bx) : Prop := ∃ ad c, v = .agg #[.bool ng, .slice ad n c] ∧ Arg w ad n c xs
/-- What was handed in. -/
def IsArg (ng : Bool) (n : Nat) (xs : List Int) : VP := ⟨PArg ng n xs, fun v w B w' B' h hp => by
  obtain ⟨ad, c, e, k⟩ := hp
  exact ⟨ad, c, e, ⟨k.le, k.rds.mv h (.inl rfl), k.dig⟩⟩⟩
def PTw (ng : Bool) (n : Nat) (xs : List Int) (v : Value) (w : World) (B : Bx) : Prop := ∃ b, v = .agg #[.bool ng, .slice (some ⟨b, 0, none⟩) n (n + 1)] ∧ Tw w b n xs
/-- Its copy. -/
def IsTw (ng : Bool) (n : Nat) (xs : List Int) : VP := ⟨PTw ng n xs, fun v w B w' B' h hp => by
  obtain ⟨b, e, k⟩ := hp
  have hlt := k.blk.lt
  refine ⟨b, e, ⟨k.len, ?_, k.dig⟩⟩
  have hblk := k.blk
  have h0 := hblk.cell 0 (by simp)
  unfold Blk at *
  rw [(h.same b hlt).resolve_right (fun h2 => h2.2 _ _ _ rfl (.inl rfl) h0)]
  exact hblk⟩
theorem sI_named2 (N : Int) : sI (decide (N < 0)) (N.natAbs : Int) = N := by
  unfold sI
  by_cases h : N < 0
  · rw [decide_eq_true h, if_pos rfl]; omega
  · rw [decide_eq_false h]; simp; omega
theorem weakIN {N : Int} (v : Value) (w : World) (B : Bx) (h : (IsI N).p v w B) : (IsN N).p v w B := by
  obtain ⟨ad, n, c, e, k, l⟩ := h
  exact ⟨_, ad, n, c, _, e, k.num (by omega), l, (sI_named2 N).symm⟩
theorem weakAN {ng : Bool} {n : Nat} {xs : List Int} {N : Int} (hn : n ≤ 274877906944) (hN : sI ng (val 4294967296 xs) = N) (v : Value) (w : World) (B : Bx) (h : (IsArg ng n xs).p v w B) : (IsN N).p v w B := by
  obtain ⟨ad, c, e, k⟩ := h
  exact ⟨_, ad, n, c, _, e, k.num, hn, hN.symm⟩
theorem weakTN {ng : Bool} {n : Nat} {xs : List Int} {N : Int} (hn : n ≤ 274877906944) (hN : sI ng (val 4294967296 xs) = N) (v : Value) (w : World) (B : Bx) (h : (IsTw ng n xs).p v w B) : (IsN N).p v w B := by
  obtain ⟨b, e, k⟩ := h
  exact ⟨_, _, n, _, _, e, k.num, hn, hN.symm⟩
theorem shapeI {b : Bool} {ad : Option Addr} {n c : Nat} {v : Value} (e : v = .agg #[.bool b, .slice ad n c]) : ∃ cs, v = .agg cs ∧ cs.size = 2 ∧ (cs.all (·.oneCell') = true) ∧ ∀ (j : Nat) (ik : IntKind) (x : Int), (ik = .u32 ∨ ik = .u8) → cs[j]? ≠ some (.int ik x) := by
  refine ⟨_, e, rfl, by simp [Value.oneCell'], fun j ik x _ => ?_⟩
  rcases j with _ | _ | j <;> simp
theorem shape_I {N : Int} : Shape 2 (IsI N) := fun v w B ⟨ad, n, c, e, _⟩ => shapeI e
theorem shape_N {N : Int} : Shape 2 (IsN N) := fun v w B ⟨ng, ad, n, c, V, e, _⟩ => shapeI e
theorem shape_Arg {ng : Bool} {n : Nat} {xs : List Int} : Shape 2 (IsArg ng n xs) := fun v w B ⟨ad, c, e, _⟩ => shapeI e
theorem shape_Tw {ng : Bool} {n : Nat} {xs : List Int} : Shape 2 (IsTw ng n xs) := fun v w B ⟨b, e, _⟩ => shapeI e
/-- A variable not yet written. -/
abbrev Zero2 : VP := Lit (.agg #[.bool false, .slice none 0 0])
theorem shape_Z : Shape 2 Zero2 := fun v w B e => shapeI e
theorem Shape.two {n : Nat} {D : VP} (h : Shape n D) (v : Value) (w : World) (B : Bx) (hp : D.p v w B) : ∃ cs, v = .agg cs ∧ cs.size = n := by
  obtain ⟨cs, e, hn, _⟩ := h v w B hp
  exact ⟨cs, e, hn⟩
theorem tyI : TyOk Try.prog 25 2 := ⟨⟨_, Try.underlying25, rfl⟩, by kernel_rfl⟩
theorem zeroI : (Try.prog.info? 25).map (·.zero) = some (some (.agg #[.bool false, .slice none 0 0])) := by kernel_rfl
theorem zero_isI (w : World) (B : Bx) : (IsI 0).p (.agg #[.bool false, .slice none 0 0]) w B := by
  refine ⟨none, 0, 0, rfl, ⟨Nat.le_refl _, ?_⟩, Nat.zero_le _⟩
  show Rds w .u32 none 0 (dg 4294967296 0)
  rw [dg_zero]
  exact Rds.nil _ _ _

/-! ### What is answered -/
theorem RetInt.con {N : Int} {w : World} {B : Bx} {e : Ending} {w' : World} (hN : Fits N) (h : RetInt N w e w') : ∃ v, e = .returned v ∧ (IsI N).p v w' B ∧ Below w.heap.size w w' := by
  obtain ⟨ad, n, c, rfl, k, hb⟩ := h
  obtain ⟨q, hq, hf⟩ := hN
  exact ⟨_, rfl, ⟨ad, n, c, rfl, k, Nat.le_trans (k.len_le q hf) hq⟩, hb⟩
theorem RetBB.con {r : Bool} {w : World} {B : Bx} {e : Ending} {w' : World} (h : RetBB r w e w') : ∃ v, e = .returned v ∧ (IsB r).p v w' B ∧ Below w.heap.size w w' := ⟨_, h.1, rfl, h.2⟩
theorem PN.fit {N : Int} {v : Value} {w : World} {B : Bx} (h : (IsN N).p v w B) : Fits N := by
  obtain ⟨ng, ad, n, c, V, e, k, l, rfl⟩ := h
  refine ⟨n, l, ?_⟩
  unfold FitK
  rw [sI_abs ng V k.nonneg]
  exact k.lt
theorem con_norm (X : Int) : Con Try.prog 33 [IsN X] (IsI X) := by
  refine ⟨fun _ _ => by go_simp, fun vs w B hB hV => ?_⟩
  match vs, hV with
  | [v], ⟨h1, _⟩ =>
    have hf := PN.fit h1
    obtain ⟨ng, ad, n, c, V, rfl, k, l, rfl⟩ := h1
    exact (wnorm_calls ng ad n c V w k (by have := lim_eq; omega)).mono fun e w' h => h.con hf
theorem con_neg (X : Int) : Con Try.prog 41 [IsN X] (IsI (-X)) := by
  refine ⟨fun _ _ => by go_simp, fun vs w B hB hV => ?_⟩
  match vs, hV with
  | [v], ⟨h1, _⟩ =>
    obtain ⟨q, hq, hf⟩ := PN.fit h1
    obtain ⟨ng, ad, n, c, V, rfl, k, l, rfl⟩ := h1
    exact (wneg_calls ng ad n c V w k (by have := lim_eq; omega)).mono fun e w' h => h.con ⟨q, hq, hf.neg⟩
theorem con_from (n : Int) (hn : -9223372036854775808 ≤ n ∧ n < 9223372036854775808) : Con Try.prog 35 [Lit (.int .i64 n)] (IsI n) := by
  refine ⟨fun _ _ => by go_simp, fun vs w B hB hV => ?_⟩
  match vs, hV with
  | [v], ⟨h1, _⟩ =>
    obtain rfl := h1
    exact (wfrom_calls n w hn).mono fun e w' h => h.con ⟨2, by have := lim_eq; omega, FitK.i64 hn⟩
theorem con_add (X Y : Int) (hf : Fits (X + Y)) : Con Try.prog 39 [IsN X, IsN Y] (IsI (X + Y)) := by
  refine ⟨fun _ _ => by go_simp, fun vs w B hB hV => ?_⟩
  match vs, hV with
  | [v, u], ⟨h1, h2, _⟩ =>
    obtain ⟨ng, ad, n, c, V, rfl, k, l, rfl⟩ := h1
    obtain ⟨ng2, ad2, n2, c2, V2, rfl, k2, l2, rfl⟩ := h2
    exact (wadd_calls ng ad n c V ng2 ad2 n2 c2 V2 w k (by have := lim_eq; omega) k2 (by have := lim_eq; omega)).mono fun e w' h => h.con hf
theorem con_sub (X Y : Int) (hf : Fits (X - Y)) : Con Try.prog 42 [IsN X, IsN Y] (IsI (X - Y)) := by
  refine ⟨fun _ _ => by go_simp, fun vs w B hB hV => ?_⟩
  match vs, hV with
  | [v, u], ⟨h1, h2, _⟩ =>
    obtain ⟨ng, ad, n, c, V, rfl, k, l, rfl⟩ := h1
    obtain ⟨ng2, ad2, n2, c2, V2, rfl, k2, l2, rfl⟩ := h2
    exact (wsub_calls ng ad n c V ng2 ad2 n2 c2 V2 w k (by have := lim_eq; omega) k2 (by have := lim_eq; omega)).mono fun e w' h => h.con hf
theorem con_mul (X Y : Int) (hf : Fits (X * Y)) : Con Try.prog 40 [IsN X, IsN Y] (IsI (X * Y)) := by
  refine ⟨fun _ _ => by go_simp, fun vs w B hB hV => ?_⟩
  match vs, hV with
  | [v, u], ⟨h1, h2, _⟩ =>
    obtain ⟨ng, ad, n, c, V, rfl, k, l, rfl⟩ := h1
    obtain ⟨ng2, ad2, n2, c2, V2, rfl, k2, l2, rfl⟩ := h2
    exact (wmul_calls ng ad n c V ng2 ad2 n2 c2 V2 w k (by have := lim_eq; omega) k2 (by have := lim_eq; omega)).mono fun e w' h => h.con hf
theorem con_cmp (X Y : Int) : Con Try.prog 37 [IsN X, IsN Y] (Lit (.int .i64 (cmpI X Y))) := by
  refine ⟨fun _ _ => by go_simp, fun vs w B hB hV => ?_⟩
  match vs, hV with
  | [v, u], ⟨h1, h2, _⟩ =>
    obtain ⟨ng, ad, n, c, V, rfl, k, l, rfl⟩ := h1
    obtain ⟨ng2, ad2, n2, c2, V2, rfl, k2, l2, rfl⟩ := h2
    exact (wcmp_calls ng ad n c V ng2 ad2 n2 c2 V2 w k (by have := lim_eq; omega) k2 (by have := lim_eq; omega)).mono fun e w' h => ⟨_, h.1, rfl, h.2⟩
theorem tdiv_abs (X Y : Int) : (X.tdiv Y).natAbs ≤ X.natAbs := by
  rw [Int.natAbs_tdiv]; exact Nat.div_le_self _ _
theorem trem_abs (X Y : Int) : (tremI X Y).natAbs ≤ X.natAbs := by
  unfold tremI
  split
  · simp
  · rw [Int.natAbs_tmod]; exact Nat.mod_le _ _
theorem con_quo (X Y : Int) : Con Try.prog 16 [IsN X, IsN Y] (Tup [IsI (X.tdiv Y), IsI (tremI X Y), IsB (decide (Y ≠ 0))]) := by
  refine ⟨fun _ _ => by go_simp, fun vs w B hB hV => ?_⟩
  match vs, hV with
  | [v, u], ⟨h1, h2, _⟩ =>
    obtain ⟨q, hq, hf⟩ := PN.fit h1
    obtain ⟨ng, ad, n, c, V, rfl, k, l, rfl⟩ := h1
    obtain ⟨ng2, ad2, n2, c2, V2, rfl, k2, l2, rfl⟩ := h2
    refine (wquo_calls ng ad n c V ng2 ad2 n2 c2 V2 w k (by have := lim_eq; omega) k2 (by have := lim_eq; omega)).mono ?_
    rintro e w' ⟨a1, m1, d1, a2, m2, d2, rfl, k1, k3, hb⟩
    exact ⟨_, rfl, ⟨_, rfl, ⟨a1, m1, d1, rfl, k1, Nat.le_trans (k1.len_le q (hf.le (tdiv_abs _ _))) hq⟩, ⟨a2, m2, d2, rfl, k3, Nat.le_trans (k3.len_le q (hf.le (trem_abs _ _))) hq⟩, rfl, trivial⟩, hb⟩
theorem con_int64 (X : Int) : Con Try.prog 29 [IsN X] (Tup [Lit (.int .i64 (if okI64 X then X else 0)), IsB (okI64 X)]) := by
  refine ⟨fun _ _ => by go_simp, fun vs w B hB hV => ?_⟩
  match vs, hV with
  | [v], ⟨h1, _⟩ =>
    obtain ⟨ng, ad, n, c, V, rfl, k, l, rfl⟩ := h1
    exact (wint64_calls ng ad n c V w k (by have := lim_eq; omega)).mono fun e w' h => ⟨_, h.1, ⟨_, rfl, rfl, rfl, trivial⟩, h.2⟩
theorem con_uint64 (X : Int) : Con Try.prog 30 [IsN X] (Tup [Lit (.int .u64 (if okU64 X then X else 0)), IsB (okU64 X)]) := by
  refine ⟨fun _ _ => by go_simp, fun vs w B hB hV => ?_⟩
  match vs, hV with
  | [v], ⟨h1, _⟩ =>
    obtain ⟨ng, ad, n, c, V, rfl, k, l, rfl⟩ := h1
    exact (wuint64_calls ng ad n c V w k (by have := lim_eq; omega)).mono fun e w' h => ⟨_, h.1, ⟨_, rfl, rfl, rfl, trivial⟩, h.2⟩
theorem con_show (X : Int) : Con Try.prog 23 [IsN X] (Lit (.string (strB (showL X)))) := by
  refine ⟨fun _ _ => by go_simp, fun vs w B hB hV => ?_⟩
  match vs, hV with
  | [v], ⟨h1, _⟩ =>
    obtain ⟨ng, ad, n, c, V, rfl, k, l, rfl⟩ := h1
    exact (wshow_calls ng ad n c V w k (by have := lim_eq; omega)).mono fun e w' h => ⟨_, h.1, rfl, h.2⟩
theorem con_twos (X k : Int) : Con Try.prog 25 [IsN X, Lit (.int .i64 k)] (Tup [Lit (.string (strB (twosL X k))), IsB (twosOk X k)]) := by
  refine ⟨fun _ _ => by go_simp, fun vs w B hB hV => ?_⟩
  match vs, hV with
  | [v, u], ⟨h1, h2, _⟩ =>
    obtain ⟨ng, ad, n, c, V, rfl, k1, l, rfl⟩ := h1
    obtain rfl := h2
    exact (wtwos_calls ng ad n c V k w k1 (by have := lim_eq; omega)).mono fun e w' h => ⟨_, h.1, ⟨_, rfl, rfl, rfl, trivial⟩, h.2⟩
theorem con_twinInt (ng : Bool) (n : Nat) (xs : List Int) (hn : n ≤ 70368744177663) : Con Try.prog 15 [IsArg ng n xs] (IsTw ng n xs) := by
  refine ⟨fun _ _ => by go_simp, fun vs w B hB hV => ?_⟩
  match vs, hV with
  | [v], ⟨h1, _⟩ =>
    obtain ⟨ad, c, rfl, k⟩ := h1
    refine (twinInt_calls ng ad n c xs w k hn).mono ?_
    rintro e w' ⟨b, rfl, ht, hb⟩
    exact ⟨_, rfl, ⟨b, rfl, ht⟩, hb⟩
theorem con_same (X Y : Int) : Con Try.prog 18 [IsI X, IsI Y] (IsB (decide (X = Y))) := by
  refine ⟨fun _ _ => by go_simp, fun vs w B hB hV => ?_⟩
  match vs, hV with
  | [v, u], ⟨h1, h2, _⟩ =>
    obtain ⟨ad, n, c, rfl, k, l⟩ := h1
    obtain ⟨ad2, n2, c2, rfl, k2, l2⟩ := h2
    refine (sameInt_calls _ _ ad ad2 n n2 c c2 _ _ w k k2 (by omega) (by omega) (by have := lim_eq; omega) (by have := lim_eq; omega)).mono fun e w' h => ?_
    rw [show ((decide (X < 0) == decide (Y < 0)) && decide ((X.natAbs : Int) = Y.natAbs)) = decide (X = Y) from ?_] at h
    · exact h.con
    · by_cases h1 : X < 0 <;> by_cases h2 : Y < 0 <;> simp [h1, h2] <;> omega
theorem con_left (ng : Bool) (n : Nat) (xs : List Int) (hn : n ≤ 1000000000000) : Con Try.prog 19 [IsTw ng n xs, IsArg ng n xs] (IsB true) := by
  refine ⟨fun _ _ => by go_simp, fun vs w B hB hV => ?_⟩
  match vs, hV with
  | [v, u], ⟨h1, h2, _⟩ =>
    obtain ⟨b, rfl, k⟩ := h1
    obtain ⟨ad, c, rfl, k2⟩ := h2
    exact (leftInt_calls ng b ad n c xs w k k2 hn).mono fun e w' h => h.con
theorem con_lives3 : Con Try.prog 20 [] (IsB true) := by
  refine ⟨fun _ _ => by go_simp, fun vs w B hB hV => ?_⟩
  match vs, hV with
  | [], _ => exact (lives3_calls w).mono fun e w' h => ⟨_, h.1, rfl, h.2⟩
theorem con_sameT {X Y : Int} (h : X = Y) : Con Try.prog 18 [IsI X, IsI Y] (IsB true) := by
  have := con_same X Y
  rwa [decide_eq_true h] at this
theorem PArg.fit {ng : Bool} {n : Nat} {xs : List Int} {X : Int} {v : Value} {w : World} {B : Bx} (hX : sI ng (val 4294967296 xs) = X) (h : (IsArg ng n xs).p v w B) : FitK n X := by
  obtain ⟨ad, c, e, k⟩ := h
  unfold FitK
  rw [← hX, sI_abs ng _ k.nonneg]
  exact k.lt
theorem con_normal (X : Int) : Con Try.prog 38 [IsI X] (IsB true) := by
  refine ⟨fun _ _ => by go_simp, fun vs w B hB hV => ?_⟩
  match vs, hV with
  | [v], ⟨h1, _⟩ =>
    obtain ⟨ad, n, c, rfl, k, l⟩ := h1
    exact (normal_calls _ ad n c _ w k (by omega) (fun h => by have := of_decide_eq_true h; omega) (by have := lim_eq; omega)).mono fun e w' h => ⟨_, h.1, rfl, h.2⟩

/-! ### Beyond -/
def PInts (l : List Nat) (v : Value) (w : World) (B : Bx) : Prop := ∃ b c, ∃ f : Nat → Option Addr × Nat, v = .slice (some ⟨b, 0, none⟩) l.length c ∧ ¬ B b ∧ b < w.heap.size ∧ ∀ j, j < l.length → w.cell? ⟨b, j * 2 + 1, none⟩ = some (.slice (f j).1 (l[j]?.getD 0) (f j).2)
def IsInts (l : List Nat) : VP := ⟨PInts l, fun v w B w' B' h hp => by
  obtain ⟨b, c, f, e, hb, hlt, hc⟩ := hp
  refine ⟨b, c, f, e, fun h2 => hb (h.box b hlt h2), Nat.lt_of_lt_of_le hlt h.size, fun j hj => ?_⟩
  rw [← hc j hj]
  exact World.cell?_of_block ((h.same b hlt).resolve_right (fun h2 => hb h2.1))⟩
theorem con_beyond (l : List Nat) (hs : l.length ≤ 1000) (hb : ∀ j : Nat, l[j]?.getD 0 ≤ 140737488355328) : Con Try.prog 14 [IsInts l] (IsIf True (∀ j : Nat, l[j]?.getD 0 ≤ 1048576)) := by
  refine ⟨fun _ _ => by go_simp, fun vs w B hB hV => ?_⟩
  match vs, hV with
  | [v], ⟨h1, _⟩ =>
    obtain ⟨b, c, f, rfl, _, _, hc⟩ := h1
    refine (beyondI_calls b l.length c l f w rfl hs hb hc).mono ?_
    rintro e w' ⟨r, rfl, hbl, hr⟩
    exact ⟨_, rfl, ⟨r, rfl, fun _ => trivial, hr⟩, hbl⟩
section
variable {need : List (Tmp × FD)} {d : Option Tmp} {ty : TypeId} {pos : String} {af : Array Edge} {g : Option (Nat × Bool)}
theorem ints_new {w : World} {B : Bx} (hB : Own1 B w) (cs : Array Value) (t : TypeId) (l : List Nat) (f : Nat → Option Addr × Nat) (hc : ∀ j, j < l.length → cs[j * 2 + 1]? = some (.slice (f j).1 (l[j]?.getD 0) (f j).2)) :
    (IsInts l).p (.slice (some ⟨w.heap.size, 0, none⟩) l.length l.length) (w.alloc (.cells cs t)) B ∧ Bl w B (w.alloc (.cells cs t)) B ∧ Below w.heap.size w (w.alloc (.cells cs t)) ∧ Own1 B (w.alloc (.cells cs t)) := by
  have hbel : Below w.heap.size w (w.alloc (.cells cs t)) := (Below.refl _ _).alloc (Nat.le_refl _) _
  refine ⟨⟨_, _, f, rfl, fun h => by have := hB _ h; omega, by simp, fun j hj => ?_⟩, Bl.of_below B hbel, hbel, fun k hk => Nat.lt_of_lt_of_le (hB k hk) hbel.size⟩
  rw [cell_row (heap_alloc_new w _)]
  exact hc j hj
set_option maxRecDepth 50000 in
theorem ok_ints1 {x : Operand} {ng : Bool} {n : Nat} {xs : List Int} (h : Opd need x (.val (IsArg ng n xs))) :
    OpOk Try.prog ⟨d, .buildSlice 60 1 #[(0, x)], ty, pos, af, g⟩ need (.val (IsInts [n])) false := by
  intro Q K a w B hB hF hK
  obtain ⟨ad, c, e, k⟩ := h a w B hF
  obtain ⟨h1, h2, h3, h4⟩ := ints_new hB #[.bool ng, .slice ad n c] 25 [n] (fun _ => (ad, c)) (fun j hj => by
    rcases j with _ | j
    · rfl
    · exfalso; simp only [List.length_cons, List.length_nil] at hj; omega)
  have hr : (execOp a.eval ⟨d, .buildSlice 60 1 #[(0, x)], ty, pos, af, g⟩).run Try.prog w = .ok (.value (.slice (some ⟨w.heap.size, 0, none⟩) 1 1)) (w.alloc (.cells #[.bool ng, .slice ad n c] 25)) := by
    simp only [execOp, e, List.map_toArray, List.map_cons, List.map_nil]
    go_simp
  unfold Oper.wp
  rw [hr]
  exact hK _ _ B h1 h2 h3 h4 (by simp)
set_option maxRecDepth 50000 in
theorem ok_ints2 {x y : Operand} {ng ng2 : Bool} {n n2 : Nat} {xs xs2 : List Int} (h : Opd need x (.val (IsArg ng n xs))) (h' : Opd need y (.val (IsArg ng2 n2 xs2))) :
    OpOk Try.prog ⟨d, .buildSlice 60 2 #[(0, x), (1, y)], ty, pos, af, g⟩ need (.val (IsInts [n, n2])) false := by
  intro Q K a w B hB hF hK
  obtain ⟨ad, c, e, k⟩ := h a w B hF
  obtain ⟨ad2, c2, e2, k2⟩ := h' a w B hF
  obtain ⟨h1, h2, h3, h4⟩ := ints_new hB #[.bool ng, .slice ad n c, .bool ng2, .slice ad2 n2 c2] 25 [n, n2] (fun j => if j = 0 then (ad, c) else (ad2, c2)) (fun j hj => by
    rcases j with _ | _ | j
    · rfl
    · rfl
    · exfalso; simp only [List.length_cons, List.length_nil] at hj; omega)
  have hr : (execOp a.eval ⟨d, .buildSlice 60 2 #[(0, x), (1, y)], ty, pos, af, g⟩).run Try.prog w = .ok (.value (.slice (some ⟨w.heap.size, 0, none⟩) 2 2)) (w.alloc (.cells #[.bool ng, .slice ad n c, .bool ng2, .slice ad2 n2 c2] 25)) := by
    simp only [execOp, e, e2, List.map_toArray, List.map_cons, List.map_nil]
    go_simp
  unfold Oper.wp
  rw [hr]
  exact hK _ _ B h1 h2 h3 h4 (by simp)
set_option maxRecDepth 50000 in
theorem ok_ints3 {x y z : Operand} {ng ng2 ng3 : Bool} {n n2 n3 : Nat} {xs xs2 xs3 : List Int} (h : Opd need x (.val (IsArg ng n xs))) (h' : Opd need y (.val (IsArg ng2 n2 xs2))) (h'' : Opd need z (.val (IsArg ng3 n3 xs3))) :
    OpOk Try.prog ⟨d, .buildSlice 60 3 #[(0, x), (1, y), (2, z)], ty, pos, af, g⟩ need (.val (IsInts [n, n2, n3])) false := by
  intro Q K a w B hB hF hK
  obtain ⟨ad, c, e, k⟩ := h a w B hF
  obtain ⟨ad2, c2, e2, k2⟩ := h' a w B hF
  obtain ⟨ad3, c3, e3, k3⟩ := h'' a w B hF
  obtain ⟨h1, h2, h3, h4⟩ := ints_new hB #[.bool ng, .slice ad n c, .bool ng2, .slice ad2 n2 c2, .bool ng3, .slice ad3 n3 c3] 25 [n, n2, n3] (fun j => if j = 0 then (ad, c) else if j = 1 then (ad2, c2) else (ad3, c3)) (fun j hj => by
    rcases j with _ | _ | _ | j
    · rfl
    · rfl
    · rfl
    · exfalso; simp only [List.length_cons, List.length_nil] at hj; omega)
  have hr : (execOp a.eval ⟨d, .buildSlice 60 3 #[(0, x), (1, y), (2, z)], ty, pos, af, g⟩).run Try.prog w = .ok (.value (.slice (some ⟨w.heap.size, 0, none⟩) 3 3)) (w.alloc (.cells #[.bool ng, .slice ad n c, .bool ng2, .slice ad2 n2 c2, .bool ng3, .slice ad3 n3 c3] 25)) := by
    simp only [execOp, e, e2, e3, List.map_toArray, List.map_cons, List.map_nil]
    go_simp
  unfold Oper.wp
  rw [hr]
  exact hK _ _ B h1 h2 h3 h4 (by simp)
end
end Go.Proofs.Ytgnophflogmmaaa
