/- Contracts of functions, and plain facts, part 40. -/
import Derived.Test.YtbcbmkeeoognpaaGreatDoorPk6
import Derived.Test.YtbcbmkeeoognpaaGreatDoorPk7
import Derived.Test.YtbcbmkeeoognpaaGreatDoorPk8
import Derived.Test.YtbcbmkeeoognpaaGreatDoorPk10
import Derived.Test.YtbcbmkeeoognpaaGreatDoorPk11
import Derived.Test.YtbcbmkeeoognpaaGreatDoorPk13
import Derived.Test.YtbcbmkeeoognpaaGreatDoorPk31
import Derived.Test.YtbcbmkeeoognpaaGreatDoorPk33
import Derived.Test.YtbcbmkeeoognpaaGreatDoorPk36
set_option linter.unusedVariables false
set_option linter.unusedSimpArgs false
/- Numbers written out: lists of one limb, of two. -/
namespace Go.Proofs.YtbcbmkeeoognpaaGreatDoor
open Go.RowKit

theorem num_lit (w : World) (x : Int) (h : 0 ≤ x ∧ x < 4294967296) : Num (w.alloc (.cells #[.int .u32 x] 44)) (some ⟨w.heap.size, 0, none⟩) 1 1 x := by
  have k0 : Blk (w.alloc (.cells #[.int .u32 x] 44)) w.heap.size 44 .u32 [x] := Blk.made w 44 .u32 [x] _ rfl
  exact ⟨Nat.le_refl _, [x], k0.rds, (by intro y hy; simp at hy; subst hy; exact h), by simp [val]⟩

theorem can_two {w : World} {ad : Option Addr} {n c : Nat} {V : Int} (h : Can w ad n c V) (x y : Int) (hx : 0 ≤ x ∧ x < 4294967296) (hy : 0 < y ∧ y < 4294967296) (hV : V = x + 4294967296 * y) :
    n = 2 ∧ ∃ a, ad = some a ∧ w.cell? a = some (.int .u32 x) ∧ w.cell? (a.add 1) = some (.int .u32 y) := by
  have hd : Dig 4294967296 [x, y] := by intro z hz; simp at hz; rcases hz with rfl | rfl <;> omega
  have e := norm_eq 4294967296 (by omega) hd
  have e2 : norm [x, y] = [x, y] := by
    have : y ≠ 0 := by omega
    simp [norm, this]
  have e3 : val 4294967296 [x, y] = V := by rw [hV]; simp [val]
  rw [show ((4294967296 : Nat) : Int) = 4294967296 from rfl, e2, e3] at e
  have r := h.rds
  rw [← e] at r
  have hl := r.len
  obtain ⟨a, rfl, h0⟩ := r.cell 0 (by simp at hl; omega)
  obtain ⟨a', ha, h1⟩ := r.cell 1 (by simp at hl; omega)
  injection ha with ha
  subst ha
  refine ⟨by simpa using hl.symm, a, rfl, ?_, by simpa using h1⟩
  simpa [Addr.add] using h0

theorem num_pair (w : World) (x y : Int) (hx : 0 ≤ x ∧ x < 4294967296) (hy : 0 ≤ y ∧ y < 4294967296) :
    Num ((w.alloc (.cells #[.int .u32 x] 44)).alloc (.cells #[.int .u32 y] 44)) (some ⟨w.heap.size, 0, none⟩) 1 1 x ∧
    Num ((w.alloc (.cells #[.int .u32 x] 44)).alloc (.cells #[.int .u32 y] 44)) (some ⟨w.heap.size + 1, 0, none⟩) 1 1 y ∧
    Below w.heap.size w ((w.alloc (.cells #[.int .u32 x] 44)).alloc (.cells #[.int .u32 y] 44)) := by
  have b1 : Below w.heap.size w (w.alloc (.cells #[.int .u32 x] 44)) := (Below.refl _ _).alloc (Nat.le_refl _) _
  have n1 := num_lit w x hx
  have hs1 : (w.alloc (.cells #[.int .u32 x] 44)).heap.size = w.heap.size + 1 := Array.size_push _
  generalize w.alloc (.cells #[.int .u32 x] 44) = w1 at *
  have b2 : Below w1.heap.size w1 (w1.alloc (.cells #[.int .u32 y] 44)) := (Below.refl _ _).alloc (Nat.le_refl _) _
  have n2 := num_lit w1 y hy
  rw [hs1] at n2
  exact ⟨n1.below b2 (Nat.le_refl _), n2, below_trans b1 b2⟩

end Go.Proofs.YtbcbmkeeoognpaaGreatDoor


/- cruciblelaw01.lives: a sum and a product that are fixed. -/
namespace Go.Proofs.YtbcbmkeeoognpaaGreatDoor
open Go.RowKit

set_option maxHeartbeats 1000000 in
theorem lives_calls (w : World) : Calls Tryz.prog 13 #[] w (fun e w' => e = .returned (.bool true) ∧ Below w.heap.size w w') := by
  obtain ⟨n1, n2, b2⟩ := num_pair w 4294967295 1 (by omega) (by omega)
  have h := Lib.hid (num_add _ _ _ _ _ _ _ _ _ n1 n2 (by omega) (by omega))
  clear n1 n2
  go_enter Tryz.func13, Tryz.ntmps13
  go_wp2_with fail
  refine (h.out).mono ?_
  clear h
  rintro e w1 ⟨ad1, n, c1, rfl, f1, b⟩
  have b3 := below_trans b2 b
  obtain ⟨rfl, a1, rfl, k1, k2⟩ := can_two f1 0 1 (by omega) (by omega) (by decide)
  clear b b2
  obtain ⟨n1, n2, b2⟩ := num_pair w1 4294967295 4294967295 (by omega) (by omega)
  have g1 := f1.below b2 (Nat.le_refl _)
  have h := Lib.hid (num_mul _ _ _ _ _ _ _ _ _ n1 n2 (by omega) (by omega))
  clear n1 n2 f1 k1 k2
  go_wp2_with fail
  refine (h.out).mono ?_
  clear h
  rintro e w2 ⟨ad2, n2, c2, rfl, f2, b⟩
  have f1 := g1.below b (Nat.le_refl _)
  have b4 := below_trans b3 (below_trans b2 b)
  obtain ⟨-, a1', ha, k1, k2⟩ := can_two f1 0 1 (by omega) (by omega) (by decide)
  injection ha with ha
  subst ha
  obtain ⟨rfl, a2, rfl, k3, k4⟩ := can_two f2 1 4294967294 (by omega) (by omega) (by decide)
  have k1' : w2.cell? (a1.add 0) = some (.int .u32 0) := by simpa [Addr.add] using k1
  have k3' : w2.cell? (a2.add 0) = some (.int .u32 1) := by simpa [Addr.add] using k3
  rw [show a1.add 1 = ⟨a1.block, a1.off + 1, none⟩ from rfl] at k2
  rw [show a2.add 1 = ⟨a2.block, a2.off + 1, none⟩ from rfl] at k4
  clear f1 f2 g1 b b2 b3
  go_wp2
  go_ret
  exact ⟨rfl, b4⟩
end Go.Proofs.YtbcbmkeeoognpaaGreatDoor


/- Seven lists in an array; a list's limb is written over. -/
set_option maxRecDepth 50000
namespace Go.Proofs.YtbcbmkeeoognpaaGreatDoor
open Go Go.RowKit

def IsSliceV (u : Value) : Prop := ∃ ad n c, u = .slice ad n c
/-- Seven slices. -/
def P7 (v : Value) : Prop := ∃ l : List Value, v = .agg l.toArray ∧ l.length = 7 ∧ ∀ u ∈ l, IsSliceV u
def A7s : VP := ⟨fun v _ _ => P7 v, fun _ _ _ _ _ _ h => h⟩
theorem shape_7s : Shape 7 A7s := fun v w B ⟨l, e, hl, hs⟩ => ⟨_, e, by simp [hl], by
  simp only [List.all_toArray, List.all_eq_true]
  intro u hu
  obtain ⟨ad, n, c, rfl⟩ := hs u hu
  rfl, fun j ik x hk hj => by
  have hm := Array.mem_of_getElem? hj
  obtain ⟨ad, n, c, e⟩ := hs _ (by simpa using hm)
  cases e⟩
/-- ... of the numbers Vs, each in its block. -/
def PA7 (gs : List (Option Nat)) (Vs : List Int) (v : Value) (w : World) (B : Bx) : Prop := P7 v ∧ ∃ l : List Value, v = .agg l.toArray ∧ ∀ j, j < 7 → ∃ u, l[j]? = some u ∧ (IsHd (gs.getD j none) (IsC (Vs.getD j 0))).p u w B
def A7 (gs : List (Option Nat)) (Vs : List Int) : VP := ⟨PA7 gs Vs, fun v w B w' B' h ⟨h1, l, e, h2⟩ => ⟨h1, l, e, fun j hj => by
  obtain ⟨u, e1, h3⟩ := h2 j hj
  exact ⟨u, e1, VP.st _ _ _ _ _ _ h h3⟩⟩⟩
/-- The first k of them, in blocks from lo on. -/
def PA7e (lo : Nat) (Vs : List Int) (k : Nat) (v : Value) (w : World) (B : Bx) : Prop := P7 v ∧ ∃ l : List Value, v = .agg l.toArray ∧ ∀ j, j < k → ∃ u, l[j]? = some u ∧ (IsFr lo (IsC (Vs.getD j 0))).p u w B
def A7e (lo : Nat) (Vs : List Int) (k : Nat) : VP := ⟨PA7e lo Vs k, fun v w B w' B' h ⟨h1, l, e, h2⟩ => ⟨h1, l, e, fun j hj => by
  obtain ⟨u, e1, h3⟩ := h2 j hj
  exact ⟨u, e1, VP.st _ _ _ _ _ _ h h3⟩⟩⟩
/-- Blocks that are apart, from lo on. -/
structure Aps (lo m : Nat) (gs : List (Option Nat)) : Prop where
  len : gs.length = 7
  lo : ∀ j b, gs.getD j none = some b → lo ≤ b ∧ b < m
  ap : ∀ i j b, i < 7 → j < 7 → i ≠ j → gs.getD i none = some b → gs.getD j none ≠ some b
/-- What is answered. -/
def A7v (lo : Nat) (Vs : List Int) : VP := ⟨fun v w B => ∃ gs, Aps lo w.heap.size gs ∧ PA7 gs Vs v w B, fun v w B w' B' h ⟨gs, h1, h2⟩ => ⟨gs, ⟨h1.len, fun j b hb => ⟨(h1.lo j b hb).1, Nat.lt_of_lt_of_le (h1.lo j b hb).2 h.size⟩, h1.ap⟩, (A7 gs Vs).st _ _ _ _ _ h h2⟩⟩
theorem shape_7 {gs : List (Option Nat)} {Vs : List Int} : Shape 7 (A7 gs Vs) := fun v w B h => shape_7s v w B h.1
theorem shape_7e {lo : Nat} {Vs : List Int} {k : Nat} : Shape 7 (A7e lo Vs k) := fun v w B h => shape_7s v w B h.1
theorem shape_7v {lo : Nat} {Vs : List Int} : Shape 7 (A7v lo Vs) := fun v w B ⟨gs, _, h⟩ => shape_7s v w B h.1
theorem tyA7 : TyOk Tryz.prog 43 7 := ⟨⟨_, Tryz.underlying43, rfl⟩, by kernel_rfl⟩
theorem zeroA7 : (Tryz.prog.info? 43).map (·.zero) = some (some (.agg ([.slice none 0 0, .slice none 0 0, .slice none 0 0, .slice none 0 0, .slice none 0 0, .slice none 0 0, .slice none 0 0] : List Value).toArray)) := by kernel_rfl
theorem p7_zero : P7 (.agg ([.slice none 0 0, .slice none 0 0, .slice none 0 0, .slice none 0 0, .slice none 0 0, .slice none 0 0, .slice none 0 0] : List Value).toArray) := ⟨_, rfl, rfl, fun u hu => by
  simp at hu
  exact ⟨_, _, _, hu⟩⟩
section
variable {P : Program} {need : List (Tmp × FD)} {d : Option Tmp} {ty : TypeId} {pos : String} {af : Array Edge} {g : Option (Nat × Bool)} {x y x0 x1 x2 x3 x4 x5 x6 : Operand} {D : VP}
theorem ok_alloc7s : OpOk Tryz.prog ⟨d, .alloc 43, ty, pos, af, g⟩ need (.box 43 7 A7s) true := ok_alloc zeroA7 rfl fun w B => p7_zero
theorem run_idx7 (b j : Nat) (hj : j < 7) (w : World) : (Instr.indexAt 43 (.pointer (some ⟨b, 0, none⟩)) (.int .i64 j)).run Tryz.prog w = .ok (.pointer (some ⟨b, j, none⟩)) w := by
  rcases j with _ | _ | _ | _ | _ | _ | _ | j
  · go_simp
  · go_simp
  · go_simp
  · go_simp
  · go_simp
  · go_simp
  · go_simp
  · omega
theorem ok_idx7 {i : Int} (j : Nat) (hj : j < 7) (hi : i = j) (h : Opd need x (.box 43 7 D)) (h' : Opd need y (.val (Lit (.int .i64 i)))) : OpOk Tryz.prog ⟨d, .indexAddr 43 x y, ty, pos, af, g⟩ need (.ptr 43 7 D j) false :=
  OpOk.value fun a w B hF => by
    obtain ⟨b, cs, h1, h2, h3, h4, h5, h6⟩ := h a w B hF
    have e2 : a.eval y = .int .i64 j := hi ▸ h' a w B hF
    refine ⟨.pointer (some ⟨b, j, none⟩), ?_, b, cs, rfl, h2, h3, h4, h5, h6⟩
    simp only [execOp, h1, e2, Sem.run_bind, run_idx7 b j hj, Result.andThen_ok, Sem.run_pure]
theorem ok_load7 {gs : List (Option Nat)} {Vs : List Int} {j : Nat} (hj : j < 7) (h : Opd need x (.ptr 43 7 (A7 gs Vs) j)) : OpOk Tryz.prog ⟨d, .load 23 x, ty, pos, af, g⟩ need (.val (IsHd (gs.getD j none) (IsC (Vs.getD j 0)))) false :=
  ok_loadPtr1 aggNat h hj fun cs v w B ⟨_, l, e, h2⟩ hv => by
    injection e with e
    subst e
    obtain ⟨u, e1, h3⟩ := h2 j hj
    rw [List.getElem?_toArray, e1] at hv
    injection hv with hv
    exact hv ▸ h3
theorem ok_load7e {lo : Nat} {Vs : List Int} {j k : Nat} (hk : j < k) (hj : j < 7) (h : Opd need x (.ptr 43 7 (A7e lo Vs k) j)) : OpOk Tryz.prog ⟨d, .load 23 x, ty, pos, af, g⟩ need (.val (IsFr lo (IsC (Vs.getD j 0)))) false :=
  ok_loadPtr1 aggNat h hj fun cs v w B ⟨_, l, e, h2⟩ hv => by
    injection e with e
    subst e
    obtain ⟨u, e1, h3⟩ := h2 j hk
    rw [List.getElem?_toArray, e1] at hv
    injection hv with hv
    exact hv ▸ h3
theorem run_build7 (a0 a1 a2 a3 a4 a5 a6 : Option Addr) (n0 n1 n2 n3 n4 n5 n6 c0 c1 c2 c3 c4 c5 c6 : Nat) (w : World) : (Instr.build 43 #[(0, .slice a0 n0 c0), (1, .slice a1 n1 c1), (2, .slice a2 n2 c2), (3, .slice a3 n3 c3), (4, .slice a4 n4 c4), (5, .slice a5 n5 c5), (6, .slice a6 n6 c6)]).run Tryz.prog w = .ok (.agg ([.slice a0 n0 c0, .slice a1 n1 c1, .slice a2 n2 c2, .slice a3 n3 c3, .slice a4 n4 c4, .slice a5 n5 c5, .slice a6 n6 c6] : List Value).toArray) w := by go_simp
theorem hd_slice {k : Option Nat} {V : Int} {u : Value} {w : World} {B : Bx} (h : (IsHd k (IsC V)).p u w B) : IsSliceV u := by
  obtain ⟨_, ad, n, c, e, _⟩ := h
  exact ⟨ad, n, c, e⟩
theorem ok_build7 {g0 g1 g2 g3 g4 g5 g6 : Option Nat} {V0 V1 V2 V3 V4 V5 V6 : Int} (h0 : Opd need x0 (.val (IsHd g0 (IsC V0)))) (h1 : Opd need x1 (.val (IsHd g1 (IsC V1)))) (h2 : Opd need x2 (.val (IsHd g2 (IsC V2)))) (h3 : Opd need x3 (.val (IsHd g3 (IsC V3)))) (h4 : Opd need x4 (.val (IsHd g4 (IsC V4)))) (h5 : Opd need x5 (.val (IsHd g5 (IsC V5)))) (h6 : Opd need x6 (.val (IsHd g6 (IsC V6)))) :
    OpOk Tryz.prog ⟨d, .build 43 #[(0, x0), (1, x1), (2, x2), (3, x3), (4, x4), (5, x5), (6, x6)], ty, pos, af, g⟩ need (.val (A7 [g0, g1, g2, g3, g4, g5, g6] [V0, V1, V2, V3, V4, V5, V6])) false :=
  OpOk.value fun a w B hF => by
    have k0 := h0 a w B hF
    have k1 := h1 a w B hF
    have k2 := h2 a w B hF
    have k3 := h3 a w B hF
    have k4 := h4 a w B hF
    have k5 := h5 a w B hF
    have k6 := h6 a w B hF
    obtain ⟨a0, n0, c0, e0⟩ := hd_slice k0
    obtain ⟨a1, n1, c1, e1⟩ := hd_slice k1
    obtain ⟨a2, n2, c2, e2⟩ := hd_slice k2
    obtain ⟨a3, n3, c3, e3⟩ := hd_slice k3
    obtain ⟨a4, n4, c4, e4⟩ := hd_slice k4
    obtain ⟨a5, n5, c5, e5⟩ := hd_slice k5
    obtain ⟨a6, n6, c6, e6⟩ := hd_slice k6
    rw [e0] at k0
    rw [e1] at k1
    rw [e2] at k2
    rw [e3] at k3
    rw [e4] at k4
    rw [e5] at k5
    rw [e6] at k6
    have := run_build7 a0 a1 a2 a3 a4 a5 a6 n0 n1 n2 n3 n4 n5 n6 c0 c1 c2 c3 c4 c5 c6 w
    refine ⟨.agg ([.slice a0 n0 c0, .slice a1 n1 c1, .slice a2 n2 c2, .slice a3 n3 c3, .slice a4 n4 c4, .slice a5 n5 c5, .slice a6 n6 c6] : List Value).toArray, ?_, ⟨_, rfl, rfl, fun u hu => ?_⟩, _, rfl, fun j hj => ?_⟩
    · simp only [execOp, List.map_toArray, List.map_cons, List.map_nil, e0, e1, e2, e3, e4, e5, e6, Sem.run_bind, this, Result.andThen_ok, Sem.run_pure]
    · simp only [List.mem_cons, List.not_mem_nil, or_false] at hu
      rcases hu with rfl | rfl | rfl | rfl | rfl | rfl | rfl <;> exact ⟨_, _, _, rfl⟩
    · rcases j with _ | _ | _ | _ | _ | _ | _ | j
      · exact ⟨_, rfl, k0⟩
      · exact ⟨_, rfl, k1⟩
      · exact ⟨_, rfl, k2⟩
      · exact ⟨_, rfl, k3⟩
      · exact ⟨_, rfl, k4⟩
      · exact ⟨_, rfl, k5⟩
      · exact ⟨_, rfl, k6⟩
      · omega
end
/-- TwinNat of the list of a number. -/
theorem con_twinC (V : Int) : ConF Tryz.prog 14 [IsC V] (fun lo => IsFr lo (IsC V)) := by
  refine ⟨fun _ _ => by go_simp, fun lo vs w B hl hB hV => ?_⟩
  match vs, hV with
  | [v], ⟨h1, _⟩ =>
    obtain ⟨ad, n, c, rfl, k, l, h0⟩ := h1
    have hlim := lim_eq
    refine (twin_calls ad n c _ w (by omega) k.rds).mono ?_
    rintro e w' ⟨rfl, h2, hb⟩
    have hx := k.rds.len
    refine ⟨_, rfl, ⟨some w.heap.size, (fun b e => by injection e with e; omega), ⟨_, _, _, rfl, by omega, by omega, by omega, fun h => absurd h (by omega), fun _ => ⟨w.heap.size, _, rfl, rfl, fun h => ?_, h2, by simp [nums, hx]⟩⟩, ⟨_, _, _, rfl, ⟨by omega, twin_rds h2 rfl⟩, by omega, h0⟩⟩, hb⟩
    have := hB _ h; omega
section
variable {P : Program} {ops : Array Oper} {Q : Exit → Act → World → Prop} {N : Nat} {w0 : World} {B0 : Bx} {a : Act} {w : World} {B : Bx} {l : List (Tmp × FD)} {bxs : List Tmp}
theorem St.name7 (H : St N w0 B0 a w B l bxs) (i : Nat) {s : Tmp} {t : TypeId} {n : Nat} {lo : Nat} {Vs : List Int} (hi : l[i]? = some (s, .box t n (A7v lo Vs))) {l' : List (Option Nat) → List (Tmp × FD)} (hl : ∀ gs, l.set i (s, .box t n (A7 gs Vs)) = l' gs) : ∃ gs, Aps lo w.heap.size gs ∧ St N w0 B0 a w B (l' gs) bxs := by
  obtain ⟨c, cs, k1, k2, k3, k4, k5, gs, h1, h2⟩ := H.fc.get i hi
  refine ⟨gs, h1, H.df, H.sz, Fct.of_all fun x hx => ?_, H.bx, H.ap, H.bel, H.own, H.own0⟩
  rw [← hl] at hx
  rcases List.mem_or_eq_of_mem_set hx with h | h
  · exact H.fc.all x h
  · subst h; exact ⟨c, cs, k1, k2, k3, k4, k5, h2⟩
/-- One of the seven is written. -/
theorem elem_store {i j : Nat} {rest : List Nat} {off : Nat} {z : Int} {s p y xi : Tmp} {D D' E : VP} {ty1 ty2 : TypeId} {pos1 pos2 : String} {af1 af2 : Array Edge} {l' : List (Tmp × FD)} (kp ky kx : Nat) (hP : P = Tryz.prog)
    (H : St N w0 B0 a w B l bxs) (hoi : ops[i]? = some ⟨some s, .indexAddr 43 (.tmp p) (.tmp xi), ty1, pos1, af1, none⟩) (hoj : ops[j]? = some ⟨none, .store 23 (.tmp s) (.tmp y), ty2, pos2, af2, none⟩)
    (hz : (P.info? 23).map (·.size) = some 1) (hxi : l[kx]? = some (xi, .val (Lit (.int .i64 z)))) (hzo : z = off)
    (hp : l[kp]? = some (p, .box 43 7 D)) (hy : l[ky]? = some (y, .val E)) (hE : ∀ u w B, E.p u w B → IsSliceV u) (s0 : Shape 7 D) (hoff : off < 7) (hD : ∀ cs u w B, D.p (.agg cs) w B → E.p u w B → D'.p (.agg (cs.setIfInBounds off u)) w B)
    (hc : (bxs.contains p && (!bxs.contains s) && decide (s < N) && decide (y ≠ s) && decide (p ≠ s) && l.all fun z => z.1 != s && (z.2.isVal || (z.2.isBox && bxs.contains z.1))) = true) (hl : stored p (.box 43 7 D') l = l')
    (hK : ∀ a w, St N w0 B0 a w B l' bxs → wpOps P ops Q rest a w) : wpOps P ops Q (i :: j :: rest) a w := by
  subst hP
  simp only [Bool.and_eq_true, List.all_eq_true, Bool.or_eq_true, Bool.not_eq_true', decide_eq_true_eq, bne_iff_ne] at hc
  obtain ⟨⟨⟨⟨⟨hpb, hsb⟩, hsN⟩, hys⟩, hps⟩, hall⟩ := hc
  rw [List.contains_iff_mem] at hpb
  obtain ⟨b, cs, e1, hB, hlt, hrow, hcs, hD0⟩ := H.fc.get kp hp
  obtain ⟨u, hyv⟩ : ∃ u, a.tmps.getD y undef = u := ⟨_, rfl⟩
  have hEu : E.p u w B := hyv ▸ H.fc.get ky hy
  have hx0 : a.tmps.getD xi undef = .int .i64 off := hzo ▸ H.fc.get kx hxi
  obtain ⟨ad0, n0, c0, hu0⟩ := hE _ _ _ hEu
  have hone : u.oneCell' = true := by rw [hu0]; rfl
  obtain ⟨cs2, e2, hn2, hone2, hpl⟩ := s0 _ _ _ hD0
  injection e2 with e2
  subst e2
  have hs : ∀ d, (some s : Option Tmp) = some d → d < a.tmps.size := fun d hd2 => by
    injection hd2 with hd2
    subst hd2
    rw [H.sz]
    exact hsN
  have hput : ∀ v x, (a.put (some s) v).tmps.getD x undef = if (some s : Option Tmp) = some x then v else a.tmps.getD x undef := fun v x => put_getD hs
  have hold : ∀ v x, x ≠ s → (a.put (some s) v).tmps.getD x undef = a.tmps.getD x undef := fun v x hx => by
    rw [hput, if_neg ?_]
    intro e
    injection e with e
    exact hx e.symm
  rw [wpOps_cons]
  unfold wpOp
  simp only [hoi]
  rw [if_pos (by simp [Region.wanted])]
  refine .inl ?_
  unfold Oper.wp
  have e4 : a.eval (.tmp p) = .pointer (some ⟨b, 0, none⟩) := e1
  have e5 : a.eval (.tmp xi) = .int .i64 off := hx0
  have hr1 : (execOp a.eval ⟨some s, .indexAddr 43 (.tmp p) (.tmp xi), ty1, pos1, af1, none⟩).run Tryz.prog w = .ok (.value (.pointer (some ⟨b, off, none⟩))) w := by
    simp only [execOp, e4, e5, Sem.run_bind, run_idx7 b off hoff, Result.andThen_ok, Sem.run_pure]
  rw [hr1]
  show wpOps Tryz.prog ops Q (j :: rest) _ w
  rw [wpOps_cons]
  unfold wpOp
  simp only [hoj]
  rw [if_pos (by simp [Region.wanted])]
  refine .inl ?_
  unfold Oper.wp
  have hcell : w.cell? ⟨b, off, none⟩ = some (cs[off]'(by omega)) := by rw [cell_row hrow]; exact Array.getElem?_eq_getElem _
  have hfr : w.frozen? ⟨b, off, none⟩ = false := by simp [World.frozen?, hrow]
  have hcu : u.cells = #[u] := by rw [hu0]; rfl
  have hrun : (storeVar 23 ⟨b, off, none⟩ u).run Tryz.prog w = .ok () (w.setCell ⟨b, off, none⟩ u) := by
    obtain ⟨i0, hi, hz0⟩ := Option.map_eq_some_iff.1 hz
    have hs1 := run_store Tryz.prog w ⟨b, off, none⟩ u .plain hone
    rw [hcell, hfr] at hs1
    have e0 : (⟨b, off, none⟩ : Addr).add 0 = ⟨b, off, none⟩ := by unfold Addr.add; split <;> simp_all
    simp [storeVar, hcu, storeCells, sizeOf, typeInfo, hi, hz0, Sem.run_bind, e0]
    simpa using hs1
  have hr2 : (execOp (a.put (some s) (.pointer (some ⟨b, off, none⟩))).eval ⟨none, .store 23 (.tmp s) (.tmp y), ty2, pos2, af2, none⟩).run Tryz.prog w = .ok .skip (w.setCell ⟨b, off, none⟩ u) := by
    have e5 : (a.put (some s) (.pointer (some ⟨b, off, none⟩))).eval (.tmp s) = .pointer (some ⟨b, off, none⟩) := by
      show (a.put (some s) _).tmps.getD s undef = _
      rw [hput, if_pos rfl]
    have e6 : (a.put (some s) (.pointer (some ⟨b, off, none⟩))).eval (.tmp y) = u := by
      show (a.put (some s) _).tmps.getD y undef = _
      rw [hold _ _ hys]; exact hyv
    simp only [execOp, e5, e6, Instr.storeAt, Instr.sureAddr, Sem.run_bind, Sem.run_pure, Result.andThen_ok, hrun]
  rw [hr2]
  have hO : Only b w (w.setCell ⟨b, off, none⟩ u) := (Only.refl b w).set off u
  have hmv : Mv w B (w.setCell ⟨b, off, none⟩ u) B := by
    refine ⟨Nat.le_of_eq hO.size.symm, fun k hk => ?_, fun _ _ h => h⟩
    by_cases e : k = b
    · subst e
      refine .inr ⟨hB, fun q ik x hq hik hc => ?_⟩
      unfold World.cell? at hc
      rw [hq, hrow] at hc
      simp only at hc
      split at hc
      · cases hc
      · exact hpl _ _ _ hik hc
    · exact .inl (hO.rest k e)
  have hsame : ∀ k, k ≠ b → (w.setCell ⟨b, off, none⟩ u).heap[k]? = w.heap[k]? := fun k hk => hO.rest k hk
  have hnew : (w.setCell ⟨b, off, none⟩ u).heap[b]? = some (.cells (cs.setIfInBounds off u) 43 (0, 0)) := by
    simp only [World.setCell, Array.getElem?_modify, hrow, if_true, Option.map_some, Option.isSome_none]
    simp
  have hs0 : (w.setCell ⟨b, off, none⟩ u).heap.size = w.heap.size := hO.size
  show wpOps Tryz.prog ops Q rest (a.put (some s) (.pointer (some ⟨b, off, none⟩))) (w.setCell ⟨b, off, none⟩ u)
  refine hK _ _ ⟨put_defers.trans H.df, put_size.trans H.sz, ?_, fun z hz2 => ?_, fun x hx z hz2 hxz => ?_, ?_, fun k hk => by rw [hs0]; exact H.own k hk, H.own0⟩
  · rw [← hl]
    refine Fct.of_all fun z hz2 => ?_
    obtain ⟨q, hq, rfl⟩ := List.mem_map.1 hz2
    have hqf := H.fc.all q hq
    obtain ⟨hqs, hqv⟩ := hall q hq
    by_cases ez : q.1 = p
    · rw [if_pos ez]
      show BoxP 43 7 D' _ _ B
      rw [hold _ _ hps]
      exact ⟨b, _, e1, hB, by rw [hs0]; exact hlt, hnew, by simpa using hcs, D'.st _ _ _ _ _ hmv (hD _ _ _ _ hD0 hEu)⟩
    · rw [if_neg ez, hold _ _ hqs]
      rcases hqv with hv | hb
      · cases hf : q.2 with
        | val E => rw [hf] at hqf; exact E.st _ _ _ _ _ hmv hqf
        | box t n E => rw [hf] at hv; cases hv
        | ptr t n E off => rw [hf] at hv; cases hv
      · cases hf : q.2 with
        | val E => rw [hf] at hb; simp [FD.isBox] at hb
        | ptr t n E off => rw [hf] at hb; simp [FD.isBox] at hb
        | box t3 n3 E =>
          rw [hf] at hqf hb
          have hzb := List.contains_iff_mem.1 hb.2
          obtain ⟨c, cs3, g1, g2, g3, g4, g5, g6⟩ := hqf
          have hne : c ≠ b := by
            rintro rfl
            exact H.ap q.1 hzb p hpb ez (g1.trans e1.symm)
          exact ⟨c, cs3, g1, g2, by rw [hs0]; exact g3, (hsame c hne).trans g4, g5, E.st _ _ _ _ _ hmv g6⟩
  · have hne : z ≠ s := fun e => by
      subst e
      rw [← List.contains_iff_mem, hsb] at hz2
      cases hz2
    obtain ⟨c, g1, g2, g3⟩ := H.bx z hz2
    exact ⟨c, (hold _ _ hne).trans g1, by rw [hs0]; exact g2, g3⟩
  · have hne : ∀ q ∈ bxs, q ≠ s := fun q hq e => by
      subst e
      rw [← List.contains_iff_mem, hsb] at hq
      cases hq
    rw [hold _ _ (hne x hx), hold _ _ (hne z hz2)]
    exact H.ap x hx z hz2 hxz
  · obtain ⟨c, g1, g2, g3⟩ := H.bx p hpb
    rw [e1] at g1
    injection g1 with g1; injection g1 with g1; injection g1 with g1
    subst g1
    refine ⟨H.bel.os, H.bel.tape, H.bel.output, by rw [hs0]; exact H.bel.size, fun k hk => ?_⟩
    rw [hsame k (by omega)]
    exact H.bel.block k hk
end
end Go.Proofs.YtbcbmkeeoognpaaGreatDoor


/- The calls of nat that answer lists of their own; the statement NatOwn's parts. -/
set_option maxRecDepth 50000
namespace Go.Proofs.YtbcbmkeeoognpaaGreatDoor
open Go Go.RowKit

theorem con_natnormF (V : Int) : ConF Tryz.prog 62 [IsM V] (fun lo => IsFr lo (IsC V)) := (con_natnormO V).fresh (FreeL.all ⟨free_M, trivial⟩)
theorem con_nataddF (V U : Int) (hf : Fits (V + U)) : ConF Tryz.prog 55 [IsM V, IsM U] (fun lo => IsFr lo (IsC (V + U))) := (con_nataddO V U hf).fresh (FreeL.all ⟨free_M, free_M, trivial⟩)
theorem con_natmulF (V U : Int) (hf : Fits (V * U)) : ConF Tryz.prog 56 [IsM V, IsM U] (fun lo => IsFr lo (IsC (V * U))) := (con_natmulO V U hf).fresh (FreeL.all ⟨free_M, free_M, trivial⟩)
theorem Con.freshB {P : Program} {f : FuncId} {Ds : List VP} {V : Int} {b : Bool} (h : Con P f Ds (Tup [IsCo V, IsB b])) (hfree : ∀ vs w B B', VAll vs Ds w B → VAll vs Ds w B') : ConF P f Ds (fun lo => IsFrB lo (IsC V) b) :=
  ⟨h.enters, fun lo vs w B hlo hB hV => (h.calls vs w (Old w) (old_own w) (hfree _ _ _ _ hV)).mono fun e w' ⟨v, e1, ⟨us, e2, hu⟩, h3⟩ => by
    match us, hu with
    | [x, y], ⟨⟨h1, g, h2⟩, h4, _⟩ => exact ⟨v, e1, ⟨g, fun b hb => Nat.le_trans hlo ((h2.fresh hB).1 b hb), [x, y], e2, ⟨(h2.fresh hB).2, h1⟩, h4, trivial⟩, h3⟩⟩
theorem con_natsubF (V U : Int) : ConF Tryz.prog 58 [IsM V, IsM U] (fun lo => IsFrB lo (IsC (if U ≤ V then V - U else 0)) (decide (U ≤ V))) := (con_natsubO V U).freshB (FreeL.all ⟨free_M, free_M, trivial⟩)
theorem con_natshlF (V n : Int) (hn : -9223372036854775808 ≤ n ∧ n < 9223372036854775808) (hf : Fits (shlNum V n)) (h0 : 0 ≤ shlNum V n) : ConF Tryz.prog 59 [IsM V, Lit (.int .i64 n)] (fun lo => IsFrB lo (IsC (shlNum V n)) (shlOk V n)) := (con_natshlO V n hn hf h0).freshB (FreeL.all ⟨free_M, free_lit, trivial⟩)
/-- A list of its own and two other values. -/
def IsFr3 (lo : Nat) (D : VP) (u1 u2 : Value) : VP := ⟨fun v w B => ∃ g, (∀ b, g = some b → lo ≤ b) ∧ (Tup [IsHd g D, Lit u1, Lit u2]).p v w B, fun v w B w' B' h ⟨g, h1, h2⟩ => ⟨g, h1, (Tup [IsHd g D, Lit u1, Lit u2]).st v w B w' B' h h2⟩⟩
theorem hd_of_own {lo : Nat} {w w' : World} {B : Bx} {ad : Option Addr} {n c : Nat} {V : Int} (hl : lo ≤ w.heap.size) (hB : Own1 B w) (o : Own w.heap.size w' 44 .u32 ad n c (dg 4294967296 V)) (hf : Fits V) (hV : 0 ≤ V) : ∃ g, (∀ b, g = some b → lo ≤ b) ∧ (IsHd g (IsC V)).p (.slice ad n c) w' B := by
  obtain ⟨h1, g, h2⟩ := co_of_own (k := 0) (old_own w) o hf hV
  exact ⟨g, fun b hb => Nat.le_trans hl ((h2.fresh hB).1 b hb), (h2.fresh hB).2, h1⟩
theorem fits_div {V : Int} (hf : Fits V) (hV : 0 ≤ V) (d : Int) (hd : 0 ≤ d) : Fits (V / d) ∧ 0 ≤ V / d := by
  obtain ⟨q, hq, hf⟩ := hf
  have h1 := Int.ediv_nonneg hV hd
  have h2 := Int.ediv_le_self d hV
  exact ⟨⟨q, hq, hf.le (by omega)⟩, h1⟩
theorem con_natshrF (V n : Int) (hn : 0 ≤ n ∧ n < 9223372036854775808) : ConF Tryz.prog 60 [IsM V, Lit (.int .i64 n)] (fun lo => IsFr3 lo (IsC (shrNum V n)) (.bool (shrMore V n)) (.bool (decide (0 ≤ n)))) := by
  refine ⟨fun _ _ => by go_simp, fun lo vs w B hl hB hV => ?_⟩
  match vs, hV with
  | [v, u], ⟨h1, h2, _⟩ =>
    have hf := PM.fit h1
    have h0 := PM.nonneg h1
    obtain ⟨ad, nn, c, rfl, k, l⟩ := h1
    obtain rfl := h2
    obtain ⟨xs, r1, r2, rfl⟩ := k.row
    have hlim := lim_eq
    have hsh : Fits (shrNum (val 4294967296 xs) n) ∧ 0 ≤ shrNum (val 4294967296 xs) n := by
      unfold shrNum
      rw [if_pos hn.1]
      exact fits_div hf h0 _ (Int.le_of_lt (Int.pow_pos (by omega)))
    refine (shr_calls ad nn c xs n w (by omega) k.le r1 r2 ⟨by omega, hn.2⟩).mono ?_
    rintro e w' ⟨ad2, n2, c2, rfl, o, hb⟩
    obtain ⟨g, g1, g2⟩ := hd_of_own hl hB o hsh.1 hsh.2
    exact ⟨_, rfl, ⟨g, g1, [.slice ad2 n2 c2, .bool _, .bool _], rfl, g2, rfl, rfl, trivial⟩, hb⟩
theorem con_natsmallF (V d : Int) (hd : 0 < d ∧ d < 4294967296) : ConF Tryz.prog 61 [IsM V, Lit (.int .u32 d)] (fun lo => IsFr3 lo (IsC (V / d)) (.int .u32 (V % d)) (.bool true)) := by
  refine ⟨fun _ _ => by go_simp, fun lo vs w B hl hB hV => ?_⟩
  match vs, hV with
  | [v, u], ⟨h1, h2, _⟩ =>
    have hf := PM.fit h1
    have h0 := PM.nonneg h1
    obtain ⟨ad, nn, c, rfl, k, l⟩ := h1
    obtain rfl := h2
    obtain ⟨xs, r1, r2, rfl⟩ := k.row
    have hlim := lim_eq
    have hsh := fits_div hf h0 d (by omega)
    refine (small_calls ad nn c xs d w (by omega) r1 r2 hd).mono ?_
    rintro e w' ⟨ad2, n2, c2, rfl, o, hb⟩
    obtain ⟨g, g1, g2⟩ := hd_of_own hl hB o hsh.1 hsh.2
    exact ⟨_, rfl, ⟨g, g1, [.slice ad2 n2 c2, .int .u32 _, .bool _], rfl, g2, rfl, rfl, trivial⟩, hb⟩
theorem small0_calls (ad : Option Addr) (n c : Nat) (w : World) : Calls Tryz.prog 61 #[.slice ad n c, .int .u32 0] w (fun e w' => e = .returned (.tuple #[.slice none 0 0, .int .u32 0, .bool false]) ∧ w = w') := by
  go_enter Tryz.func61, Tryz.ntmps61
  go_wp2
  go_ret3
  exact ⟨rfl, rfl⟩
theorem con_natsmall0F (V : Int) : ConF Tryz.prog 61 [IsM V, Lit (.int .u32 0)] (fun lo => IsFr3 lo (IsC 0) (.int .u32 0) (.bool false)) := by
  refine ⟨fun _ _ => by go_simp, fun lo vs w B hl hB hV => ?_⟩
  match vs, hV with
  | [v, u], ⟨h1, h2, _⟩ =>
    obtain ⟨ad, nn, c, rfl, k, l⟩ := h1
    obtain rfl := h2
    refine (small0_calls ad nn c w).mono ?_
    rintro e w' ⟨rfl, rfl⟩
    exact ⟨_, rfl, ⟨none, (fun b hb => by cases hb), [.slice none 0 0, .int .u32 0, .bool false], rfl, ⟨nil_hd w B, weakNilM _ w B rfl⟩, rfl, rfl, trivial⟩, Below.refl _ _⟩
/-- What all calls answer. -/
def smallN (V n : Int) : Int := if n = 0 then 0 else V / n
def subN (V U : Int) : Int := if U ≤ V then V - U else U - V
def ansL (V U n : Int) : List Int := [V, V + U, subN V U, V * U, shlNum V n, shrNum V n, smallN V n]
theorem con_natsmallN (V n : Int) (hn : 0 ≤ n ∧ n < 256) : ConF Tryz.prog 61 [IsM V, Lit (.int .u32 n)] (fun lo => IsFr3 lo (IsC (smallN V n)) (.int .u32 (if n = 0 then 0 else V % n)) (.bool (decide (n ≠ 0)))) := by
  unfold smallN
  by_cases h : n = 0
  · subst h
    exact con_natsmall0F V
  · rw [if_neg h, if_neg h, decide_eq_true h]
    exact con_natsmallF V n (by omega)
section
variable {P : Program} {need : List (Tmp × FD)} {d : Option Tmp} {ty : TypeId} {pos : String} {af : Array Edge} {g : Option (Nat × Bool)} {x y : Operand} {D : VP}
theorem ok_ext30 {lo : Nat} {u1 u2 : Value} (h : Opd need x (.val (IsFr3 lo D u1 u2))) : OpOk P ⟨d, .extract x 0, ty, pos, af, g⟩ need (.val (IsFr lo D)) false :=
  OpOk.value fun a w B hF => by
    obtain ⟨g, h1, vs, e, hv⟩ := h a w B hF
    obtain ⟨v, h2, h3⟩ := hv.get 0 _ rfl
    refine ⟨v, ?_, g, h1, h3⟩
    simp [execOp, e, Instr.extract, h2, Sem.run_bind]
theorem ok_ext31 {lo : Nat} {u1 u2 : Value} (h : Opd need x (.val (IsFr3 lo D u1 u2))) : OpOk P ⟨d, .extract x 1, ty, pos, af, g⟩ need (.val (Lit u1)) false :=
  OpOk.value fun a w B hF => by
    obtain ⟨g, h1, vs, e, hv⟩ := h a w B hF
    obtain ⟨v, h2, h3⟩ := hv.get 1 _ rfl
    refine ⟨v, ?_, h3⟩
    simp [execOp, e, Instr.extract, h2, Sem.run_bind]
theorem ok_ext32 {lo : Nat} {u1 u2 : Value} (h : Opd need x (.val (IsFr3 lo D u1 u2))) : OpOk P ⟨d, .extract x 2, ty, pos, af, g⟩ need (.val (Lit u2)) false :=
  OpOk.value fun a w B hF => by
    obtain ⟨g, h1, vs, e, hv⟩ := h a w B hF
    obtain ⟨v, h2, h3⟩ := hv.get 2 _ rfl
    refine ⟨v, ?_, h3⟩
    simp [execOp, e, Instr.extract, h2, Sem.run_bind]
end
theorem shl_small {V n : Int} {k : Nat} (hV : 0 ≤ V) (hf : FitK k V) (hk : k ≤ 4096) (hn : 0 ≤ n ∧ n < 256) : Fits (shlNum V n) ∧ 0 ≤ shlNum V n := by
  obtain ⟨_, s2, s3, s4⟩ := shl_fits V k n hV (by unfold FitK at hf; omega) hk (by omega)
  rw [s2]
  exact ⟨⟨k + 4097, by have := lim_eq; omega, by unfold FitK; omega⟩, s3⟩
def PNats2 (n m : Nat) (v : Value) (w : World) (B : Bx) : Prop := ∃ b c ad cc bd cd, v = .slice (some ⟨b, 0, none⟩) 2 c ∧ ¬ B b ∧ w.heap[b]? = some (.cells #[.slice ad n cc, .slice bd m cd] 23 (0, 0))
theorem PNats2.st {n m : Nat} (v : Value) (w : World) (B : Bx) (w' : World) (B' : Bx) (h : Mv w B w' B') (hp : PNats2 n m v w B) : PNats2 n m v w' B' := by
  obtain ⟨b, c, ad, cc, bd, cd, e, hb, hc⟩ := hp
  have hlt := (Array.getElem?_eq_some_iff.1 hc).1
  exact ⟨b, c, ad, cc, bd, cd, e, fun h6 => hb (h.box b hlt h6), ((h.same b hlt).resolve_right fun h6 => hb h6.1).trans hc⟩
def IsNats2 (n m : Nat) : VP := ⟨PNats2 n m, PNats2.st⟩
theorem ok_nats2 {need : List (Tmp × FD)} {d : Option Tmp} {ty : TypeId} {pos : String} {af : Array Edge} {g : Option (Nat × Bool)} {x y : Operand} {n m : Nat} {xs ys : List Int} (h : Opd need x (.val (IsAn n xs))) (h' : Opd need y (.val (IsAn m ys))) : OpOk Tryz.prog ⟨d, .buildSlice 94 2 #[(0, x), (1, y)], ty, pos, af, g⟩ need (.val (IsNats2 n m)) false := by
  intro Q K a w B hB hF hK
  obtain ⟨ad, c, e, _⟩ := h a w B hF
  obtain ⟨bd, c2, e2, _⟩ := h' a w B hF
  have hbel : Below w.heap.size w (w.alloc (.cells #[.slice ad n c, .slice bd m c2] 23)) := (Below.refl _ _).alloc (Nat.le_refl _) _
  have hr : (execOp a.eval ⟨d, .buildSlice 94 2 #[(0, x), (1, y)], ty, pos, af, g⟩).run Tryz.prog w = .ok (.value (.slice (some ⟨w.heap.size, 0, none⟩) 2 2)) (w.alloc (.cells #[.slice ad n c, .slice bd m c2] 23)) := by
    simp only [execOp, e, e2, List.map_toArray, List.map_cons, List.map_nil]
    go_simp
  unfold Oper.wp
  rw [hr]
  exact hK _ _ B ⟨w.heap.size, 2, ad, c, bd, c2, rfl, fun hb => by have := hB _ hb; omega, heap_alloc_new w _⟩ (Bl.of_below B hbel) hbel (fun k hk => Nat.lt_of_lt_of_le (hB k hk) hbel.size) (by simp)
theorem con_beyondNat2 (n m : Nat) (hn : n ≤ 140737488355328) (hm : m ≤ 140737488355328) : Con Tryz.prog 12 [IsNats2 n m] (IsIf True True) := by
  refine ⟨fun _ _ => by go_simp, fun vs w B hB hV => ?_⟩
  match vs, hV with
  | [v], ⟨h1, _⟩ =>
    obtain ⟨b, c, ad, cc, bd, cd, rfl, hb, hc⟩ := h1
    refine (beyond_calls b 2 c [n, m] (fun j => if j = 0 then (ad, cc) else (bd, cd)) w rfl (by omega) (fun j => by rcases j with _ | _ | j <;> simp <;> omega) (fun j hj => ?_)).mono ?_
    · rw [cell_row hc]
      rcases j with _ | _ | j
      · rfl
      · rfl
      · omega
    rintro e w' ⟨r, rfl, rfl, hr⟩
    exact ⟨_, rfl, ⟨r, rfl, fun _ => trivial, fun _ => trivial⟩, Below.refl _ _⟩
theorem con_lives1 : Con Tryz.prog 13 [] (IsB true) := by
  refine ⟨fun _ _ => by go_simp, fun vs w B hB hV => ?_⟩
  match vs, hV with
  | [], _ => exact (lives_calls w).mono fun e w' h => ⟨_, h.1, rfl, h.2⟩
theorem ok_lenAn {need : List (Tmp × FD)} {d : Option Tmp} {ty : TypeId} {pos : String} {af : Array Edge} {g : Option (Nat × Bool)} {x : Operand} {n : Nat} {xs : List Int} (h : Opd need x (.val (IsAn n xs))) : OpOk Tryz.prog ⟨d, .call { callee := .builtin .len, args := #[x], argTypes := #[23] }, ty, pos, af, g⟩ need (.val (Lit (.int .i64 (n : Int)))) false := by
  refine OpOk.value fun a w B hF => ?_
  obtain ⟨ad, c, e, _⟩ := h a w B hF
  exact ⟨.int .i64 n, by simp [execOp, e, resolve, invoke, builtin, Builtin.len_, run_underlying Tryz.underlying23, Sem.run_bind]; rfl, rfl⟩
theorem keptB_7 {Bs : Nat} {gs : List (Option Nat)} {Vs : List Int} : KeptB Bs (.val (A7 gs Vs)) := fun v w w' B b hbs hb k ⟨h1, l, e, h2⟩ => ⟨h1, l, e, fun j hj => by
  obtain ⟨u, e1, h3⟩ := h2 j hj
  exact ⟨u, e1, (keptB_hd (Bs := Bs) loc_C) u w w' B b hbs hb k h3⟩⟩
theorem keptB_7e {Bs lo : Nat} {Vs : List Int} {q : Nat} : KeptB Bs (.val (A7e lo Vs q)) := fun v w w' B b hbs hb k ⟨h1, l, e, h2⟩ => ⟨h1, l, e, fun j hj => by
  obtain ⟨u, e1, g, g1, h3⟩ := h2 j hj
  exact ⟨u, e1, g, g1, (keptB_hd (Bs := Bs) loc_C) u w w' B b hbs hb k h3⟩⟩
theorem keptO_7s {g : Option Nat} : KeptO g (.val A7s) := fun _ _ _ _ _ _ _ _ _ h => h
theorem weak7e {lo : Nat} {Vs : List Int} {k : Nat} (v : Value) (w : World) (B : Bx) (h : (A7e lo Vs k).p v w B) : A7s.p v w B := h.1
theorem set_7e {lo : Nat} {Vs : List Int} {k : Nat} (hk : k < 7) (cs : Array Value) (u : Value) (w : World) (B : Bx) (h : (A7e lo Vs k).p (.agg cs) w B) (hu : (IsFr lo (IsC (Vs.getD k 0))).p u w B) : (A7e lo Vs (k + 1)).p (.agg (cs.setIfInBounds k u)) w B := by
  obtain ⟨⟨l0, e0, hl0, hs0⟩, l, e, h2⟩ := h
  injection e with e
  injection e0 with e0
  subst e
  have e3 : l0 = l := by have := congrArg Array.toList e0; simpa using this.symm
  subst e3
  have e4 : (l0.toArray).setIfInBounds k u = (l0.set k u).toArray := by simp
  rw [e4]
  have hsl : IsSliceV u := by
    obtain ⟨g, _, _, ad, n, c, e, _⟩ := hu
    exact ⟨ad, n, c, e⟩
  refine ⟨⟨_, rfl, by simp [hl0], fun x hx => ?_⟩, _, rfl, fun j hj => ?_⟩
  · rcases List.mem_or_eq_of_mem_set hx with h | h
    · exact hs0 x h
    · rw [h]; exact hsl
  · by_cases hjk : k = j
    · subst hjk
      exact ⟨u, by rw [List.getElem?_set_self (by omega)], hu⟩
    · obtain ⟨x, e1, h3⟩ := h2 j (by omega)
      exact ⟨x, by rw [List.getElem?_set_ne hjk]; exact e1, h3⟩
theorem fr_slice {lo : Nat} {V : Int} (u : Value) (w : World) (B : Bx) (h : (IsFr lo (IsC V)).p u w B) : IsSliceV u := by
  obtain ⟨g, _, _, ad, n, c, e, _⟩ := h
  exact ⟨ad, n, c, e⟩
theorem take_next (gs : List (Option Nat)) (j : Nat) (h : j < gs.length) : gs.getD j none :: (gs.take j).reverse = (gs.take (j + 1)).reverse := by
  rw [List.take_add_one, List.getElem?_eq_getElem h, List.reverse_append]
  simp [List.getD_eq_getElem?_getD, List.getElem?_eq_getElem h]
theorem Aps.notin {lo m : Nat} {gs : List (Option Nat)} (h : Aps lo m gs) {j b : Nat} (hj : j < 7) (hb : gs.getD j none = some b) : some b ∉ (gs.take j).reverse := by
  intro hm
  rw [List.mem_reverse] at hm
  obtain ⟨i, hi, e⟩ := List.getElem_of_mem hm
  rw [List.length_take] at hi
  rw [List.getElem_take] at e
  refine h.ap i j b (by omega) hj (by omega) ?_ hb
  rw [List.getD_eq_getElem?_getD, List.getElem?_eq_getElem (by omega), e]
  rfl
theorem Aps.ex {lo m : Nat} {gs : List (Option Nat)} (h : Aps lo m gs) {k b : Nat} (hm : some b ∈ (gs.take k).reverse) : lo ≤ b := by
  rw [List.mem_reverse] at hm
  obtain ⟨i, hi, e⟩ := List.getElem_of_mem hm
  rw [List.length_take] at hi
  rw [List.getElem_take] at e
  refine (h.lo i b ?_).1
  rw [List.getD_eq_getElem?_getD, List.getElem?_eq_getElem (by omega), e]
  rfl
theorem book_cnt {Bs : Nat} {Ow : Nat → Prop} {lo hi c c' : Nat} {ex ex' : List (Option Nat)} (hc : c ≤ c') (he : ex = ex') {w : World} {B : Bx} (v : Value) (h : (IsBook Bs Ow lo hi ex c).p v w B) : (IsBook Bs Ow lo hi ex' c').p v w B := by
  subst he
  obtain ⟨rv, L, e, h1, h2⟩ := h
  exact ⟨rv, L, e, by omega, h2⟩
end Go.Proofs.YtbcbmkeeoognpaaGreatDoor

