/- Contracts of functions, and plain facts, part 15. -/
import Derived.Test.YtoimhjcpeifegaaGreatDoorCards
import Derived.Lib.LaidTab
import Derived.Test.YtoimhjcpeifegaaGreatDoorProg
import Derived.Lib.TrailingZeros
import Derived.Laws.Bits64b
import Derived.Test.YtoimhjcpeifegaaGreatDoorPk2
import Derived.Test.YtoimhjcpeifegaaGreatDoorPk6
import Derived.Test.YtoimhjcpeifegaaGreatDoorPk7
import Derived.Test.YtoimhjcpeifegaaGreatDoorPk9
import Derived.Test.YtoimhjcpeifegaaGreatDoorPk12
import Derived.Test.YtoimhjcpeifegaaGreatDoorPk13
import Derived.Test.YtoimhjcpeifegaaGreatDoorPk14
set_option linter.unusedVariables false
set_option linter.unusedSimpArgs false
/- The table of shapes out of a row's list. -/
namespace Go.Proofs.YtoimhjcpeifegaaGreatDoor
open Go.RowKit

theorem trod_int {H : Type} {enc : TypeId × Value → H} {P : Program} {w : World} {base : Nat} {sp : Nat → Bool} {held : Bool} {fuel : Nat} {t : TypeId} {k : IntKind} {c : Value} {v : Int} {p : List MemPlace}
    (ht : P.underlying t = some (.int k)) (h : DataW.trod enc P w base sp held fuel t [c] = some (.lit (.int k v), p)) : c = .int k v := by
  cases fuel with
  | zero => simp [DataW.trod] at h
  | succ fuel =>
    simp only [DataW.trod, ht] at h
    split at h <;> simp_all

theorem trod_struct3 {H : Type} {enc : TypeId × Value → H} {P : Program} {w : World} {base : Nat} {sp : Nat → Bool} {held : Bool} {fuel : Nat} {t i : TypeId} {fs : Array Field} {k : IntKind} {cs : List Value} {a b c : Int} {p : List MemPlace}
    (ht : P.underlying t = some (.struct fs)) (hf : fs.toList.map (fun f => (f.type, f.offset)) = [(i, 0), (i, 1), (i, 2)]) (hi : P.underlying i = some (.int k)) (hc : P.cellsOf i = 1) (hct : P.cellsOf t = 3)
    (h : DataW.trod enc P w base sp held fuel t cs = some (.agg [.lit (.int k a), .lit (.int k b), .lit (.int k c)], p)) : cs = [.int k a, .int k b, .int k c] := by
  cases fuel with
  | zero => simp [DataW.trod] at h
  | succ fuel =>
    simp only [DataW.trod, ht, hct] at h
    split at h
    · rename_i hl
      rcases cs with _ | ⟨x, _ | ⟨y, _ | ⟨z, _ | ⟨u, cs⟩⟩⟩⟩ <;> simp at hl
      obtain ⟨f0, f1, f2, hfs⟩ : ∃ f0 f1 f2, fs.toList = [f0, f1, f2] := by
        have hl := congrArg List.length hf
        simp only [List.length_map, List.length_cons, List.length_nil] at hl
        rcases hh : fs.toList with _ | ⟨f0, _ | ⟨f1, _ | ⟨f2, _ | ⟨f3, r⟩⟩⟩⟩ <;> rw [hh] at hl <;> simp at hl
        exact ⟨f0, f1, f2, rfl⟩
      rw [hfs] at h hf
      simp only [List.map_cons, List.map_nil, List.cons.injEq, Prod.mk.injEq, and_true] at hf
      obtain ⟨⟨t0, o0⟩, ⟨t1, o1⟩, ⟨t2, o2⟩⟩ := hf
      simp only [List.mapM_cons, List.mapM_nil, t0, t1, t2, o0, o1, o2, hc] at h
      simp only [List.drop_zero, List.drop_succ_cons, List.take_succ_cons, List.take_zero, Option.bind_eq_bind, Option.pure_def, Option.map_eq_some_iff, Option.bind_eq_some_iff, Option.some.injEq] at h
      obtain ⟨xs, ⟨d0, e0, r0, ⟨d1, e1, r1, ⟨d2, e2, r2, rfl, rfl⟩, rfl⟩, rfl⟩, hx⟩ := h
      simp only [List.map_cons, List.map_nil, Prod.mk.injEq, DataW.agg.injEq, List.cons.injEq, and_true] at hx
      obtain ⟨⟨q0, q1, q2⟩, -⟩ := hx
      obtain ⟨d0, p0⟩ := d0
      obtain ⟨d1, p1⟩ := d1
      obtain ⟨d2, p2⟩ := d2
      simp only at q0 q1 q2
      subst q0 q1 q2
      rw [trod_int hi e0, trod_int hi e1, trod_int hi e2]
    · cases h
theorem trod_array3 {H : Type} {enc : TypeId × Value → H} {P : Program} {w : World} {base : Nat} {sp : Nat → Bool} {held : Bool} {fuel : Nat} {t e : TypeId} {cs : List Value} {d0 d1 d2 : DataW H} {p : List MemPlace}
    (ht : P.underlying t = some (.array 3 e)) (hc : P.cellsOf e = 3) (hct : P.cellsOf t = 9)
    (h : DataW.trod enc P w base sp held fuel t cs = some (.agg [d0, d1, d2], p)) :
    ∃ fuel c0 c1 c2 p0 p1 p2, cs = c0 ++ (c1 ++ c2) ∧ DataW.trod enc P w base sp held fuel e c0 = some (d0, p0) ∧ DataW.trod enc P w base sp held fuel e c1 = some (d1, p1) ∧ DataW.trod enc P w base sp held fuel e c2 = some (d2, p2) := by
  cases fuel with
  | zero => simp [DataW.trod] at h
  | succ fuel =>
    simp only [DataW.trod, ht, hct] at h
    split at h
    · rename_i hl
      simp only [show List.range 3 = [0, 1, 2] from rfl, List.mapM_cons, List.mapM_nil, hc] at h
      simp only [Option.bind_eq_bind, Option.pure_def, Option.map_eq_some_iff, Option.bind_eq_some_iff, Option.some.injEq] at h
      obtain ⟨xs, ⟨x0, e0, r0, ⟨x1, e1, r1, ⟨x2, e2, r2, rfl, rfl⟩, rfl⟩, rfl⟩, hx⟩ := h
      simp only [List.map_cons, List.map_nil, Prod.mk.injEq, DataW.agg.injEq, List.cons.injEq, and_true] at hx
      obtain ⟨⟨q0, q1, q2⟩, -⟩ := hx
      obtain ⟨x0, p0⟩ := x0
      obtain ⟨x1, p1⟩ := x1
      obtain ⟨x2, p2⟩ := x2
      simp only at q0 q1 q2
      subst q0 q1 q2
      refine ⟨fuel, _, _, _, _, _, _, ?_, e0, e1, e2⟩
      rcases cs with _ | ⟨a0, _ | ⟨a1, _ | ⟨a2, _ | ⟨a3, _ | ⟨a4, _ | ⟨a5, _ | ⟨a6, _ | ⟨a7, _ | ⟨a8, _ | ⟨a9, cs⟩⟩⟩⟩⟩⟩⟩⟩⟩⟩ <;> simp at hl
      rfl
    · cases h

theorem gShapes : Tryz.prog.globalNamed "crucible/ieee.shapes" = some 2 := by kernel_rfl
theorem gShapesType : (Tryz.prog.globals[2]?).map (·.type) = some 159 := by kernel_rfl
theorem cellsShapes : Tryz.prog.cellsOf 159 = 9 := by kernel_rfl
theorem cellsShape : Tryz.prog.cellsOf 95 = 3 := by kernel_rfl
theorem cellsInt : Tryz.prog.cellsOf 3 = 1 := by kernel_rfl

theorem shapes_of_laid {W : World} {r : List (String × DataW Unit)} {q : List MemPlace} (h : DataW.LaidVars Tryz.prog W (("crucible/ieee.shapes", Rows.laid_crucible_ieee_shapes) :: r) q) : Shapes W := by
  obtain ⟨g, t, cs, fuel, p, q1, hg, ht, hcs, htr, -, -⟩ := h
  rw [gShapes] at hg
  injection hg with hg
  subst hg
  rw [gShapesType] at ht
  injection ht with ht
  subst ht
  obtain ⟨f, c0, c1, c2, p0, p1, p2, hc, e0, e1, e2⟩ := trod_array3 Tryz.underlying159 cellsShape cellsShapes htr
  have k0 := trod_struct3 Tryz.underlying95 rfl Tryz.underlying3 cellsInt cellsShape e0
  have k1 := trod_struct3 Tryz.underlying95 rfl Tryz.underlying3 cellsInt cellsShape e1
  have k2 := trod_struct3 Tryz.underlying95 rfl Tryz.underlying3 cellsInt cellsShape e2
  rw [k0, k1, k2] at hc
  have hcs2 : cs = #[.int .i64 10, .int .i64 (-24), .int .i64 5, .int .i64 23, .int .i64 (-149), .int .i64 8, .int .i64 52, .int .i64 (-1074), .int .i64 11] := by
    apply Array.toList_inj.1
    rw [hc]
    rfl
  subst hcs2
  have c := World.var?_cell gShapes hcs
  exact ⟨by rw [c]; rfl, by rw [c]; rfl, by rw [c]; rfl, by rw [c]; rfl, by rw [c]; rfl, by rw [c]; rfl, by rw [c]; rfl, by rw [c]; rfl, by rw [c]; rfl⟩
end Go.Proofs.YtoimhjcpeifegaaGreatDoor


/- whole: From. (Printed by whole.py.) -/
namespace Go.Proofs.YtoimhjcpeifegaaGreatDoor
open Go.RowKit

end Go.Proofs.YtoimhjcpeifegaaGreatDoor


/- whole: Neg. (Printed by whole.py.) -/
namespace Go.Proofs.YtoimhjcpeifegaaGreatDoor
open Go.RowKit

end Go.Proofs.YtoimhjcpeifegaaGreatDoor


/- whole: Sum. (Printed by whole.py.) -/
namespace Go.Proofs.YtoimhjcpeifegaaGreatDoor
open Go.RowKit

end Go.Proofs.YtoimhjcpeifegaaGreatDoor


/- crucibleref03: Norm. (Printed by ref03.py.) -/
namespace Go.Proofs.YtoimhjcpeifegaaGreatDoor
open Go.RowKit

end Go.Proofs.YtoimhjcpeifegaaGreatDoor


/- math/bits.TrailingZeros64, and a number's odd part. -/
namespace Go.Proofs.YtoimhjcpeifegaaGreatDoor
open Go.RowKit

/-- The table of places as its initialiser lays it. -/
def Tab (w : World) : Prop := ∀ j, j < 64 → w.cell? ⟨4, j, none⟩ = some (.int .u8 ((Lib.deBruijn64tab.getD j 0 : Nat) : Int))
theorem Tab.below {w w1 : World} (h : Tab w) {B : Nat} (hb : Below B w w1) (hB : w.heap.size ≤ B) : Tab w1 := fun j hj => below_cell hb hB (h j hj)

/-- How many noughts a number ends in; what stands before them. -/
def tzI (x : Int) : Int := (Lib.ctz 64 x.toNat : Nat)
def oddI (x : Int) : Int := x / 2 ^ Lib.ctz 64 x.toNat

theorem tz_key (x a : Nat) (hx : x < 2 ^ 64) (hx0 : x ≠ 0) (hlow : x &&& (2 ^ 64 - x) = a) :
    IntKind.u64.wrap (bits BinOp.and IntKind.u64 (x : Int) (IntKind.u64.wrap (-(x : Int))) * 285870213051353865) / 288230376151711744 = ((a * 285870213051353865 % 18446744073709551616 / 288230376151711744 : Nat) : Int) := by
  rw [show (2 : Nat) ^ 64 = 18446744073709551616 from by decide] at hx hlow
  have e1 : IntKind.u64.wrap (-(x : Int)) = ((18446744073709551616 - x : Nat) : Int) := by rw [IntKind.wrap_u64]; omega
  rw [e1, Go.bits_and_u64_nat x _ hx (by omega), hlow, IntKind.wrap_u64]
  omega

theorem tz_core (x : Int) (k idx : Nat) (w : World) (hx0 : (x == 0) = false)
    (key : IntKind.u64.wrap (bits BinOp.and IntKind.u64 x (IntKind.u64.wrap (-x)) * 285870213051353865) / 288230376151711744 = (idx : Int))
    (hi : idx < 64) (hk : k < 64) (hcell : w.cell? ⟨4, idx, none⟩ = some (.int .u8 k)) :
    Calls Tryz.prog 119 #[.int .u64 x] w fun e w' => e = .returned (.int .i64 k) ∧ w = w' := by
  go_enter Tryz.func119, Tryz.ntmps119
  go_wp2_with (simp only [key])
  go_ret
  exact ⟨rfl, rfl⟩

theorem tz_calls (x : Int) (hx : 0 < x ∧ x < 18446744073709551616) (w : World) (hT : Tab w) :
    Calls Tryz.prog 119 #[.int .u64 x] w fun e w' => e = .returned (.int .i64 (tzI x)) ∧ w = w' := by
  obtain ⟨x, rfl⟩ := Int.eq_ofNat_of_zero_le (Int.le_of_lt hx.1)
  have hx1 : x < 2 ^ 64 := by rw [show (2 : Nat) ^ 64 = 18446744073709551616 from by decide]; omega
  obtain ⟨hlow, hk⟩ := Lib.lowest_bit 64 x (by omega) hx1
  obtain ⟨hi, htab⟩ := Lib.deBruijn64_at _ hk
  have hcell := hT _ hi
  rw [htab] at hcell
  have hc0 : ((x : Int) == 0) = false := by simp; omega
  exact tz_core x _ _ w hc0 (tz_key x _ hx1 (by omega) hlow) hi hk hcell

theorem two_split {a b c d : Nat} (h : 2 ^ a * (2 * b + 1) = 2 ^ c * (2 * d + 1)) : a = c ∧ b = d := by
  have aux : ∀ a b c d : Nat, a < c → 2 ^ a * (2 * b + 1) ≠ 2 ^ c * (2 * d + 1) := by
    intro a b c d hac h
    obtain ⟨k, rfl⟩ : ∃ k, c = a + (k + 1) := ⟨c - a - 1, by omega⟩
    rw [Nat.pow_add, Nat.mul_assoc] at h
    have h2 := Nat.eq_of_mul_eq_mul_left (Nat.two_pow_pos a) h
    rw [Nat.pow_succ, Nat.mul_comm (2 ^ k) 2, Nat.mul_assoc] at h2
    omega
  have hac : a = c := by
    rcases Nat.lt_trichotomy a c with h1 | h1 | h1
    · exact absurd h (aux a b c d h1)
    · exact h1
    · exact absurd h.symm (aux c d a b h1)
  subst hac
  have := Nat.eq_of_mul_eq_mul_left (Nat.two_pow_pos a) h
  omega

/-- An odd number and a power of 2: the odd part and the place. -/
theorem odd_of (x m : Int) (k : Nat) (hx : 0 < x) (hx1 : x < 18446744073709551616) (h : x = m * 2 ^ k) (hm : m % 2 = 1) : oddI x = m ∧ tzI x = k := by
  obtain ⟨n, rfl⟩ := Int.eq_ofNat_of_zero_le (Int.le_of_lt hx)
  have hp : (0 : Int) < 2 ^ k := Int.pow_pos (by omega)
  have hm0 : 0 ≤ m := by
    rcases Int.lt_or_le m 0 with h0 | h0
    · have := Int.mul_neg_of_neg_of_pos h0 hp
      omega
    · exact h0
  obtain ⟨m, rfl⟩ := Int.eq_ofNat_of_zero_le hm0
  have h2 : n = m * 2 ^ k := by
    have : (n : Int) = ((m * 2 ^ k : Nat) : Int) := by rw [h]; simp
    omega
  have hn64 : n < 2 ^ 64 := by rw [show (2 : Nat) ^ 64 = 18446744073709551616 from by decide]; omega
  obtain ⟨j, hj, -⟩ := Lib.ctzFrom_spec 64 n (by omega) hn64
  have hc : Lib.ctz 64 n = Lib.ctzFrom 64 n := by unfold Lib.ctz; rw [if_neg (by omega)]
  rw [← hc] at hj
  have hmo : m = 2 * (m / 2) + 1 := by omega
  have h3 : 2 ^ Lib.ctz 64 n * (2 * j + 1) = 2 ^ k * (2 * (m / 2) + 1) := by rw [← hj, h2, ← hmo, Nat.mul_comm]
  obtain ⟨e1, e2⟩ := two_split h3
  unfold oddI tzI
  rw [Int.toNat_natCast, e1]
  refine ⟨?_, rfl⟩
  rw [h]
  exact Int.mul_ediv_cancel _ (by omega)

theorem odd_spec (x : Int) (hx : 0 < x) (hx1 : x < 18446744073709551616) : x = oddI x * 2 ^ (tzI x).toNat ∧ oddI x % 2 = 1 ∧ 0 < oddI x ∧ oddI x ≤ x ∧ 0 ≤ tzI x ∧ tzI x < 64 := by
  obtain ⟨n, rfl⟩ := Int.eq_ofNat_of_zero_le (Int.le_of_lt hx)
  have hn64 : n < 2 ^ 64 := by rw [show (2 : Nat) ^ 64 = 18446744073709551616 from by decide]; omega
  obtain ⟨j, hj, hlt⟩ := Lib.ctzFrom_spec 64 n (by omega) hn64
  have hc : Lib.ctz 64 n = Lib.ctzFrom 64 n := by unfold Lib.ctz; rw [if_neg (by omega)]
  rw [← hc] at hj hlt
  have e : oddI (n : Int) = (2 * j + 1 : Nat) ∧ tzI (n : Int) = (Lib.ctz 64 n : Nat) := by
    refine odd_of _ _ _ hx hx1 ?_ (by omega)
    have : ((n : Nat) : Int) = ((2 ^ Lib.ctz 64 n * (2 * j + 1) : Nat) : Int) := by rw [← hj]
    rw [this, Nat.mul_comm]
    simp
  have hp := Nat.two_pow_pos (Lib.ctz 64 n)
  have hle : 2 * j + 1 ≤ n := by
    have := Nat.mul_le_mul_right (2 * j + 1) hp
    omega
  rw [e.1, e.2, Int.toNat_natCast]
  refine ⟨?_, by omega, by omega, by omega, by omega, by omega⟩
  have : ((n : Nat) : Int) = ((2 ^ Lib.ctz 64 n * (2 * j + 1) : Nat) : Int) := by rw [← hj]
  rw [this, Nat.mul_comm]
  simp

/-- The parts of a pattern. -/
def pOk (W : Nat) (x : Int) : Bool := decide (sizeW W x < infW W)
def pNeg (W : Nat) (x : Int) : Bool := pOk W x && negW W x
def rawM (W : Nat) (x : Int) : Int := (numM (shF W) (sizeW W x).toNat : Nat)
def rawE (W : Nat) (x : Int) : Int := shL W + (numP (shF W) (sizeW W x).toNat : Nat)
def pM (W : Nat) (x : Int) : Int := if pOk W x && !decide (sizeW W x = 0) then oddI (rawM W x) else 0
def pE (W : Nat) (x : Int) : Int := if pOk W x && !decide (sizeW W x = 0) then rawE W x + tzI (rawM W x) else 0

/-- The whole number that a pattern is. -/
def intOk (W : Nat) (x : Int) : Bool := pOk W x && decide (0 ≤ pE W x)
def intV (W : Nat) (x : Int) : Int := if intOk W x then pM W x * 2 ^ (pE W x).toNat else 0
def intN (W : Nat) (x : Int) : Int := if pNeg W x then -intV W x else intV W x

theorem results_tmp4 {fn : Func} {t u v s : Tmp} (h : fn.results = #[.tmp t, .tmp u, .tmp v, .tmp s]) (tmps : Array Value) (P : Program) (w : World) :
    (results fn tmps).run P w = .ok (.tuple #[tmps.getD t undef, tmps.getD u undef, tmps.getD v undef, tmps.getD s undef]) w := by
  simp [results, h]

theorem raw_pos {W : Nat} (x : Int) (h : 0 < sizeW W x) : 0 < rawM W x := by
  unfold rawM numM
  have := Nat.two_pow_pos (shF W)
  split <;> omega
theorem raw_lt {W : Nat} (hW : Wide W) (x : Int) : rawM W x < 9007199254740992 := by
  have h2 := numM_lt (shF W) (sizeW W x).toNat
  have h3 : 2 ^ (shF W + 1) ≤ 2 ^ 53 := Nat.pow_le_pow_right (by omega) (by rcases hW with rfl | rfl | rfl <;> decide)
  have h4 : (2 : Nat) ^ 53 = 9007199254740992 := by decide
  unfold rawM
  omega
theorem rawE_bd {W : Nat} (hW : Wide W) (x : Int) (h : sizeW W x ≤ infW W) : -1074 ≤ rawE W x ∧ rawE W x ≤ 2048 := by
  have h2 := numP_le hW (sizeW W x).toNat (by have := infW_eq hW; omega)
  have h3 : 2 ^ shE W ≤ 2048 := by rcases hW with rfl | rfl | rfl <;> decide
  have h4 : -1074 ≤ shL W ∧ shL W ≤ -24 := by rcases hW with rfl | rfl | rfl <;> decide
  unfold rawE
  omega
theorem pM_bd {W : Nat} (hW : Wide W) (x : Int) : 0 ≤ pM W x ∧ pM W x < 9007199254740992 := by
  unfold pM
  split
  · rename_i h
    simp only [Bool.and_eq_true, Bool.not_eq_true', decide_eq_false_iff_not] at h
    have h1 : 0 ≤ rawM W x := by unfold rawM; omega
    rcases Int.lt_or_eq_of_le h1 with h2 | h2
    · have h3 := raw_lt hW x
      have h4 := odd_spec _ h2 (by omega)
      omega
    · rw [← h2]
      decide
  · omega
theorem pE_bd {W : Nat} (hW : Wide W) (x : Int) : -1074 ≤ pE W x ∧ pE W x ≤ 2200 := by
  unfold pE
  split
  · rename_i h
    simp only [Bool.and_eq_true, Bool.not_eq_true', decide_eq_false_iff_not] at h
    have h0 : sizeW W x < infW W := of_decide_eq_true h.1
    have h1 := rawE_bd hW x (Int.le_of_lt h0)
    have h2 : 0 ≤ rawM W x := by unfold rawM; omega
    rcases Int.lt_or_eq_of_le h2 with h3 | h3
    · have h4 := raw_lt hW x
      have h5 := odd_spec _ h3 (by omega)
      omega
    · rw [← h3]
      have : tzI 0 = 64 := by decide
      omega
  · omega
end Go.Proofs.YtoimhjcpeifegaaGreatDoor


/- Printed by ieee.py. -/
namespace Go.Proofs.YtoimhjcpeifegaaGreatDoor
open Go.RowKit

/-- split: the sign, and the pattern without it. -/
theorem split_64 (w : World) (hS : Shapes w) (x : Int) (hx : 0 ≤ x ∧ x < 18446744073709551616) : Calls Tryz.prog 93 #[.int .u64 x] w (fun e w' => e = .returned (.tuple #[.bool (negW 64 x), .int .u64 (sizeW 64 x)]) ∧ Below w.heap.size w w') := by
  have h1 := Lib.hid (of_64 w hS)
  have HN := Lib.hid (and_sign_64 x (by omega))
  have HA := Lib.hid (andNot_sign_64 x (by omega))
  go_enter Tryz.func93, Tryz.ntmps93
  go_wp2_with fail
  refine (h1.out).mono ?_
  rintro e w1 ⟨rfl, b1⟩
  have h2 := Lib.hid (shsign_64 w1)
  go_wp2_with fail
  refine (h2.out).mono ?_
  rintro e w2 ⟨rfl, b2⟩
  go_wp2
  go_ret2
  rw [← HN.out, ← HA.out]
  exact ⟨rfl, below_trans b1 b2⟩
end Go.Proofs.YtoimhjcpeifegaaGreatDoor


/- What the walks of layer 4 carry along. -/
namespace Go.Proofs.YtoimhjcpeifegaaGreatDoor
open Go.RowKit

theorem limb_pow (n : Nat) : (4294967296 : Int) ^ n = 2 ^ (32 * n) := by
  rw [Int.pow_mul]
  rfl

theorem blen_limbs (V : Int) (n : Nat) (h0 : 0 ≤ V) (h : V < 4294967296 ^ n) : blen V.toNat ≤ 32 * n := by
  by_cases hz : V.toNat = 0
  · rw [hz]; exact Nat.zero_le _
  · have h1 := blen_ge V.toNat hz
    rw [limb_pow] at h
    have h2 : V.toNat < 2 ^ (32 * n) := by
      have : ((V.toNat : Nat) : Int) < ((2 ^ (32 * n) : Nat) : Int) := by
        rw [Int.toNat_of_nonneg h0]
        simpa using h
      exact Int.ofNat_lt.1 this
    have h3 := (Nat.pow_lt_pow_iff_right (show 1 < 2 by omega)).1 (Nat.lt_of_le_of_lt h1 h2)
    omega

theorem Num.bits_le {w : World} {ad : Option Addr} {n c : Nat} {V : Int} (h : Num w ad n c V) : 0 ≤ bitsOf V ∧ bitsOf V ≤ 32 * n := by
  have := blen_limbs V n h.nonneg h.lt
  unfold bitsOf
  omega
theorem bits_zero_iff (V : Int) (hV : 0 ≤ V) : bitsOf V = 0 ↔ V = 0 := by
  unfold bitsOf
  constructor
  · intro h
    by_cases hz : V.toNat = 0
    · omega
    · have := blen_pos V.toNat hz
      omega
  · rintro rfl; rfl

/-- A number of few limbs has room to be moved up. -/
theorem shl_fits (V : Int) (n : Nat) (r : Int) (h0 : 0 ≤ V) (h : V < 4294967296 ^ n) (hn : n ≤ 4096) (hr : 0 ≤ r ∧ r ≤ 32 * 4096) :
    shlOk V r = true ∧ shlNum V r = V * 2 ^ r.toNat ∧ 0 ≤ V * 2 ^ r.toNat ∧ V * 2 ^ r.toNat < 4294967296 ^ (n + 4097) := by
  have h1 := blen_limbs V n h0 h
  have e1 : shlOk V r = true := decide_eq_true ⟨hr.1, .inr (by omega)⟩
  have h2 : (0 : Int) < 2 ^ r.toNat := Int.pow_pos (by omega)
  refine ⟨e1, by unfold shlNum; rw [if_pos e1], Int.mul_nonneg h0 (Int.le_of_lt h2), ?_⟩
  refine pow_mul_lt _ _ _ _ h0 (Int.le_of_lt h2) h ?_
  rw [limb_pow]
  have h3 := pow_le (b := 2) (by omega) (show r.toNat + 1 ≤ 32 * 4097 by omega)
  rw [Int.pow_succ] at h3
  omega

theorem double_lt {V : Int} {n : Nat} (h0 : 0 ≤ V) (h : V < 4294967296 ^ n) : V + V + 1 < 4294967296 ^ (n + 1) := by
  rw [Int.pow_succ]
  omega

theorem num_one (w : World) : Num (w.alloc (.cells #[.int .u32 1] 23)) (some ⟨w.heap.size, 0, none⟩) 1 1 1 :=
  ⟨Nat.le_refl _, [1], (Blk.made w 23 .u32 [1] _ rfl).rds, Dig.cons (by omega) (by omega) (Dig.nil _), rfl⟩

theorem and_one (q : Int) (hq : 0 ≤ q ∧ q < 18446744073709551616) : bits .and .u64 q 1 = q % 2 := by
  obtain ⟨q, rfl⟩ := Int.eq_ofNat_of_zero_le hq.1
  have e : bits .and .u64 (q : Int) ((1 : Nat) : Int) = ((q &&& 1 : Nat) : Int) := Go.bits_and_u64_nat q 1 (by omega) (by omega)
  rw [Nat.and_one_is_mod] at e
  exact e

/-- The local shape, in block b. -/
structure ShAt (F L E : Int) (b : Nat) (w : World) : Prop where
  c0 : w.cell? ⟨b, 0, none⟩ = some (.int .i64 F)
  c1 : w.cell? ⟨b, 1, none⟩ = some (.int .i64 L)
  c2 : w.cell? ⟨b, 2, none⟩ = some (.int .i64 E)
theorem ShAt.below {F L E : Int} {b : Nat} {w w1 : World} (h : ShAt F L E b w) (k : Below w.heap.size w w1) : ShAt F L E b w1 :=
  ⟨below_cell k (Nat.le_refl _) h.c0, below_cell k (Nat.le_refl _) h.c1, below_cell k (Nat.le_refl _) h.c2⟩
theorem ShAt.made (F L E : Int) (w : World) : ShAt F L E w.heap.size (w.alloc (.cells #[.int .i64 F, .int .i64 L, .int .i64 E] 95)) :=
  ⟨World.cell?_alloc_at _ _ _ _ rfl, World.cell?_alloc_at _ _ _ _ rfl, World.cell?_alloc_at _ _ _ _ rfl⟩

/-- The number that is looked for, and where the walk stands. -/
structure PNum (W : Nat) (F L E : Int) (b : Nat) (w wx : World) (T : Nat) (ad : Option Addr) (n c : Nat) (M p N : Int) : Prop where
  num : Num wx ad n c M
  pos : 0 < M
  len : n ≤ 1099511627778
  bd : -3000 - N ≤ p ∧ p ≤ 2000
  nb : 0 ≤ N ∧ N ≤ 1125899906842624
  bits : Hid (N = bitsOf M)
  near : Hid (T = nearE W M.toNat p)
  sh : ShAt F L E b wx
  shp : Shapes wx
  bel : Below w.heap.size w wx
theorem PNum.below {W : Nat} {F L E : Int} {b : Nat} {w wx wy : World} {T : Nat} {ad : Option Addr} {n c : Nat} {M p N : Int} (h : PNum W F L E b w wx T ad n c M p N) (k : Below wx.heap.size wx wy) : PNum W F L E b w wy T ad n c M p N :=
  ⟨h.num.below k (Nat.le_refl _), h.pos, h.len, h.bd, h.nb, h.bits, h.near, h.sh.below k, h.shp.below k (Nat.le_refl _), below_trans h.bel k⟩
/-- Where it stands when the digits are found. -/
structure PAt (F L E : Int) (b : Nat) (w wx : World) : Prop where
  sh : ShAt F L E b wx
  shp : Shapes wx
  bel : Below w.heap.size w wx
end Go.Proofs.YtoimhjcpeifegaaGreatDoor


/- Printed by ieee.py. -/
namespace Go.Proofs.YtoimhjcpeifegaaGreatDoor
open Go.RowKit

/-- split: the sign, and the pattern without it. -/
theorem split_16 (w : World) (hS : Shapes w) (x : Int) (hx : 0 ≤ x ∧ x < 65536) : Calls Tryz.prog 59 #[.int .u16 x] w (fun e w' => e = .returned (.tuple #[.bool (negW 16 x), .int .u64 (sizeW 16 x)]) ∧ Below w.heap.size w w') := by
  have h1 := Lib.hid (of_16 w hS)
  have HN := Lib.hid (and_sign_16 x (by omega))
  have HA := Lib.hid (andNot_sign_16 x (by omega))
  go_enter Tryz.func59, Tryz.ntmps59
  go_wp2_with fail
  refine (h1.out).mono ?_
  rintro e w1 ⟨rfl, b1⟩
  have h2 := Lib.hid (shsign_16 w1)
  go_wp2_with fail
  refine (h2.out).mono ?_
  rintro e w2 ⟨rfl, b2⟩
  go_wp2
  go_ret2
  rw [← HN.out, ← HA.out]
  exact ⟨rfl, below_trans b1 b2⟩
end Go.Proofs.YtoimhjcpeifegaaGreatDoor


/- Printed by ieee.py. -/
namespace Go.Proofs.YtoimhjcpeifegaaGreatDoor
open Go.RowKit

/-- split: the sign, and the pattern without it. -/
theorem split_32 (w : World) (hS : Shapes w) (x : Int) (hx : 0 ≤ x ∧ x < 4294967296) : Calls Tryz.prog 67 #[.int .u32 x] w (fun e w' => e = .returned (.tuple #[.bool (negW 32 x), .int .u64 (sizeW 32 x)]) ∧ Below w.heap.size w w') := by
  have h1 := Lib.hid (of_32 w hS)
  have HN := Lib.hid (and_sign_32 x (by omega))
  have HA := Lib.hid (andNot_sign_32 x (by omega))
  go_enter Tryz.func67, Tryz.ntmps67
  go_wp2_with fail
  refine (h1.out).mono ?_
  rintro e w1 ⟨rfl, b1⟩
  have h2 := Lib.hid (shsign_32 w1)
  go_wp2_with fail
  refine (h2.out).mono ?_
  rintro e w2 ⟨rfl, b2⟩
  go_wp2
  go_ret2
  rw [← HN.out, ← HA.out]
  exact ⟨rfl, below_trans b1 b2⟩
end Go.Proofs.YtoimhjcpeifegaaGreatDoor


/- Printed by ieee3.py. -/
namespace Go.Proofs.YtoimhjcpeifegaaGreatDoor
open Go.RowKit

theorem or_sign_64 (z : Int) (hz : 0 ≤ z ∧ z < 9223372036854775808) : bits .or .u64 z 9223372036854775808 = 9223372036854775808 + z := by
  obtain ⟨z, rfl⟩ := Int.eq_ofNat_of_zero_le hz.1
  have e : bits .or .u64 (z : Int) ((9223372036854775808 : Nat) : Int) = ((z ||| 9223372036854775808 : Nat) : Int) := Go.bits_or_u64_nat z _ (by omega) (by omega)
  have h := Nat.two_pow_add_eq_or_of_lt (show z < 2 ^ 63 by rw [show (2 : Nat) ^ 63 = 9223372036854775808 from by decide]; omega) 1
  rw [Nat.mul_one, show (2 : Nat) ^ 63 = 9223372036854775808 from by decide, Nat.or_comm] at h
  rw [← h] at e
  exact e.trans (by simp)

theorem signed_64 (w : World) (hS : Shapes w) (neg : Bool) (z : Int) (hz : 0 ≤ z ∧ z < 9223372036854775808) : Calls Tryz.prog 60 #[.bool neg, .int .u64 z] w (fun e w' => e = .returned (.int .u64 ((if neg then sgnW 64 else 0) + z)) ∧ Below w.heap.size w w') := by
  have H1 := Lib.hid (of_64 w hS)
  have HO := or_sign_64 z hz
  rw [sgn64]
  cases neg
  · have W1 : IntKind.u64.wrap z = z := by rw [IntKind.wrap_u64]; omega
    have W2 : z % 18446744073709551616 = z := by omega
    have W3 : 0 + z = z := by omega
    clear HO
    go_enter Tryz.func60, Tryz.ntmps60
    go_wp2
    go_ret
    exact ⟨by first | rfl | simp, Below.refl _ _⟩
  · have W1 : IntKind.u64.wrap (9223372036854775808 + z) = 9223372036854775808 + z := by rw [IntKind.wrap_u64]; omega
    have W2 : (9223372036854775808 + z) % 18446744073709551616 = 9223372036854775808 + z := by omega
    go_enter Tryz.func60, Tryz.ntmps60
    go_wp2_with fail
    refine (H1.out).mono ?_
    rintro e w1 ⟨rfl, b1⟩
    go_wp2_with fail
    refine (shsign_64 w1).mono ?_
    rintro e w2 ⟨rfl, b2⟩
    go_wp2
    go_ret
    exact ⟨by first | rfl | simp, below_trans b1 b2⟩
end Go.Proofs.YtoimhjcpeifegaaGreatDoor


/- Printed by ieee3.py. -/
namespace Go.Proofs.YtoimhjcpeifegaaGreatDoor
open Go.RowKit

theorem or_sign_16 (z : Int) (hz : 0 ≤ z ∧ z < 32768) : bits .or .u64 z 32768 = 32768 + z := by
  obtain ⟨z, rfl⟩ := Int.eq_ofNat_of_zero_le hz.1
  have e : bits .or .u64 (z : Int) ((32768 : Nat) : Int) = ((z ||| 32768 : Nat) : Int) := Go.bits_or_u64_nat z _ (by omega) (by omega)
  have h := Nat.two_pow_add_eq_or_of_lt (show z < 2 ^ 15 by rw [show (2 : Nat) ^ 15 = 32768 from by decide]; omega) 1
  rw [Nat.mul_one, show (2 : Nat) ^ 15 = 32768 from by decide, Nat.or_comm] at h
  rw [← h] at e
  exact e.trans (by simp)

theorem signed_16 (w : World) (hS : Shapes w) (neg : Bool) (z : Int) (hz : 0 ≤ z ∧ z < 32768) : Calls Tryz.prog 94 #[.bool neg, .int .u64 z] w (fun e w' => e = .returned (.int .u16 ((if neg then sgnW 16 else 0) + z)) ∧ Below w.heap.size w w') := by
  have H1 := Lib.hid (of_16 w hS)
  have HO := or_sign_16 z hz
  rw [sgn16]
  cases neg
  · have W1 : IntKind.u16.wrap z = z := by rw [IntKind.wrap_u16]; omega
    have W2 : z % 65536 = z := by omega
    have W3 : 0 + z = z := by omega
    clear HO
    go_enter Tryz.func94, Tryz.ntmps94
    go_wp2
    go_ret
    exact ⟨by first | rfl | simp, Below.refl _ _⟩
  · have W1 : IntKind.u16.wrap (32768 + z) = 32768 + z := by rw [IntKind.wrap_u16]; omega
    have W2 : (32768 + z) % 65536 = 32768 + z := by omega
    go_enter Tryz.func94, Tryz.ntmps94
    go_wp2_with fail
    refine (H1.out).mono ?_
    rintro e w1 ⟨rfl, b1⟩
    go_wp2_with fail
    refine (shsign_16 w1).mono ?_
    rintro e w2 ⟨rfl, b2⟩
    go_wp2
    go_ret
    exact ⟨by first | rfl | simp, below_trans b1 b2⟩
end Go.Proofs.YtoimhjcpeifegaaGreatDoor

