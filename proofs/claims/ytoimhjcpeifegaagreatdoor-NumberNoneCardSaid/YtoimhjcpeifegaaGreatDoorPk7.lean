/- Contracts of functions, and plain facts, part 7. -/
import Derived.Laws.Bits64b
import Derived.WalkKit
import Derived.OneCell
import Derived.OwnWalk
import Derived.Deep.RegionHeld3
import Derived.Test.YtoimhjcpeifegaaGreatDoorCards
import Derived.Lib.LaidTab
import Derived.Test.YtoimhjcpeifegaaGreatDoorProg
import Derived.Lib.TrailingZeros
import Derived.Test.YtoimhjcpeifegaaGreatDoorPk1
import Derived.Test.YtoimhjcpeifegaaGreatDoorPk3
import Derived.Test.YtoimhjcpeifegaaGreatDoorPk4
import Derived.Test.YtoimhjcpeifegaaGreatDoorPk5
import Derived.Test.YtoimhjcpeifegaaGreatDoorPk6
set_option linter.unusedVariables false
set_option linter.unusedSimpArgs false
/- Printed by ieee.py. -/
namespace Go.Proofs.YtoimhjcpeifegaaGreatDoor
open Go.RowKit

theorem and_two_pow_nat (x k : Nat) (hx : x < 2 ^ (k + 1)) : x &&& 2 ^ k = if 2 ^ k ≤ x then 2 ^ k else 0 := by
  apply Nat.eq_of_testBit_eq
  intro i
  rw [Nat.testBit_and, Nat.testBit_two_pow]
  by_cases h : k = i
  · subst h
    by_cases h2 : 2 ^ k ≤ x
    · rw [if_pos h2, Nat.testBit_two_pow_self]
      have : x.testBit k = true := by
        rw [Nat.testBit_eq_decide_div_mod_eq]
        rw [Nat.pow_succ] at hx
        have h3 : x / 2 ^ k = 1 := by
          apply Nat.div_eq_of_lt_le <;> omega
        rw [h3]
        rfl
      simp [this]
    · rw [if_neg h2, Nat.testBit_lt_two_pow (by omega)]
      simp
  · have h3 : decide (k = i) = false := by simp [h]
    rw [h3, Bool.and_false]
    split
    · rw [Nat.testBit_two_pow, h3]
    · simp

theorem andNot_two_pow_nat (x k : Nat) (hk : k < 64) (hx : x < 2 ^ (k + 1)) : x &&& (2 ^ 64 - (2 ^ k + 1)) = x % 2 ^ k := by
  apply Nat.eq_of_testBit_eq
  intro i
  have h1 : 2 ^ k < 2 ^ 64 := Nat.pow_lt_pow_right (by omega) hk
  rw [Nat.testBit_and, Nat.testBit_two_pow_sub_succ h1, Nat.testBit_mod_two_pow, Nat.testBit_two_pow]
  by_cases hik : i < k
  · have h2 : i < 64 := by omega
    have h3 : ¬ k = i := by omega
    simp [hik, h2, h3]
  · by_cases he : k = i
    · subst he
      simp
    · rw [Nat.testBit_lt_two_pow (Nat.lt_of_lt_of_le hx (Nat.pow_le_pow_right (by omega) (by omega)))]
      simp

theorem bits_andNot_u64_nat (a b : Nat) (ha : a < 18446744073709551616) (hb : b < 18446744073709551616) : bits .andNot .u64 (a : Int) (b : Int) = ((a &&& (2 ^ 64 - (b + 1)) : Nat) : Int) := by
  have h1 : (BitVec.ofInt 64 (a : Int)).toNat = a := by
    rw [BitVec.ofInt_natCast, BitVec.toNat_ofNat]; exact Nat.mod_eq_of_lt (by omega)
  have h2 : (BitVec.ofInt 64 (b : Int)).toNat = b := by
    rw [BitVec.ofInt_natCast, BitVec.toNat_ofNat]; exact Nat.mod_eq_of_lt (by omega)
  have hx : a &&& (2 ^ 64 - (b + 1)) < 2 ^ 64 := Nat.lt_of_le_of_lt Nat.and_le_left (by omega)
  show IntKind.u64.wrap ((BitVec.ofInt 64 (a : Int) &&& ~~~ BitVec.ofInt 64 (b : Int)).toNat : Int) = _
  rw [BitVec.toNat_and, BitVec.toNat_not, h1, h2, show 2 ^ 64 - 1 - b = 2 ^ 64 - (b + 1) by omega, IntKind.wrap_u64]
  omega

theorem and_sign_16 (x : Int) (hx : 0 ≤ x ∧ x < 65536) : (bits .and .u64 x 32768 != 0) = negW 16 x := by
  obtain ⟨x, rfl⟩ := Int.eq_ofNat_of_zero_le hx.1
  have e : bits .and .u64 (x : Int) ((32768 : Nat) : Int) = ((x &&& 32768 : Nat) : Int) := Go.bits_and_u64_nat x _ (by omega) (by omega)
  have h := and_two_pow_nat x 15 (by omega)
  rw [show (2 : Nat) ^ 15 = 32768 from by decide] at h
  rw [show ((32768 : Nat) : Int) = 32768 from rfl, h] at e
  unfold negW
  rw [sgn16, e, Bool.eq_iff_iff]
  simp only [bne_iff_ne, ne_eq, decide_eq_true_eq]
  split <;> omega
theorem andNot_sign_16 (x : Int) (hx : 0 ≤ x ∧ x < 65536) : bits .andNot .u64 x 32768 = sizeW 16 x := by
  obtain ⟨x, rfl⟩ := Int.eq_ofNat_of_zero_le hx.1
  have e : bits .andNot .u64 (x : Int) ((32768 : Nat) : Int) = _ := bits_andNot_u64_nat x _ (by omega) (by omega)
  have h := andNot_two_pow_nat x 15 (by omega) (by omega)
  rw [show (2 : Nat) ^ 15 = 32768 from by decide] at h
  rw [show ((32768 : Nat) : Int) = 32768 from rfl, h] at e
  unfold sizeW
  rw [sgn16, e]
  split <;> omega

theorem and_sign_32 (x : Int) (hx : 0 ≤ x ∧ x < 4294967296) : (bits .and .u64 x 2147483648 != 0) = negW 32 x := by
  obtain ⟨x, rfl⟩ := Int.eq_ofNat_of_zero_le hx.1
  have e : bits .and .u64 (x : Int) ((2147483648 : Nat) : Int) = ((x &&& 2147483648 : Nat) : Int) := Go.bits_and_u64_nat x _ (by omega) (by omega)
  have h := and_two_pow_nat x 31 (by omega)
  rw [show (2 : Nat) ^ 31 = 2147483648 from by decide] at h
  rw [show ((2147483648 : Nat) : Int) = 2147483648 from rfl, h] at e
  unfold negW
  rw [sgn32, e, Bool.eq_iff_iff]
  simp only [bne_iff_ne, ne_eq, decide_eq_true_eq]
  split <;> omega
theorem andNot_sign_32 (x : Int) (hx : 0 ≤ x ∧ x < 4294967296) : bits .andNot .u64 x 2147483648 = sizeW 32 x := by
  obtain ⟨x, rfl⟩ := Int.eq_ofNat_of_zero_le hx.1
  have e : bits .andNot .u64 (x : Int) ((2147483648 : Nat) : Int) = _ := bits_andNot_u64_nat x _ (by omega) (by omega)
  have h := andNot_two_pow_nat x 31 (by omega) (by omega)
  rw [show (2 : Nat) ^ 31 = 2147483648 from by decide] at h
  rw [show ((2147483648 : Nat) : Int) = 2147483648 from rfl, h] at e
  unfold sizeW
  rw [sgn32, e]
  split <;> omega

theorem and_sign_64 (x : Int) (hx : 0 ≤ x ∧ x < 18446744073709551616) : (bits .and .u64 x 9223372036854775808 != 0) = negW 64 x := by
  obtain ⟨x, rfl⟩ := Int.eq_ofNat_of_zero_le hx.1
  have e : bits .and .u64 (x : Int) ((9223372036854775808 : Nat) : Int) = ((x &&& 9223372036854775808 : Nat) : Int) := Go.bits_and_u64_nat x _ (by omega) (by omega)
  have h := and_two_pow_nat x 63 (by omega)
  rw [show (2 : Nat) ^ 63 = 9223372036854775808 from by decide] at h
  rw [show ((9223372036854775808 : Nat) : Int) = 9223372036854775808 from rfl, h] at e
  unfold negW
  rw [sgn64, e, Bool.eq_iff_iff]
  simp only [bne_iff_ne, ne_eq, decide_eq_true_eq]
  split <;> omega
theorem andNot_sign_64 (x : Int) (hx : 0 ≤ x ∧ x < 18446744073709551616) : bits .andNot .u64 x 9223372036854775808 = sizeW 64 x := by
  obtain ⟨x, rfl⟩ := Int.eq_ofNat_of_zero_le hx.1
  have e : bits .andNot .u64 (x : Int) ((9223372036854775808 : Nat) : Int) = _ := bits_andNot_u64_nat x _ (by omega) (by omega)
  have h := andNot_two_pow_nat x 63 (by omega) (by omega)
  rw [show (2 : Nat) ^ 63 = 9223372036854775808 from by decide] at h
  rw [show ((9223372036854775808 : Nat) : Int) = 9223372036854775808 from rfl, h] at e
  unfold sizeW
  rw [sgn64, e]
  split <;> omega
end Go.Proofs.YtoimhjcpeifegaaGreatDoor


/- Shl by worth alone. -/
namespace Go.Proofs.YtoimhjcpeifegaaGreatDoor
open Go.RowKit

theorem num_shl (ad : Option Addr) (n c : Nat) (V : Int) (r : Int) (w : World) (h : Num w ad n c V) (hn : n ≤ 70368744177663) (hr : -9223372036854775808 ≤ r ∧ r < 9223372036854775808) :
    Calls Tryz.prog 112 #[.slice ad n c, .int .i64 r] w (RetCB (shlNum V r) (shlOk V r) w) := by
  obtain ⟨xs, h1, h2, rfl⟩ := h.row
  exact (shl_calls ad n c xs r w (by omega) h.le h1 h2 hr).mono fun e w' q => q.can
end Go.Proofs.YtoimhjcpeifegaaGreatDoor


/- Shr by worth alone. -/
namespace Go.Proofs.YtoimhjcpeifegaaGreatDoor
open Go.RowKit

theorem num_shr (ad : Option Addr) (n c : Nat) (V : Int) (r : Int) (w : World) (h : Num w ad n c V) (hn : n ≤ 70368744177663) (hr : -9223372036854775808 ≤ r ∧ r < 9223372036854775808) :
    Calls Tryz.prog 123 #[.slice ad n c, .int .i64 r] w (RetCBB (shrNum V r) (shrMore V r) (decide (0 ≤ r)) w) := by
  obtain ⟨xs, h1, h2, rfl⟩ := h.row
  exact (shr_calls ad n c xs r w (by omega) h.le h1 h2 hr).mono fun e w' q => q.can
end Go.Proofs.YtoimhjcpeifegaaGreatDoor


/- The class of a pattern: plain. -/
namespace Go.Proofs.YtoimhjcpeifegaaGreatDoor

def clsW (W : Nat) (x : Int) : Int := if infW W < sizeW W x then 5 else if sizeW W x = infW W then 4 else if sizeW W x = 0 then 1 else if sizeW W x < 2 ^ shF W then 2 else 3

theorem nan_cls (W : Nat) (x : Int) : (clsW W x == 5) = isNaN W x := by
  unfold clsW isNaN
  split
  · rename_i h; simp [h]
  · rename_i h
    rw [decide_eq_false h]
    split
    · rfl
    · split
      · rfl
      · split <;> rfl
end Go.Proofs.YtoimhjcpeifegaaGreatDoor


/- A slice of the call's own that is appended to: what else stays as it was. -/
namespace Go.Proofs.YtoimhjcpeifegaaGreatDoor
open Go.RowKit

/-- The block that an address lies in. -/
def blkOf (ad : Option Addr) : Option Nat := ad.map (·.block)
theorem ownBlock_slice (ad : Option Addr) (n c : Nat) : (Value.slice ad n c).ownBlock = blkOf ad := by cases ad <;> rfl

theorem App.kept {B : Nat} {w w1 : World} {e : TypeId} {k : IntKind} {ad : Option Addr} {n c : Nat} {xs : List Int} (h : App B w e k ad n c xs) (hk : ∀ b, blkOf ad = some b → w1.heap[b]? = w.heap[b]?) : App B w1 e k ad n c xs := by
  refine ⟨h.1, ?_⟩
  rcases h.2 with h2 | ⟨g, cap, cur, h1, h2, h3, h4⟩
  · exact .inl h2
  · injection h1 with h1 _ _
    subst h1
    exact .inr ⟨g, cap, cur, by rename_i h5 h6; subst h6; rfl, h2, by rw [hk g rfl]; exact h3, h4⟩
theorem App.lt {B : Nat} {w : World} {e : TypeId} {k : IntKind} {ad : Option Addr} {n c : Nat} {xs : List Int} (h : App B w e k ad n c xs) (b : Nat) (hb : blkOf ad = some b) : B ≤ b ∧ b < w.heap.size :=
  World.ownsRow.lt h b (by rw [ownBlock_slice]; exact hb)
theorem Rds.kept {w w1 : World} {k : IntKind} {ad : Option Addr} {n : Nat} {xs : List Int} (h : Rds w k ad n xs) (hk : 0 < n → ∀ b, blkOf ad = some b → w1.heap[b]? = w.heap[b]?) : Rds w1 k ad n xs :=
  ⟨h.len, fun j hj => by
    obtain ⟨a, rfl, hc⟩ := h.cell j hj
    refine ⟨a, rfl, ?_⟩
    rw [← hc]
    have e2 : (a.add j).block = a.block := by unfold Addr.add; split <;> rfl
    simp only [World.cell?, e2, hk (by omega) a.block rfl]⟩

section
variable {P : Program} {ops : Array Oper} {rest : List Oper} {o : Oper} {a : Act} {Q : Exit → Act → World → Prop}
end
end Go.Proofs.YtoimhjcpeifegaaGreatDoor


/- Two cells that read as a whole number. -/
namespace Go.Proofs.YtoimhjcpeifegaaGreatDoor
open Go.ChangeShapes Go.WideShapes Go.RowKit

theorem fields_intO : ∃ f0 f1 : Field, Tryz.prog.underlying 34 = some (.struct #[f0, f1]) ∧ (f0.type = 4 ∧ f0.offset = 0) ∧ (f1.type = 32 ∧ f1.offset = 1) :=
  ⟨_, _, Tryz.underlying34, ⟨rfl, rfl⟩, ⟨rfl, rfl⟩⟩
theorem cellsB1 : Tryz.prog.cellsOf 4 = 1 := by kernel_rfl
theorem cellsNat1 : Tryz.prog.cellsOf 32 = 1 := by kernel_rfl
set_option maxRecDepth 100000 in
/-- Two cells that read as a whole number. -/
theorem open_int2 {H : Type} {enc : TypeId × Value → H} {W : World} {c0 c1 : Value} {n : Nat} {y : DataW H × List MemPlace} {ts : List TypeId} {ds : List (DataW H)} {j : Nat}
    (hsz : (DataW.weightsEach Tryz.prog ts ds).all (· ≤ reachBytes) = true) (ht : ts[j]? = some 34) (hd : ds[j]? = some y.1) (h : DataW.trod enc Tryz.prog W 0 (fun _ => true) true n 34 [c0, c1] = some y) :
    ∃ (ng : Bool) (a : Option Addr) (len cap : Nat) (xs : List Int), c0 = .bool ng ∧ c1 = .slice a len cap ∧ Arg W a len cap xs ∧ len * 4 ≤ 140737488351232 := by
  obtain ⟨f0, f1, hs, ⟨t0, o0⟩, ⟨t1, o1⟩⟩ := fields_intO
  obtain ⟨y0, y1, n, rfl, hl, h0, h1⟩ := trod_struct2 hs h
  rw [o0, t0, cellsB1] at h0
  rw [o1, t1, cellsNat1] at h1
  simp at h0 h1
  obtain ⟨ng, e0, -⟩ := DataW.trod_bool Tryz.underlying4 h0
  obtain ⟨a, len, cap, e1⟩ := Go.Joins.slice_form Tryz.underlying32 h1
  injection e0 with e0
  injection e1 with e1
  subst e0 e1
  have hz : (DataW.weightsEach Tryz.prog [4, 32] [y0.1, y1.1]).all (· ≤ reachBytes) = true := by
    rw [List.all_eq_true] at hsz ⊢
    intro x hx
    refine hsz x (DataW.weights_mem_each ht hd x ?_)
    rw [DataW.weights, hs]
    simp only [List.map_cons, List.map_nil, t0, t1]
    exact hx
  have hy : DataW.Trod enc Tryz.prog W 0 (fun _ => true) true 32 (.slice a len cap) y1.1 y1.2 := ⟨n, by simpa [Value.cells] using h1⟩
  have w4 := sized_ints hz (j := 1) (t := 32) rfl rfl Tryz.underlying32 Tryz.underlying23 cellsLimb bytesLimb hy
  obtain ⟨zs, hr⟩ : ∃ zs, IsRow .u32 W a len cap zs := by
    rcases open_ints Tryz.underlying32 Tryz.underlying23 cellsLimb h1 with ⟨hcs, _⟩ | ⟨x, l, c, zs, hcs, _, hl, hm, hz, _, hcell, hwz⟩
    · injection hcs with hcs
      injection hcs with q1 q2 q3
      subst q1 q2 q3
      exact ⟨[], .inl ⟨rfl, rfl, rfl, rfl⟩⟩
    · injection hcs with hcs
      injection hcs with q1 q2 q3
      subst q1 q2 q3
      exact ⟨zs, .inr ⟨_, rfl, hl, hm, by simpa using hz, hcell, hwz⟩⟩
  exact ⟨ng, a, len, cap, zs.take len, rfl, rfl, ⟨hr.le, hr.rds, hr.dig⟩, w4⟩

end Go.Proofs.YtoimhjcpeifegaaGreatDoor


/- TwinInt, SameInt, LeftInt of the statements. -/
namespace Go.Proofs.YtoimhjcpeifegaaGreatDoor
open Go.RowKit

theorem Tw.poke {w : World} {b n : Nat} {xs : List Int} (h : Tw w b n xs) {b2 : Nat} {t : TypeId} {b0 : Bool} {cs : List Value} (k : Cel w b2 t (.bool b0 :: cs)) (j : Nat) (v : Value) : Tw (w.setCell ⟨b2, j, none⟩ v) b n xs := by
  have hne : b2 ≠ b := by
    rintro rfl
    have h1 := h.blk.cell 0 (by simp)
    have h2 := k.cell 0 _ rfl
    rw [h1] at h2
    cases h2
  refine ⟨h.len, ?_, h.dig⟩
  have hb := h.blk
  unfold Blk at *
  simp only [World.setCell, Array.getElem?_modify, hb, if_neg hne]

/-- A bool is answered, nothing old has turned. -/
def RetBB (r : Bool) (w : World) (e : Ending) (w' : World) : Prop := e = .returned (.bool r) ∧ Below w.heap.size w w'

end Go.Proofs.YtoimhjcpeifegaaGreatDoor


/- Whole numbers: Norm of the program. -/
namespace Go.Proofs.YtoimhjcpeifegaaGreatDoor
open Go.RowKit

theorem made_sign (N : Int) (V : Int) (hV : V = N.natAbs) : (decide (sgI N = -1) && decide (0 < V)) = decide (N < 0) := by
  unfold sgI
  by_cases h : N < 0
  · rw [if_pos h, decide_eq_true h]; simp; omega
  · rw [if_neg h, decide_eq_false h]
    split <;> simp

theorem wnorm_calls (ng : Bool) (ad : Option Addr) (n c : Nat) (V : Int) (w : World) (h : Num w ad n c V) (hn : n ≤ 70368744177663) :
    Calls Tryz.prog 105 #[.agg #[.bool ng, .slice ad n c]] w (RetInt (sI ng V) w) := by
  have hV := h.nonneg
  have b1 : Below w.heap.size w (w.alloc (.cells #[.bool ng, .slice ad n c] 34)) := (Below.refl _ _).alloc (Nat.le_refl _) _
  have b2 : Below w.heap.size w ((w.alloc (.cells #[.bool ng, .slice ad n c] 34)).alloc (.cells #[.bool false, .slice none 0 0] 34)) := below_alloc b1 _
  have k1 : Cel ((w.alloc (.cells #[.bool ng, .slice ad n c] 34)).alloc (.cells #[.bool false, .slice none 0 0] 34)) (w.heap.size + 1) 34 [.bool false, .slice none 0 0] := Cel.made _ _ _ _ (by simp)
  have HS := Lib.hid (wsigned_calls ng ad n c V _ (h.below b2 (Nat.le_refl _)) hn)
  have HG := Lib.hid (made_sign (sI ng V) V (sI_abs ng V hV).symm)
  have HA := Lib.hid (sI_abs ng V hV)
  generalize sI ng V = N at *
  clear h b1
  go_enter Tryz.func105, Tryz.ntmps105
  go_wp2_with fail
  refine (HS.out).mono ?_
  rintro e w1 ⟨ad1, n1, d1, rfl, f1, b3⟩
  have k2 := k1.next b3
  have b4 := below_trans b2 b3
  clear k1 HS b2 b3
  have HM := Lib.hid (wmade_calls (sgI N) ad1 n1 d1 V w1 f1 hV)
  rw [HG.out] at HM
  generalize sgI N = s at *
  have hb0 : w.heap.size ≤ w.heap.size + 1 := Nat.le_succ _
  generalize w.heap.size + 1 = b at *
  go_wp2_with fail
  refine (HM.out).mono ?_
  rintro e w2 ⟨rfl, b5⟩
  have k3 := k2.next b5
  have c0 := k3.cell 0 _ rfl
  have c1 := k3.cell 1 _ rfl
  have g0 := k3.free 0
  have g1 := k3.free 1
  go_wp2
  refine bodyPost_ret (results_cell_row rfl _ _ b 34 #[.bool (decide (N < 0)), .slice ad1 n1 d1] (0, 0) _ rfl ((k3.set 0 _).set 1 _).row Tryz.underlying34 rfl size_int) rfl ?_
  refine ⟨_, _, _, rfl, ?_, below_set (below_set (below_trans b4 b5) _ _ _ hb0) _ _ _ hb0⟩
  rw [HA.out]
  exact (f1.below b5 (Nat.le_refl _)).poke2 k3 _ _

/-- As RetInt, sign and size by name. -/
def RetIntR (r : Bool) (A : Int) (w : World) (e : Ending) (w' : World) : Prop :=
  ∃ ad n c, e = .returned (.agg #[.bool r, .slice ad n c]) ∧ Can w' ad n c A ∧ Below w.heap.size w w'
theorem RetInt.named {N : Int} {r : Bool} {A : Int} (hr : decide (N < 0) = r) (hA : A = (N.natAbs : Int)) {w : World} {e : Ending} {w' : World} (h : RetInt N w e w') : RetIntR r A w e w' := by
  obtain ⟨ad, n, c, e1, h1, h2⟩ := h
  rw [hr] at e1
  rw [← hA] at h1
  exact ⟨ad, n, c, e1, h1, h2⟩
theorem sg_bd (N : Int) : -1 ≤ sgI N ∧ sgI N ≤ 1 := by unfold sgI; split <;> (try split) <;> omega
end Go.Proofs.YtoimhjcpeifegaaGreatDoor


/- RShl by worth alone. -/
namespace Go.Proofs.YtoimhjcpeifegaaGreatDoor
open Go.RowKit

end Go.Proofs.YtoimhjcpeifegaaGreatDoor


/- The document's way to the nearest pattern: halving, and what stands behind 200 digits. Plain facts. -/
namespace Go.Proofs.YtoimhjcpeifegaaGreatDoor

/-- Number: a size as m times 2 to the power of e. -/
def numM (F : Nat) (z : Nat) : Nat := if z < 2 ^ F then z else 2 ^ F + z % 2 ^ F
def numP (F : Nat) (z : Nat) : Nat := if z < 2 ^ F then 0 else z / 2 ^ F - 1
theorem numN_parts (F z : Nat) : numN F z = numM F z * 2 ^ numP F z := by
  unfold numN numM numP
  split
  · simp
  · rfl
theorem numP_le {W : Nat} (hW : Wide W) (z : Nat) (h : z ≤ infN W) : numP (shF W) z + 2 ≤ 2 ^ shE W := by
  have hP := Nat.two_pow_pos (shF W)
  have h2 : 4 ≤ 2 ^ shE W := by rcases hW with rfl | rfl | rfl <;> decide
  unfold numP
  split
  · omega
  · have : z / 2 ^ shF W ≤ 2 ^ shE W - 1 := by
      unfold infN at h
      exact Nat.le_of_lt_succ ((Nat.div_lt_iff_lt_mul hP).2 (by rw [Nat.succ_mul]; omega))
    omega

theorem numM_lt (F z : Nat) : numM F z < 2 ^ (F + 1) := by
  have hP := Nat.two_pow_pos F
  have := Nat.mod_lt z hP
  unfold numM
  rw [Nat.pow_succ]
  split <;> omega

end Go.Proofs.YtoimhjcpeifegaaGreatDoor


/- Printed by ieee.py. -/
namespace Go.Proofs.YtoimhjcpeifegaaGreatDoor
open Go.RowKit

theorem of_64 (w : World) (hS : Shapes w) : Calls Tryz.prog 57 #[] w (fun e w' => e = .returned (.agg #[.int .i64 52, .int .i64 (-1074), .int .i64 11]) ∧ Below w.heap.size w w') := by
  have b0 : Below w.heap.size w (w.alloc (.cells #[.int .i64 0, .int .i64 0, .int .i64 0] 95)) := (Below.refl _ _).alloc (Nat.le_refl _) _
  obtain ⟨c0, c1, c2, c3, c4, c5, c6, c7, c8⟩ := hS.below b0 (Nat.le_refl _)
  have x0 : bits BinOp.xor .u64 (if IntKind.u64.signed = true then -1 else IntKind.u64.max) 0 = 18446744073709551615 := by decide
  have x1 : bits BinOp.xor .u64 IntKind.u64.max 0 = 18446744073709551615 := by decide
  have x2 : IntKind.u64.wrap 18446744073709551615 = 18446744073709551615 := by decide
  clear b0
  go_enter Tryz.func57, Tryz.ntmps57
  go_wp2
  refine bodyPost_ret (results_cell_row rfl _ _ w.heap.size 95 #[.int .i64 52, .int .i64 (-1074), .int .i64 11] (0, 0) _ rfl (heap_alloc_new _ _) Tryz.underlying95 rfl size_shape) rfl ?_
  exact ⟨rfl, (Below.refl _ _).alloc (Nat.le_refl _) _⟩
end Go.Proofs.YtoimhjcpeifegaaGreatDoor


/- Printed by ieee.py. -/
namespace Go.Proofs.YtoimhjcpeifegaaGreatDoor
open Go.RowKit

theorem shsign_16 (w : World) : Calls Tryz.prog 120 #[.agg #[.int .i64 10, .int .i64 (-24), .int .i64 5]] w (fun e w' => e = .returned (.int .u64 32768) ∧ Below w.heap.size w w') := by
  have b0 : Below w.heap.size w (w.alloc (.cells #[.int .i64 10, .int .i64 (-24), .int .i64 5] 95)) := (Below.refl _ _).alloc (Nat.le_refl _) _
  go_enter Tryz.func120, Tryz.ntmps120
  go_wp2
  go_ret
  exact ⟨rfl, b0⟩

theorem shinf_16 (w : World) : Calls Tryz.prog 61 #[.agg #[.int .i64 10, .int .i64 (-24), .int .i64 5]] w (fun e w' => e = .returned (.int .u64 31744) ∧ Below w.heap.size w w') := by
  have b0 : Below w.heap.size w (w.alloc (.cells #[.int .i64 10, .int .i64 (-24), .int .i64 5] 95)) := (Below.refl _ _).alloc (Nat.le_refl _) _
  go_enter Tryz.func61, Tryz.ntmps61
  go_wp2_with fail
  have c0 : (w.alloc (.cells #[.int .i64 10, .int .i64 (-24), .int .i64 5] 95)).cell? ⟨w.heap.size, 0, none⟩ = some (.int .i64 10) := World.cell?_alloc_at _ _ _ _ rfl
  have c1 : (w.alloc (.cells #[.int .i64 10, .int .i64 (-24), .int .i64 5] 95)).cell? ⟨w.heap.size, 1, none⟩ = some (.int .i64 (-24)) := World.cell?_alloc_at _ _ _ _ rfl
  have c2 : (w.alloc (.cells #[.int .i64 10, .int .i64 (-24), .int .i64 5] 95)).cell? ⟨w.heap.size, 2, none⟩ = some (.int .i64 5) := World.cell?_alloc_at _ _ _ _ rfl
  generalize w.alloc (.cells #[.int .i64 10, .int .i64 (-24), .int .i64 5] 95) = w1 at *
  have bd : Below w1.heap.size w1 w1.drew := below_drew (Below.refl _ _)
  go_region_held3 (fun w' => w'.cell? ⟨w.heap.size, 0, none⟩ = some (.int .i64 10) ∧ w'.cell? ⟨w.heap.size, 1, none⟩ = some (.int .i64 (-24)) ∧ w'.cell? ⟨w.heap.size, 2, none⟩ = some (.int .i64 5) ∧ Below w1.heap.size w1 w') (go_keep)
    (first
      | (go_at_call 120
         refine (shsign_16 _).mono ?_
         rintro e w2 ⟨rfl, hb⟩
         have d0 := below_cell hb (Nat.le_refl _) c0
         have d1 := below_cell hb (Nat.le_refl _) c1
         have d2 := below_cell hb (Nat.le_refl _) c2
         have bb : Below w1.heap.size w1 w2 := below_then bd (Nat.le_refl _) hb))
  go_wp2
  go_ret
  exact ⟨by first | rfl | simp, below_trans b0 (by assumption)⟩

theorem shnan_16 (w : World) : Calls Tryz.prog 58 #[.agg #[.int .i64 10, .int .i64 (-24), .int .i64 5]] w (fun e w' => e = .returned (.int .u64 32256) ∧ Below w.heap.size w w') := by
  have b0 : Below w.heap.size w (w.alloc (.cells #[.int .i64 10, .int .i64 (-24), .int .i64 5] 95)) := (Below.refl _ _).alloc (Nat.le_refl _) _
  have hw : IntKind.i64.wrap 9 = 9 := by decide
  go_enter Tryz.func58, Tryz.ntmps58
  go_wp2_with fail
  have c0 : (w.alloc (.cells #[.int .i64 10, .int .i64 (-24), .int .i64 5] 95)).cell? ⟨w.heap.size, 0, none⟩ = some (.int .i64 10) := World.cell?_alloc_at _ _ _ _ rfl
  have c1 : (w.alloc (.cells #[.int .i64 10, .int .i64 (-24), .int .i64 5] 95)).cell? ⟨w.heap.size, 1, none⟩ = some (.int .i64 (-24)) := World.cell?_alloc_at _ _ _ _ rfl
  have c2 : (w.alloc (.cells #[.int .i64 10, .int .i64 (-24), .int .i64 5] 95)).cell? ⟨w.heap.size, 2, none⟩ = some (.int .i64 5) := World.cell?_alloc_at _ _ _ _ rfl
  generalize w.alloc (.cells #[.int .i64 10, .int .i64 (-24), .int .i64 5] 95) = w1 at *
  have bd : Below w1.heap.size w1 w1.drew := below_drew (Below.refl _ _)
  go_region_held3 (fun w' => w'.cell? ⟨w.heap.size, 0, none⟩ = some (.int .i64 10) ∧ w'.cell? ⟨w.heap.size, 1, none⟩ = some (.int .i64 (-24)) ∧ w'.cell? ⟨w.heap.size, 2, none⟩ = some (.int .i64 5) ∧ Below w1.heap.size w1 w') (go_keep)
    (first
      | (go_at_call 61
         refine (shinf_16 _).mono ?_
         rintro e w2 ⟨rfl, hb⟩
         have d0 := below_cell hb (Nat.le_refl _) c0
         have d1 := below_cell hb (Nat.le_refl _) c1
         have d2 := below_cell hb (Nat.le_refl _) c2
         have bb : Below w1.heap.size w1 w2 := below_then bd (Nat.le_refl _) hb))
  go_wp2
  go_ret
  exact ⟨by first | rfl | simp, below_trans b0 (by assumption)⟩

theorem shsign_32 (w : World) : Calls Tryz.prog 120 #[.agg #[.int .i64 23, .int .i64 (-149), .int .i64 8]] w (fun e w' => e = .returned (.int .u64 2147483648) ∧ Below w.heap.size w w') := by
  have b0 : Below w.heap.size w (w.alloc (.cells #[.int .i64 23, .int .i64 (-149), .int .i64 8] 95)) := (Below.refl _ _).alloc (Nat.le_refl _) _
  go_enter Tryz.func120, Tryz.ntmps120
  go_wp2
  go_ret
  exact ⟨rfl, b0⟩

theorem shinf_32 (w : World) : Calls Tryz.prog 61 #[.agg #[.int .i64 23, .int .i64 (-149), .int .i64 8]] w (fun e w' => e = .returned (.int .u64 2139095040) ∧ Below w.heap.size w w') := by
  have b0 : Below w.heap.size w (w.alloc (.cells #[.int .i64 23, .int .i64 (-149), .int .i64 8] 95)) := (Below.refl _ _).alloc (Nat.le_refl _) _
  go_enter Tryz.func61, Tryz.ntmps61
  go_wp2_with fail
  have c0 : (w.alloc (.cells #[.int .i64 23, .int .i64 (-149), .int .i64 8] 95)).cell? ⟨w.heap.size, 0, none⟩ = some (.int .i64 23) := World.cell?_alloc_at _ _ _ _ rfl
  have c1 : (w.alloc (.cells #[.int .i64 23, .int .i64 (-149), .int .i64 8] 95)).cell? ⟨w.heap.size, 1, none⟩ = some (.int .i64 (-149)) := World.cell?_alloc_at _ _ _ _ rfl
  have c2 : (w.alloc (.cells #[.int .i64 23, .int .i64 (-149), .int .i64 8] 95)).cell? ⟨w.heap.size, 2, none⟩ = some (.int .i64 8) := World.cell?_alloc_at _ _ _ _ rfl
  generalize w.alloc (.cells #[.int .i64 23, .int .i64 (-149), .int .i64 8] 95) = w1 at *
  have bd : Below w1.heap.size w1 w1.drew := below_drew (Below.refl _ _)
  go_region_held3 (fun w' => w'.cell? ⟨w.heap.size, 0, none⟩ = some (.int .i64 23) ∧ w'.cell? ⟨w.heap.size, 1, none⟩ = some (.int .i64 (-149)) ∧ w'.cell? ⟨w.heap.size, 2, none⟩ = some (.int .i64 8) ∧ Below w1.heap.size w1 w') (go_keep)
    (first
      | (go_at_call 120
         refine (shsign_32 _).mono ?_
         rintro e w2 ⟨rfl, hb⟩
         have d0 := below_cell hb (Nat.le_refl _) c0
         have d1 := below_cell hb (Nat.le_refl _) c1
         have d2 := below_cell hb (Nat.le_refl _) c2
         have bb : Below w1.heap.size w1 w2 := below_then bd (Nat.le_refl _) hb))
  go_wp2
  go_ret
  exact ⟨by first | rfl | simp, below_trans b0 (by assumption)⟩

theorem shnan_32 (w : World) : Calls Tryz.prog 58 #[.agg #[.int .i64 23, .int .i64 (-149), .int .i64 8]] w (fun e w' => e = .returned (.int .u64 2143289344) ∧ Below w.heap.size w w') := by
  have b0 : Below w.heap.size w (w.alloc (.cells #[.int .i64 23, .int .i64 (-149), .int .i64 8] 95)) := (Below.refl _ _).alloc (Nat.le_refl _) _
  have hw : IntKind.i64.wrap 22 = 22 := by decide
  go_enter Tryz.func58, Tryz.ntmps58
  go_wp2_with fail
  have c0 : (w.alloc (.cells #[.int .i64 23, .int .i64 (-149), .int .i64 8] 95)).cell? ⟨w.heap.size, 0, none⟩ = some (.int .i64 23) := World.cell?_alloc_at _ _ _ _ rfl
  have c1 : (w.alloc (.cells #[.int .i64 23, .int .i64 (-149), .int .i64 8] 95)).cell? ⟨w.heap.size, 1, none⟩ = some (.int .i64 (-149)) := World.cell?_alloc_at _ _ _ _ rfl
  have c2 : (w.alloc (.cells #[.int .i64 23, .int .i64 (-149), .int .i64 8] 95)).cell? ⟨w.heap.size, 2, none⟩ = some (.int .i64 8) := World.cell?_alloc_at _ _ _ _ rfl
  generalize w.alloc (.cells #[.int .i64 23, .int .i64 (-149), .int .i64 8] 95) = w1 at *
  have bd : Below w1.heap.size w1 w1.drew := below_drew (Below.refl _ _)
  go_region_held3 (fun w' => w'.cell? ⟨w.heap.size, 0, none⟩ = some (.int .i64 23) ∧ w'.cell? ⟨w.heap.size, 1, none⟩ = some (.int .i64 (-149)) ∧ w'.cell? ⟨w.heap.size, 2, none⟩ = some (.int .i64 8) ∧ Below w1.heap.size w1 w') (go_keep)
    (first
      | (go_at_call 61
         refine (shinf_32 _).mono ?_
         rintro e w2 ⟨rfl, hb⟩
         have d0 := below_cell hb (Nat.le_refl _) c0
         have d1 := below_cell hb (Nat.le_refl _) c1
         have d2 := below_cell hb (Nat.le_refl _) c2
         have bb : Below w1.heap.size w1 w2 := below_then bd (Nat.le_refl _) hb))
  go_wp2
  go_ret
  exact ⟨by first | rfl | simp, below_trans b0 (by assumption)⟩

theorem shsign_64 (w : World) : Calls Tryz.prog 120 #[.agg #[.int .i64 52, .int .i64 (-1074), .int .i64 11]] w (fun e w' => e = .returned (.int .u64 9223372036854775808) ∧ Below w.heap.size w w') := by
  have b0 : Below w.heap.size w (w.alloc (.cells #[.int .i64 52, .int .i64 (-1074), .int .i64 11] 95)) := (Below.refl _ _).alloc (Nat.le_refl _) _
  go_enter Tryz.func120, Tryz.ntmps120
  go_wp2
  go_ret
  exact ⟨rfl, b0⟩

theorem shinf_64 (w : World) : Calls Tryz.prog 61 #[.agg #[.int .i64 52, .int .i64 (-1074), .int .i64 11]] w (fun e w' => e = .returned (.int .u64 9218868437227405312) ∧ Below w.heap.size w w') := by
  have b0 : Below w.heap.size w (w.alloc (.cells #[.int .i64 52, .int .i64 (-1074), .int .i64 11] 95)) := (Below.refl _ _).alloc (Nat.le_refl _) _
  go_enter Tryz.func61, Tryz.ntmps61
  go_wp2_with fail
  have c0 : (w.alloc (.cells #[.int .i64 52, .int .i64 (-1074), .int .i64 11] 95)).cell? ⟨w.heap.size, 0, none⟩ = some (.int .i64 52) := World.cell?_alloc_at _ _ _ _ rfl
  have c1 : (w.alloc (.cells #[.int .i64 52, .int .i64 (-1074), .int .i64 11] 95)).cell? ⟨w.heap.size, 1, none⟩ = some (.int .i64 (-1074)) := World.cell?_alloc_at _ _ _ _ rfl
  have c2 : (w.alloc (.cells #[.int .i64 52, .int .i64 (-1074), .int .i64 11] 95)).cell? ⟨w.heap.size, 2, none⟩ = some (.int .i64 11) := World.cell?_alloc_at _ _ _ _ rfl
  generalize w.alloc (.cells #[.int .i64 52, .int .i64 (-1074), .int .i64 11] 95) = w1 at *
  have bd : Below w1.heap.size w1 w1.drew := below_drew (Below.refl _ _)
  go_region_held3 (fun w' => w'.cell? ⟨w.heap.size, 0, none⟩ = some (.int .i64 52) ∧ w'.cell? ⟨w.heap.size, 1, none⟩ = some (.int .i64 (-1074)) ∧ w'.cell? ⟨w.heap.size, 2, none⟩ = some (.int .i64 11) ∧ Below w1.heap.size w1 w') (go_keep)
    (first
      | (go_at_call 120
         refine (shsign_64 _).mono ?_
         rintro e w2 ⟨rfl, hb⟩
         have d0 := below_cell hb (Nat.le_refl _) c0
         have d1 := below_cell hb (Nat.le_refl _) c1
         have d2 := below_cell hb (Nat.le_refl _) c2
         have bb : Below w1.heap.size w1 w2 := below_then bd (Nat.le_refl _) hb))
  go_wp2
  go_ret
  exact ⟨by first | rfl | simp, below_trans b0 (by assumption)⟩

theorem shnan_64 (w : World) : Calls Tryz.prog 58 #[.agg #[.int .i64 52, .int .i64 (-1074), .int .i64 11]] w (fun e w' => e = .returned (.int .u64 9221120237041090560) ∧ Below w.heap.size w w') := by
  have b0 : Below w.heap.size w (w.alloc (.cells #[.int .i64 52, .int .i64 (-1074), .int .i64 11] 95)) := (Below.refl _ _).alloc (Nat.le_refl _) _
  have hw : IntKind.i64.wrap 51 = 51 := by decide
  go_enter Tryz.func58, Tryz.ntmps58
  go_wp2_with fail
  have c0 : (w.alloc (.cells #[.int .i64 52, .int .i64 (-1074), .int .i64 11] 95)).cell? ⟨w.heap.size, 0, none⟩ = some (.int .i64 52) := World.cell?_alloc_at _ _ _ _ rfl
  have c1 : (w.alloc (.cells #[.int .i64 52, .int .i64 (-1074), .int .i64 11] 95)).cell? ⟨w.heap.size, 1, none⟩ = some (.int .i64 (-1074)) := World.cell?_alloc_at _ _ _ _ rfl
  have c2 : (w.alloc (.cells #[.int .i64 52, .int .i64 (-1074), .int .i64 11] 95)).cell? ⟨w.heap.size, 2, none⟩ = some (.int .i64 11) := World.cell?_alloc_at _ _ _ _ rfl
  generalize w.alloc (.cells #[.int .i64 52, .int .i64 (-1074), .int .i64 11] 95) = w1 at *
  have bd : Below w1.heap.size w1 w1.drew := below_drew (Below.refl _ _)
  go_region_held3 (fun w' => w'.cell? ⟨w.heap.size, 0, none⟩ = some (.int .i64 52) ∧ w'.cell? ⟨w.heap.size, 1, none⟩ = some (.int .i64 (-1074)) ∧ w'.cell? ⟨w.heap.size, 2, none⟩ = some (.int .i64 11) ∧ Below w1.heap.size w1 w') (go_keep)
    (first
      | (go_at_call 61
         refine (shinf_64 _).mono ?_
         rintro e w2 ⟨rfl, hb⟩
         have d0 := below_cell hb (Nat.le_refl _) c0
         have d1 := below_cell hb (Nat.le_refl _) c1
         have d2 := below_cell hb (Nat.le_refl _) c2
         have bb : Below w1.heap.size w1 w2 := below_then bd (Nat.le_refl _) hb))
  go_wp2
  go_ret
  exact ⟨by first | rfl | simp, below_trans b0 (by assumption)⟩
end Go.Proofs.YtoimhjcpeifegaaGreatDoor


/- The program's way to the nearest pattern: plain facts over whole numbers. -/
namespace Go.Proofs.YtoimhjcpeifegaaGreatDoor

theorem bitsOf_ge {M : Int} (hM : 0 < M) : 0 < bitsOf M ∧ 2 ^ (bitsOf M - 1).toNat ≤ M.toNat ∧ M.toNat < 2 ^ (bitsOf M).toNat := by
  have h0 : M.toNat ≠ 0 := by omega
  have h1 := blen_ge M.toNat h0
  have h2 := blen_lt M.toNat
  have h3 := blen_pos M.toNat h0
  unfold bitsOf
  refine ⟨by omega, ?_, ?_⟩
  · rw [show ((blen M.toNat : Int) - 1).toNat = blen M.toNat - 1 by omega]; exact h1
  · rw [Int.toNat_natCast]; exact h2

theorem prog_inf {W : Nat} (hW : Wide W) (M p last : Int) (hM : 0 < M) (h1 : last = bitsOf M - shF W - 1 + p) (h2 : 2 ^ shE W - 2 ≤ last - shL W) : nearE W M.toNat p = infN W := by
  obtain ⟨b0, b1, b2⟩ := bitsOf_ge hM
  refine nearE_inf hW _ _ p b1 ?_
  have h3 : (topP W : Int) = shF W + 2 ^ shE W - 2 := by rcases hW with rfl | rfl | rfl <;> decide
  omega

theorem prog_zero {W : Nat} (hW : Wide W) (V p : Int) (more : Bool) (hV : 0 ≤ V) (h : p < -3000 - bitsOf V) : nearE W (rM V more) (rE p more) = 0 := by
  have h1 := blen_lt V.toNat
  have h2 : rM V more < 2 ^ (blen V.toNat + 1) := by
    unfold rM
    rw [Nat.pow_succ]
    split <;> omega
  refine nearE_small hW _ _ _ h2 ?_
  have h3 : rE p more ≤ p := by unfold rE; split <;> omega
  have h4 : -1074 ≤ shL W := by rcases hW with rfl | rfl | rfl <;> decide
  unfold bitsOf at h
  omega

theorem prog_big {W : Nat} (hW : Wide W) (V p : Int) (more : Bool) (hV : 0 ≤ V) (h : ¬ (V = 0 ∧ more = false)) (hp : 2000 < p) : nearE W (rM V more) (rE p more) = infN W := by
  refine nearE_inf hW _ 0 _ ?_ ?_
  · rw [Nat.pow_zero]
    unfold rM
    cases more
    · have : V ≠ 0 := fun e => h ⟨e, rfl⟩
      simp
      omega
    · simp
  · have h1 : 2000 ≤ rE p more := by unfold rE; split <;> omega
    have h2 : (topP W : Int) + shL W ≤ 1100 := by rcases hW with rfl | rfl | rfl <;> decide
    omega

theorem bitsOf_double (V : Int) (hV : 0 ≤ V) : bitsOf (V + V + 1) = bitsOf V + 1 := by
  unfold bitsOf
  rw [blen_half (V + V + 1).toNat (by omega), show (V + V + 1).toNat / 2 = V.toNat by omega]
  omega

theorem pow_cast (k : Nat) : ((2 ^ k : Nat) : Int) = 2 ^ k := by simp

theorem prog_exact {W : Nat} (hW : Wide W) (M p N last d : Int) (hM : 0 < M) (hN : N = bitsOf M) (hl : N - shF W - 1 + p ≤ last) (h2 : d = last - shL W) (h0 : 0 ≤ d) (h3 : d < 2 ^ shE W - 2) (hor : d = 0 ∨ last = N - shF W - 1 + p) (hlp : last ≤ p) :
    (nearE W M.toNat p : Int) = d * 2 ^ shF W + M * 2 ^ (p - last).toNat ∧ M < 2 ^ (shF W + 1) ∧ M * 2 ^ (p - last).toNat < 2 ^ (shF W + 1) ∧ (d = 0 ∨ 2 ^ shF W ≤ M * 2 ^ (p - last).toNat) := by
  obtain ⟨b0, b1, b2⟩ := bitsOf_ge hM
  rw [← hN] at b0 b1 b2
  obtain ⟨m, rfl⟩ := Int.eq_ofNat_of_zero_le (Int.le_of_lt hM)
  obtain ⟨d, rfl⟩ := Int.eq_ofNat_of_zero_le h0
  rw [Int.toNat_natCast] at *
  obtain ⟨t, ht⟩ : ∃ t : Nat, p - last = t := ⟨(p - last).toNat, by omega⟩
  rw [ht, Int.toNat_natCast]
  have k1 : m * 2 ^ t < 2 ^ (shF W + 1) := by
    have h5 : 2 ^ N.toNat * 2 ^ t ≤ 2 ^ (shF W + 1) := by
      rw [← Nat.pow_add]
      exact Nat.pow_le_pow_right (by omega) (by omega)
    exact Nat.lt_of_lt_of_le (Nat.mul_lt_mul_of_pos_right b2 (Nat.two_pow_pos t)) h5
  have k2 : d = 0 ∨ 2 ^ shF W ≤ m * 2 ^ t := by
    rcases hor with h | h
    · left; omega
    · right
      refine Nat.le_trans ?_ (Nat.mul_le_mul_right _ b1)
      rw [← Nat.pow_add]
      exact Nat.pow_le_pow_right (by omega) (by omega)
  have k3 : d + 2 < 2 ^ shE W := by
    have : ((2 ^ shE W : Nat) : Int) = 2 ^ shE W := pow_cast _
    omega
  have k4 := nearE_exact hW m d t p (by omega) k2 k1 k3
  have k5 : m < 2 ^ (shF W + 1) := by
    have : m * 1 ≤ m * 2 ^ t := Nat.mul_le_mul_left m (Nat.one_le_two_pow)
    omega
  have c1 : ((m * 2 ^ t : Nat) : Int) = (m : Int) * 2 ^ t := by simp
  have c2 := pow_cast (shF W + 1)
  have c3 := pow_cast (shF W)
  refine ⟨by rw [k4]; simp, by omega, by omega, ?_⟩
  rcases k2 with h | h
  · left; omega
  · right; omega

theorem prog_cut {W : Nat} (hW : Wide W) (M p N last d q : Int) (hM : 0 < M) (hN : N = bitsOf M) (hl : N - shF W - 1 + p ≤ last) (h2 : d = last - shL W) (h0 : 0 ≤ d) (h3 : d < 2 ^ shE W - 2) (hor : d = 0 ∨ last = N - shF W - 1 + p) (hlp : p < last)
    (hq : q = M / 2 ^ (last - p - 1).toNat) (rest : Bool) (hr : rest = decide (M % 2 ^ (last - p - 1).toNat ≠ 0)) :
    (nearE W M.toNat p : Int) = d * 2 ^ shF W + (if q % 2 = 1 ∧ (rest = true ∨ q / 2 % 2 = 1) then q / 2 + 1 else q / 2) ∧ 0 ≤ q ∧ q < 2 ^ (shF W + 2) ∧ (d = 0 ∨ 2 ^ shF W ≤ q / 2) := by
  obtain ⟨b0, b1, b2⟩ := bitsOf_ge hM
  rw [← hN] at b0 b1 b2
  obtain ⟨m, rfl⟩ := Int.eq_ofNat_of_zero_le (Int.le_of_lt hM)
  obtain ⟨d, rfl⟩ := Int.eq_ofNat_of_zero_le h0
  rw [Int.toNat_natCast] at *
  obtain ⟨s, hs⟩ : ∃ s : Nat, last - p - 1 = s := ⟨(last - p - 1).toNat, by omega⟩
  rw [hs, Int.toNat_natCast] at hq hr
  have hq2 : q = ((m / 2 ^ s : Nat) : Int) := by rw [hq]; simp
  subst hq2
  clear hq
  have k1 : m / 2 ^ (s + 1) < 2 ^ (shF W + 1) := by
    rw [Nat.div_lt_iff_lt_mul (Nat.two_pow_pos _), ← Nat.pow_add]
    exact Nat.lt_of_lt_of_le b2 (Nat.pow_le_pow_right (by omega) (by omega))
  have k2 : d = 0 ∨ 2 ^ shF W ≤ m / 2 ^ (s + 1) := by
    rcases hor with h | h
    · left; omega
    · right
      rw [Nat.le_div_iff_mul_le (Nat.two_pow_pos _), ← Nat.pow_add]
      exact Nat.le_trans (Nat.pow_le_pow_right (by omega) (by omega)) b1
  have k3 : d + 2 < 2 ^ shE W := by
    have : ((2 ^ shE W : Nat) : Int) = 2 ^ shE W := pow_cast _
    omega
  have k4 := nearE_cut hW m d (s + 1) p (by omega) k2 k1 k3
  rw [rounded_prog m s _ rfl] at k4
  have e2 : m / 2 ^ (s + 1) = m / 2 ^ s / 2 := by rw [Nat.pow_succ, ← Nat.div_div_eq_div_mul]
  rw [e2] at k1 k2
  have c2 := pow_cast (shF W + 1)
  have c3 := pow_cast (shF W)
  have c4 : ((m : Int) % 2 ^ s) = ((m % 2 ^ s : Nat) : Int) := by simp
  rw [c4] at hr
  have hr2 : rest = true ↔ m % 2 ^ s ≠ 0 := by rw [hr]; simp only [decide_eq_true_eq]; omega
  generalize m / 2 ^ s = q at *
  refine ⟨?_, by omega, ?_, ?_⟩
  · rw [k4, ← pow_cast]
    have i1 : ((q : Int) % 2 = 1 ∧ (rest = true ∨ (q : Int) / 2 % 2 = 1)) ↔ (q % 2 = 1 ∧ (m % 2 ^ s ≠ 0 ∨ q / 2 % 2 = 1)) := by rw [hr2]; omega
    simp only [i1]
    rw [Int.natCast_add, Int.natCast_mul]
    split <;> simp
  · rw [Int.pow_succ]
    omega
  · rcases k2 with h | h
    · left; omega
    · right; omega
end Go.Proofs.YtoimhjcpeifegaaGreatDoor


/- Printed by ieee.py. -/
namespace Go.Proofs.YtoimhjcpeifegaaGreatDoor
open Go.RowKit

theorem of_16 (w : World) (hS : Shapes w) : Calls Tryz.prog 92 #[] w (fun e w' => e = .returned (.agg #[.int .i64 10, .int .i64 (-24), .int .i64 5]) ∧ Below w.heap.size w w') := by
  have b0 : Below w.heap.size w (w.alloc (.cells #[.int .i64 0, .int .i64 0, .int .i64 0] 95)) := (Below.refl _ _).alloc (Nat.le_refl _) _
  obtain ⟨c0, c1, c2, c3, c4, c5, c6, c7, c8⟩ := hS.below b0 (Nat.le_refl _)
  have x0 : bits BinOp.xor .u16 (if IntKind.u16.signed = true then -1 else IntKind.u16.max) 0 = 65535 := by decide
  have x1 : bits BinOp.xor .u16 IntKind.u16.max 0 = 65535 := by decide
  have x2 : IntKind.u64.wrap 65535 = 65535 := by decide
  clear b0
  go_enter Tryz.func92, Tryz.ntmps92
  go_wp2
  refine bodyPost_ret (results_cell_row rfl _ _ w.heap.size 95 #[.int .i64 10, .int .i64 (-24), .int .i64 5] (0, 0) _ rfl (heap_alloc_new _ _) Tryz.underlying95 rfl size_shape) rfl ?_
  exact ⟨rfl, (Below.refl _ _).alloc (Nat.le_refl _) _⟩
end Go.Proofs.YtoimhjcpeifegaaGreatDoor


/- Printed by ieee.py. -/
namespace Go.Proofs.YtoimhjcpeifegaaGreatDoor
open Go.RowKit

theorem of_32 (w : World) (hS : Shapes w) : Calls Tryz.prog 96 #[] w (fun e w' => e = .returned (.agg #[.int .i64 23, .int .i64 (-149), .int .i64 8]) ∧ Below w.heap.size w w') := by
  have b0 : Below w.heap.size w (w.alloc (.cells #[.int .i64 0, .int .i64 0, .int .i64 0] 95)) := (Below.refl _ _).alloc (Nat.le_refl _) _
  obtain ⟨c0, c1, c2, c3, c4, c5, c6, c7, c8⟩ := hS.below b0 (Nat.le_refl _)
  have x0 : bits BinOp.xor .u32 (if IntKind.u32.signed = true then -1 else IntKind.u32.max) 0 = 4294967295 := by decide
  have x1 : bits BinOp.xor .u32 IntKind.u32.max 0 = 4294967295 := by decide
  have x2 : IntKind.u64.wrap 4294967295 = 4294967295 := by decide
  clear b0
  go_enter Tryz.func96, Tryz.ntmps96
  go_wp2
  refine bodyPost_ret (results_cell_row rfl _ _ w.heap.size 95 #[.int .i64 23, .int .i64 (-149), .int .i64 8] (0, 0) _ rfl (heap_alloc_new _ _) Tryz.underlying95 rfl size_shape) rfl ?_
  exact ⟨rfl, (Below.refl _ _).alloc (Nat.le_refl _) _⟩
end Go.Proofs.YtoimhjcpeifegaaGreatDoor


/- The order of patterns by ranks: plain. -/
namespace Go.Proofs.YtoimhjcpeifegaaGreatDoor

end Go.Proofs.YtoimhjcpeifegaaGreatDoor


/- The table of shapes out of a row's list. -/
namespace Go.Proofs.YtoimhjcpeifegaaGreatDoor
open Go.RowKit

theorem trod_int {H : Type} {enc : TypeId × Value → H} {P : Program} {w : World} {base : Nat} {sp : Nat → Bool} {held : Bool} {fuel : Nat} {t : TypeId} {k : IntKind} {c : Value} {v : Int} {p : List MemPlace}
    (ht : P.underlying t = some (.int k)) (h : DataW.trod enc P w base sp held fuel t [c] = some (.lit (.int k v), p)) : c = .int k v := by
  cases fuel with
  | zero => simp [DataW.trod] at h
  | succ fuel =>
    simp only [DataW.trod, ht] at h
    split at h <;> simp_all

theorem trod_struct3 {H : Type} {enc : TypeId × Value → H} {P : Program} {w : World} {base : Nat} {sp : Nat → Bool} {held : Bool} {fuel : Nat} {t i : TypeId} {fs : Array Field} {k : IntKind} {cs : List Value} {a b c : Int} {p : List MemPlace}
    (ht : P.underlying t = some (.struct fs)) (hf : fs.toList.map (fun f => (f.type, f.offset)) = [(i, 0), (i, 1), (i, 2)]) (hi : P.underlying i = some (.int k)) (hc : P.cellsOf i = 1) (hct : P.cellsOf t = 3)
    (h : DataW.trod enc P w base sp held fuel t cs = some (.agg [.lit (.int k a), .lit (.int k b), .lit (.int k c)], p)) : cs = [.int k a, .int k b, .int k c] := by
  cases fuel with
  | zero => simp [DataW.trod] at h
  | succ fuel =>
    simp only [DataW.trod, ht, hct] at h
    split at h
    · rename_i hl
      rcases cs with _ | ⟨x, _ | ⟨y, _ | ⟨z, _ | ⟨u, cs⟩⟩⟩⟩ <;> simp at hl
      obtain ⟨f0, f1, f2, hfs⟩ : ∃ f0 f1 f2, fs.toList = [f0, f1, f2] := by
        have hl := congrArg List.length hf
        simp only [List.length_map, List.length_cons, List.length_nil] at hl
        rcases hh : fs.toList with _ | ⟨f0, _ | ⟨f1, _ | ⟨f2, _ | ⟨f3, r⟩⟩⟩⟩ <;> rw [hh] at hl <;> simp at hl
        exact ⟨f0, f1, f2, rfl⟩
      rw [hfs] at h hf
      simp only [List.map_cons, List.map_nil, List.cons.injEq, Prod.mk.injEq, and_true] at hf
      obtain ⟨⟨t0, o0⟩, ⟨t1, o1⟩, ⟨t2, o2⟩⟩ := hf
      simp only [List.mapM_cons, List.mapM_nil, t0, t1, t2, o0, o1, o2, hc] at h
      simp only [List.drop_zero, List.drop_succ_cons, List.take_succ_cons, List.take_zero, Option.bind_eq_bind, Option.pure_def, Option.map_eq_some_iff, Option.bind_eq_some_iff, Option.some.injEq] at h
      obtain ⟨xs, ⟨d0, e0, r0, ⟨d1, e1, r1, ⟨d2, e2, r2, rfl, rfl⟩, rfl⟩, rfl⟩, hx⟩ := h
      simp only [List.map_cons, List.map_nil, Prod.mk.injEq, DataW.agg.injEq, List.cons.injEq, and_true] at hx
      obtain ⟨⟨q0, q1, q2⟩, -⟩ := hx
      obtain ⟨d0, p0⟩ := d0
      obtain ⟨d1, p1⟩ := d1
      obtain ⟨d2, p2⟩ := d2
      simp only at q0 q1 q2
      subst q0 q1 q2
      rw [trod_int hi e0, trod_int hi e1, trod_int hi e2]
    · cases h
theorem trod_array3 {H : Type} {enc : TypeId × Value → H} {P : Program} {w : World} {base : Nat} {sp : Nat → Bool} {held : Bool} {fuel : Nat} {t e : TypeId} {cs : List Value} {d0 d1 d2 : DataW H} {p : List MemPlace}
    (ht : P.underlying t = some (.array 3 e)) (hc : P.cellsOf e = 3) (hct : P.cellsOf t = 9)
    (h : DataW.trod enc P w base sp held fuel t cs = some (.agg [d0, d1, d2], p)) :
    ∃ fuel c0 c1 c2 p0 p1 p2, cs = c0 ++ (c1 ++ c2) ∧ DataW.trod enc P w base sp held fuel e c0 = some (d0, p0) ∧ DataW.trod enc P w base sp held fuel e c1 = some (d1, p1) ∧ DataW.trod enc P w base sp held fuel e c2 = some (d2, p2) := by
  cases fuel with
  | zero => simp [DataW.trod] at h
  | succ fuel =>
    simp only [DataW.trod, ht, hct] at h
    split at h
    · rename_i hl
      simp only [show List.range 3 = [0, 1, 2] from rfl, List.mapM_cons, List.mapM_nil, hc] at h
      simp only [Option.bind_eq_bind, Option.pure_def, Option.map_eq_some_iff, Option.bind_eq_some_iff, Option.some.injEq] at h
      obtain ⟨xs, ⟨x0, e0, r0, ⟨x1, e1, r1, ⟨x2, e2, r2, rfl, rfl⟩, rfl⟩, rfl⟩, hx⟩ := h
      simp only [List.map_cons, List.map_nil, Prod.mk.injEq, DataW.agg.injEq, List.cons.injEq, and_true] at hx
      obtain ⟨⟨q0, q1, q2⟩, -⟩ := hx
      obtain ⟨x0, p0⟩ := x0
      obtain ⟨x1, p1⟩ := x1
      obtain ⟨x2, p2⟩ := x2
      simp only at q0 q1 q2
      subst q0 q1 q2
      refine ⟨fuel, _, _, _, _, _, _, ?_, e0, e1, e2⟩
      rcases cs with _ | ⟨a0, _ | ⟨a1, _ | ⟨a2, _ | ⟨a3, _ | ⟨a4, _ | ⟨a5, _ | ⟨a6, _ | ⟨a7, _ | ⟨a8, _ | ⟨a9, cs⟩⟩⟩⟩⟩⟩⟩⟩⟩⟩ <;> simp at hl
      rfl
    · cases h

theorem gShapes : Tryz.prog.globalNamed "crucible/ieee.shapes" = some 2 := by kernel_rfl
theorem gShapesType : (Tryz.prog.globals[2]?).map (·.type) = some 159 := by kernel_rfl
theorem cellsShapes : Tryz.prog.cellsOf 159 = 9 := by kernel_rfl
theorem cellsShape : Tryz.prog.cellsOf 95 = 3 := by kernel_rfl
theorem cellsInt : Tryz.prog.cellsOf 3 = 1 := by kernel_rfl

theorem shapes_of_laid {W : World} {r : List (String × DataW Unit)} {q : List MemPlace} (h : DataW.LaidVars Tryz.prog W (("crucible/ieee.shapes", Rows.laid_crucible_ieee_shapes) :: r) q) : Shapes W := by
  obtain ⟨g, t, cs, fuel, p, q1, hg, ht, hcs, htr, -, -⟩ := h
  rw [gShapes] at hg
  injection hg with hg
  subst hg
  rw [gShapesType] at ht
  injection ht with ht
  subst ht
  obtain ⟨f, c0, c1, c2, p0, p1, p2, hc, e0, e1, e2⟩ := trod_array3 Tryz.underlying159 cellsShape cellsShapes htr
  have k0 := trod_struct3 Tryz.underlying95 rfl Tryz.underlying3 cellsInt cellsShape e0
  have k1 := trod_struct3 Tryz.underlying95 rfl Tryz.underlying3 cellsInt cellsShape e1
  have k2 := trod_struct3 Tryz.underlying95 rfl Tryz.underlying3 cellsInt cellsShape e2
  rw [k0, k1, k2] at hc
  have hcs2 : cs = #[.int .i64 10, .int .i64 (-24), .int .i64 5, .int .i64 23, .int .i64 (-149), .int .i64 8, .int .i64 52, .int .i64 (-1074), .int .i64 11] := by
    apply Array.toList_inj.1
    rw [hc]
    rfl
  subst hcs2
  have c := World.var?_cell gShapes hcs
  exact ⟨by rw [c]; rfl, by rw [c]; rfl, by rw [c]; rfl, by rw [c]; rfl, by rw [c]; rfl, by rw [c]; rfl, by rw [c]; rfl, by rw [c]; rfl, by rw [c]; rfl⟩
end Go.Proofs.YtoimhjcpeifegaaGreatDoor


/- whole: From. (Printed by whole.py.) -/
namespace Go.Proofs.YtoimhjcpeifegaaGreatDoor
open Go.RowKit

end Go.Proofs.YtoimhjcpeifegaaGreatDoor


/- whole: Neg. (Printed by whole.py.) -/
namespace Go.Proofs.YtoimhjcpeifegaaGreatDoor
open Go.RowKit

end Go.Proofs.YtoimhjcpeifegaaGreatDoor


/- whole: Sum. (Printed by whole.py.) -/
namespace Go.Proofs.YtoimhjcpeifegaaGreatDoor
open Go.RowKit

end Go.Proofs.YtoimhjcpeifegaaGreatDoor


/- crucibleref03: Norm. (Printed by ref03.py.) -/
namespace Go.Proofs.YtoimhjcpeifegaaGreatDoor
open Go.RowKit

end Go.Proofs.YtoimhjcpeifegaaGreatDoor


/- math/bits.TrailingZeros64, and a number's odd part. -/
namespace Go.Proofs.YtoimhjcpeifegaaGreatDoor
open Go.RowKit

/-- The table of places as its initialiser lays it. -/
def Tab (w : World) : Prop := ∀ j, j < 64 → w.cell? ⟨4, j, none⟩ = some (.int .u8 ((Lib.deBruijn64tab.getD j 0 : Nat) : Int))
theorem Tab.below {w w1 : World} (h : Tab w) {B : Nat} (hb : Below B w w1) (hB : w.heap.size ≤ B) : Tab w1 := fun j hj => below_cell hb hB (h j hj)

/-- How many noughts a number ends in; what stands before them. -/
def tzI (x : Int) : Int := (Lib.ctz 64 x.toNat : Nat)
def oddI (x : Int) : Int := x / 2 ^ Lib.ctz 64 x.toNat

theorem tz_key (x a : Nat) (hx : x < 2 ^ 64) (hx0 : x ≠ 0) (hlow : x &&& (2 ^ 64 - x) = a) :
    IntKind.u64.wrap (bits BinOp.and IntKind.u64 (x : Int) (IntKind.u64.wrap (-(x : Int))) * 285870213051353865) / 288230376151711744 = ((a * 285870213051353865 % 18446744073709551616 / 288230376151711744 : Nat) : Int) := by
  rw [show (2 : Nat) ^ 64 = 18446744073709551616 from by decide] at hx hlow
  have e1 : IntKind.u64.wrap (-(x : Int)) = ((18446744073709551616 - x : Nat) : Int) := by rw [IntKind.wrap_u64]; omega
  rw [e1, Go.bits_and_u64_nat x _ hx (by omega), hlow, IntKind.wrap_u64]
  omega

theorem tz_core (x : Int) (k idx : Nat) (w : World) (hx0 : (x == 0) = false)
    (key : IntKind.u64.wrap (bits BinOp.and IntKind.u64 x (IntKind.u64.wrap (-x)) * 285870213051353865) / 288230376151711744 = (idx : Int))
    (hi : idx < 64) (hk : k < 64) (hcell : w.cell? ⟨4, idx, none⟩ = some (.int .u8 k)) :
    Calls Tryz.prog 119 #[.int .u64 x] w fun e w' => e = .returned (.int .i64 k) ∧ w = w' := by
  go_enter Tryz.func119, Tryz.ntmps119
  go_wp2_with (simp only [key])
  go_ret
  exact ⟨rfl, rfl⟩

theorem tz_calls (x : Int) (hx : 0 < x ∧ x < 18446744073709551616) (w : World) (hT : Tab w) :
    Calls Tryz.prog 119 #[.int .u64 x] w fun e w' => e = .returned (.int .i64 (tzI x)) ∧ w = w' := by
  obtain ⟨x, rfl⟩ := Int.eq_ofNat_of_zero_le (Int.le_of_lt hx.1)
  have hx1 : x < 2 ^ 64 := by rw [show (2 : Nat) ^ 64 = 18446744073709551616 from by decide]; omega
  obtain ⟨hlow, hk⟩ := Lib.lowest_bit 64 x (by omega) hx1
  obtain ⟨hi, htab⟩ := Lib.deBruijn64_at _ hk
  have hcell := hT _ hi
  rw [htab] at hcell
  have hc0 : ((x : Int) == 0) = false := by simp; omega
  exact tz_core x _ _ w hc0 (tz_key x _ hx1 (by omega) hlow) hi hk hcell

theorem two_split {a b c d : Nat} (h : 2 ^ a * (2 * b + 1) = 2 ^ c * (2 * d + 1)) : a = c ∧ b = d := by
  have aux : ∀ a b c d : Nat, a < c → 2 ^ a * (2 * b + 1) ≠ 2 ^ c * (2 * d + 1) := by
    intro a b c d hac h
    obtain ⟨k, rfl⟩ : ∃ k, c = a + (k + 1) := ⟨c - a - 1, by omega⟩
    rw [Nat.pow_add, Nat.mul_assoc] at h
    have h2 := Nat.eq_of_mul_eq_mul_left (Nat.two_pow_pos a) h
    rw [Nat.pow_succ, Nat.mul_comm (2 ^ k) 2, Nat.mul_assoc] at h2
    omega
  have hac : a = c := by
    rcases Nat.lt_trichotomy a c with h1 | h1 | h1
    · exact absurd h (aux a b c d h1)
    · exact h1
    · exact absurd h.symm (aux c d a b h1)
  subst hac
  have := Nat.eq_of_mul_eq_mul_left (Nat.two_pow_pos a) h
  omega

/-- An odd number and a power of 2: the odd part and the place. -/
theorem odd_of (x m : Int) (k : Nat) (hx : 0 < x) (hx1 : x < 18446744073709551616) (h : x = m * 2 ^ k) (hm : m % 2 = 1) : oddI x = m ∧ tzI x = k := by
  obtain ⟨n, rfl⟩ := Int.eq_ofNat_of_zero_le (Int.le_of_lt hx)
  have hp : (0 : Int) < 2 ^ k := Int.pow_pos (by omega)
  have hm0 : 0 ≤ m := by
    rcases Int.lt_or_le m 0 with h0 | h0
    · have := Int.mul_neg_of_neg_of_pos h0 hp
      omega
    · exact h0
  obtain ⟨m, rfl⟩ := Int.eq_ofNat_of_zero_le hm0
  have h2 : n = m * 2 ^ k := by
    have : (n : Int) = ((m * 2 ^ k : Nat) : Int) := by rw [h]; simp
    omega
  have hn64 : n < 2 ^ 64 := by rw [show (2 : Nat) ^ 64 = 18446744073709551616 from by decide]; omega
  obtain ⟨j, hj, -⟩ := Lib.ctzFrom_spec 64 n (by omega) hn64
  have hc : Lib.ctz 64 n = Lib.ctzFrom 64 n := by unfold Lib.ctz; rw [if_neg (by omega)]
  rw [← hc] at hj
  have hmo : m = 2 * (m / 2) + 1 := by omega
  have h3 : 2 ^ Lib.ctz 64 n * (2 * j + 1) = 2 ^ k * (2 * (m / 2) + 1) := by rw [← hj, h2, ← hmo, Nat.mul_comm]
  obtain ⟨e1, e2⟩ := two_split h3
  unfold oddI tzI
  rw [Int.toNat_natCast, e1]
  refine ⟨?_, rfl⟩
  rw [h]
  exact Int.mul_ediv_cancel _ (by omega)

theorem odd_spec (x : Int) (hx : 0 < x) (hx1 : x < 18446744073709551616) : x = oddI x * 2 ^ (tzI x).toNat ∧ oddI x % 2 = 1 ∧ 0 < oddI x ∧ oddI x ≤ x ∧ 0 ≤ tzI x ∧ tzI x < 64 := by
  obtain ⟨n, rfl⟩ := Int.eq_ofNat_of_zero_le (Int.le_of_lt hx)
  have hn64 : n < 2 ^ 64 := by rw [show (2 : Nat) ^ 64 = 18446744073709551616 from by decide]; omega
  obtain ⟨j, hj, hlt⟩ := Lib.ctzFrom_spec 64 n (by omega) hn64
  have hc : Lib.ctz 64 n = Lib.ctzFrom 64 n := by unfold Lib.ctz; rw [if_neg (by omega)]
  rw [← hc] at hj hlt
  have e : oddI (n : Int) = (2 * j + 1 : Nat) ∧ tzI (n : Int) = (Lib.ctz 64 n : Nat) := by
    refine odd_of _ _ _ hx hx1 ?_ (by omega)
    have : ((n : Nat) : Int) = ((2 ^ Lib.ctz 64 n * (2 * j + 1) : Nat) : Int) := by rw [← hj]
    rw [this, Nat.mul_comm]
    simp
  have hp := Nat.two_pow_pos (Lib.ctz 64 n)
  have hle : 2 * j + 1 ≤ n := by
    have := Nat.mul_le_mul_right (2 * j + 1) hp
    omega
  rw [e.1, e.2, Int.toNat_natCast]
  refine ⟨?_, by omega, by omega, by omega, by omega, by omega⟩
  have : ((n : Nat) : Int) = ((2 ^ Lib.ctz 64 n * (2 * j + 1) : Nat) : Int) := by rw [← hj]
  rw [this, Nat.mul_comm]
  simp

/-- The parts of a pattern. -/
def pOk (W : Nat) (x : Int) : Bool := decide (sizeW W x < infW W)
def pNeg (W : Nat) (x : Int) : Bool := pOk W x && negW W x
def rawM (W : Nat) (x : Int) : Int := (numM (shF W) (sizeW W x).toNat : Nat)
def rawE (W : Nat) (x : Int) : Int := shL W + (numP (shF W) (sizeW W x).toNat : Nat)
def pM (W : Nat) (x : Int) : Int := if pOk W x && !decide (sizeW W x = 0) then oddI (rawM W x) else 0
def pE (W : Nat) (x : Int) : Int := if pOk W x && !decide (sizeW W x = 0) then rawE W x + tzI (rawM W x) else 0

/-- The whole number that a pattern is. -/
def intOk (W : Nat) (x : Int) : Bool := pOk W x && decide (0 ≤ pE W x)
def intV (W : Nat) (x : Int) : Int := if intOk W x then pM W x * 2 ^ (pE W x).toNat else 0
def intN (W : Nat) (x : Int) : Int := if pNeg W x then -intV W x else intV W x

theorem results_tmp4 {fn : Func} {t u v s : Tmp} (h : fn.results = #[.tmp t, .tmp u, .tmp v, .tmp s]) (tmps : Array Value) (P : Program) (w : World) :
    (results fn tmps).run P w = .ok (.tuple #[tmps.getD t undef, tmps.getD u undef, tmps.getD v undef, tmps.getD s undef]) w := by
  simp [results, h]

theorem raw_pos {W : Nat} (x : Int) (h : 0 < sizeW W x) : 0 < rawM W x := by
  unfold rawM numM
  have := Nat.two_pow_pos (shF W)
  split <;> omega
theorem raw_lt {W : Nat} (hW : Wide W) (x : Int) : rawM W x < 9007199254740992 := by
  have h2 := numM_lt (shF W) (sizeW W x).toNat
  have h3 : 2 ^ (shF W + 1) ≤ 2 ^ 53 := Nat.pow_le_pow_right (by omega) (by rcases hW with rfl | rfl | rfl <;> decide)
  have h4 : (2 : Nat) ^ 53 = 9007199254740992 := by decide
  unfold rawM
  omega
theorem rawE_bd {W : Nat} (hW : Wide W) (x : Int) (h : sizeW W x ≤ infW W) : -1074 ≤ rawE W x ∧ rawE W x ≤ 2048 := by
  have h2 := numP_le hW (sizeW W x).toNat (by have := infW_eq hW; omega)
  have h3 : 2 ^ shE W ≤ 2048 := by rcases hW with rfl | rfl | rfl <;> decide
  have h4 : -1074 ≤ shL W ∧ shL W ≤ -24 := by rcases hW with rfl | rfl | rfl <;> decide
  unfold rawE
  omega
theorem pM_bd {W : Nat} (hW : Wide W) (x : Int) : 0 ≤ pM W x ∧ pM W x < 9007199254740992 := by
  unfold pM
  split
  · rename_i h
    simp only [Bool.and_eq_true, Bool.not_eq_true', decide_eq_false_iff_not] at h
    have h1 : 0 ≤ rawM W x := by unfold rawM; omega
    rcases Int.lt_or_eq_of_le h1 with h2 | h2
    · have h3 := raw_lt hW x
      have h4 := odd_spec _ h2 (by omega)
      omega
    · rw [← h2]
      decide
  · omega
theorem pE_bd {W : Nat} (hW : Wide W) (x : Int) : -1074 ≤ pE W x ∧ pE W x ≤ 2200 := by
  unfold pE
  split
  · rename_i h
    simp only [Bool.and_eq_true, Bool.not_eq_true', decide_eq_false_iff_not] at h
    have h0 : sizeW W x < infW W := of_decide_eq_true h.1
    have h1 := rawE_bd hW x (Int.le_of_lt h0)
    have h2 : 0 ≤ rawM W x := by unfold rawM; omega
    rcases Int.lt_or_eq_of_le h2 with h3 | h3
    · have h4 := raw_lt hW x
      have h5 := odd_spec _ h3 (by omega)
      omega
    · rw [← h3]
      have : tzI 0 = 64 := by decide
      omega
  · omega
end Go.Proofs.YtoimhjcpeifegaaGreatDoor


/- Printed by ieee.py. -/
namespace Go.Proofs.YtoimhjcpeifegaaGreatDoor
open Go.RowKit

/-- split: the sign, and the pattern without it. -/
theorem split_64 (w : World) (hS : Shapes w) (x : Int) (hx : 0 ≤ x ∧ x < 18446744073709551616) : Calls Tryz.prog 93 #[.int .u64 x] w (fun e w' => e = .returned (.tuple #[.bool (negW 64 x), .int .u64 (sizeW 64 x)]) ∧ Below w.heap.size w w') := by
  have h1 := Lib.hid (of_64 w hS)
  have HN := Lib.hid (and_sign_64 x (by omega))
  have HA := Lib.hid (andNot_sign_64 x (by omega))
  go_enter Tryz.func93, Tryz.ntmps93
  go_wp2_with fail
  refine (h1.out).mono ?_
  rintro e w1 ⟨rfl, b1⟩
  have h2 := Lib.hid (shsign_64 w1)
  go_wp2_with fail
  refine (h2.out).mono ?_
  rintro e w2 ⟨rfl, b2⟩
  go_wp2
  go_ret2
  rw [← HN.out, ← HA.out]
  exact ⟨rfl, below_trans b1 b2⟩
end Go.Proofs.YtoimhjcpeifegaaGreatDoor

