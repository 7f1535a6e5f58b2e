/- Contracts of functions, and plain facts, part 41. -/
import Derived.Test.YtgnophflogmmaaaPk40
set_option linter.unusedVariables false
set_option linter.unusedSimpArgs false
/- The struct Bytes of layer 3's laws; numbers in two's complement there and back: plain. -/
namespace Go.Proofs.Ytgnophflogmmaaa
open Go Go.RowKit

section bytes
variable (gx : Bool) (nx : Nat) (xx : List Int) (p : Int) (s : ByteArray) (c : Int)
def PBytes (v : Value) (w : World) (B : Bx) : Prop := ∃ ax cx, v = .agg #[.bool gx, .slice ax nx cx, .int .u8 p, .string s, .int .u8 c] ∧ Arg w ax nx cx xx
def IsBytes : VP := ⟨PBytes gx nx xx p s c, fun v w B w' B' h ⟨ax, cx, e, k1⟩ => ⟨ax, cx, e, k1.mv h⟩⟩
variable {gx nx xx p s c}
theorem two_Bytes (v : Value) (w : World) (B : Bx) (h : (IsBytes gx nx xx p s c).p v w B) : ∃ cs, v = .agg cs ∧ cs.size = 5 := by
  obtain ⟨ax, cx, e, _⟩ := h
  exact ⟨_, e, rfl⟩
variable {need : List (Tmp × FD)} {d : Option Tmp} {ty : TypeId} {pos : String} {af : Array Edge} {g : Option (Nat × Bool)} {x : Operand} {D : VP}
set_option maxRecDepth 50000 in
theorem ok_addrB_0 (h : Opd need x (.box 54 5 D)) : OpOk Try.prog ⟨d, .fieldAddr 54 x 0, ty, pos, af, g⟩ need (.ptr 54 5 D 0) false :=
  ok_fieldAddr 0 0 Try.underlying54 rfl rfl (fun w => ⟨2, by go_simp, by decide⟩) h
set_option maxRecDepth 50000 in
theorem ok_addrB_1 (h : Opd need x (.box 54 5 D)) : OpOk Try.prog ⟨d, .fieldAddr 54 x 1, ty, pos, af, g⟩ need (.ptr 54 5 D 2) false :=
  ok_fieldAddr 1 2 Try.underlying54 rfl rfl (fun w => ⟨1, by go_simp, by decide⟩) h
set_option maxRecDepth 50000 in
theorem ok_addrB_2 (h : Opd need x (.box 54 5 D)) : OpOk Try.prog ⟨d, .fieldAddr 54 x 2, ty, pos, af, g⟩ need (.ptr 54 5 D 3) false :=
  ok_fieldAddr 2 3 Try.underlying54 rfl rfl (fun w => ⟨1, by go_simp, by decide⟩) h
set_option maxRecDepth 50000 in
theorem ok_addrB_3 (h : Opd need x (.box 54 5 D)) : OpOk Try.prog ⟨d, .fieldAddr 54 x 3, ty, pos, af, g⟩ need (.ptr 54 5 D 4) false :=
  ok_fieldAddr 3 4 Try.underlying54 rfl rfl (fun w => ⟨1, by go_simp, by decide⟩) h
theorem ok_loadB_0 (h : Opd need x (.ptr 54 5 (IsBytes gx nx xx p s c) 0)) : OpOk Try.prog ⟨d, .load 25 x, ty, pos, af, g⟩ need (.val (IsArg gx nx xx)) false :=
  ok_loadPtrA tyI h (by decide) fun cs w B ⟨ax, cx, e, k1⟩ => by
    injection e with e
    subst e
    exact ⟨ax, cx, rfl, k1⟩
theorem aggStr (w : World) : (isAgg 9).run Try.prog w = .ok false w := by go_simp
theorem ok_loadB_1 (h : Opd need x (.ptr 54 5 (IsBytes gx nx xx p s c) 2)) : OpOk Try.prog ⟨d, .load 5 x, ty, pos, af, g⟩ need (.val (Lit (.int .u8 p))) false :=
  ok_loadPtr1 aggU8 h (by decide) fun cs v w B ⟨ax, cx, e, _⟩ hv => by
    injection e with e
    subst e
    simp at hv
    exact hv.symm
theorem ok_loadB_2 (h : Opd need x (.ptr 54 5 (IsBytes gx nx xx p s c) 3)) : OpOk Try.prog ⟨d, .load 9 x, ty, pos, af, g⟩ need (.val (Lit (.string s))) false :=
  ok_loadPtr1 aggStr h (by decide) fun cs v w B ⟨ax, cx, e, _⟩ hv => by
    injection e with e
    subst e
    simp at hv
    exact hv.symm
theorem ok_loadB_3 (h : Opd need x (.ptr 54 5 (IsBytes gx nx xx p s c) 4)) : OpOk Try.prog ⟨d, .load 5 x, ty, pos, af, g⟩ need (.val (Lit (.int .u8 c))) false :=
  ok_loadPtr1 aggU8 h (by decide) fun cs v w B ⟨ax, cx, e, _⟩ hv => by
    injection e with e
    subst e
    simp at hv
    exact hv.symm
theorem PBytes.fits {v : Value} {w : World} {B : Bx} {X : Int} (hX : sI gx (val 4294967296 xx) = X) (h : (IsBytes gx nx xx p s c).p v w B) : FitK nx X := by
  obtain ⟨ax, cx, e, k1⟩ := h
  exact arg_fit hX k1
end bytes

/-! ### Plain -/
theorem tb_ok {X : Int} {m : Nat} (h : twosOk X ((m : Int) + 1) = true) : m + 1 ≤ 1048576 ∧ -(128 * 256 ^ m) ≤ X ∧ X < 128 * 256 ^ m := by
  obtain ⟨h1, h2, h3, h4⟩ := of_decide_eq_true h
  rw [show ((m : Int) + 1).toNat - 1 = m by omega] at h3 h4
  exact ⟨by omega, h3, h4⟩
theorem tb_mk {X : Int} {m : Nat} (h1 : m + 1 ≤ 1048576) (h2 : -(128 * 256 ^ m) ≤ X) (h3 : X < 128 * 256 ^ m) : twosOk X ((m : Int) + 1) = true :=
  decide_eq_true ⟨by omega, by omega, by rw [show ((m : Int) + 1).toNat - 1 = m by omega]; exact h2, by rw [show ((m : Int) + 1).toNat - 1 = m by omega]; exact h3⟩
theorem tb_list {X k : Int} (h : twosOk X k = true) : twosL X k = beB k.toNat X := by unfold twosL; rw [h, if_pos rfl]
theorem tb_nat {X k : Int} (h : twosOk X k = true) : ∃ m : Nat, k = (m : Int) + 1 := ⟨k.toNat - 1, by have := (of_decide_eq_true h).1; omega⟩
theorem tb_size {X k : Int} (h : twosOk X k = true) : ((strB (twosL X k)).size : Int) = k := by
  rw [tb_list h, strB_size, beB_length]
  have := (of_decide_eq_true h).1
  omega
theorem tb_top {X : Int} {m : Nat} (h2 : -(128 * 256 ^ m) ≤ X) (h3 : X < 128 * 256 ^ m) : X / 256 ^ m % 256 = (if X < 0 then X / 256 ^ m + 256 else X / 256 ^ m) ∧ ((128 : Int) ≤ X / 256 ^ m % 256 ↔ X < 0) := by
  have hp : (0 : Int) < 256 ^ m := Int.pow_pos (by omega)
  have k1 : -128 ≤ X / 256 ^ m := (Int.le_ediv_iff_mul_le hp).2 (by omega)
  have k2 : X / 256 ^ m < 128 := Int.ediv_lt_of_lt_mul hp (by omega)
  have k3 : X / 256 ^ m < 0 ↔ X < 0 := by
    constructor
    · intro h
      rcases Int.lt_or_le X 0 with h4 | h4
      · exact h4
      · have := Int.ediv_nonneg h4 (Int.le_of_lt hp); omega
    · intro h
      exact Int.ediv_neg_of_neg_of_pos h hp
  generalize X / 256 ^ m = Q at *
  constructor
  · split <;> omega
  · omega
theorem tb_back {X k : Int} (h : twosOk X k = true) : twosNum (bytesI (strB (twosL X k))) = X := by
  obtain ⟨m, rfl⟩ := tb_nat h
  obtain ⟨h1, h2, h3⟩ := tb_ok h
  rw [tb_list h, bytesI_strB (beB_dig _ _), show ((m : Int) + 1).toNat = m + 1 by omega]
  have ht := tb_top h2 h3
  have hb := beB_top m X
  have hl := beB_length (m + 1) X
  have hv : byteV (beB (m + 1) X) = X % 256 ^ (m + 1) := by unfold byteV beB; rw [List.reverse_reverse, val_leL]
  unfold twosNum
  rw [hb, hl, hv]
  have hp : (0 : Int) < 256 ^ m := Int.pow_pos (by omega)
  rw [Int.pow_succ]
  by_cases hx : X < 0
  · rw [if_pos (ht.2.2 hx)]
    have e : X % (256 ^ m * 256) = X + 256 ^ m * 256 := by
      rw [← Int.add_emod_right, Int.emod_eq_of_lt (by omega) (by omega)]
    omega
  · rw [if_neg (fun h4 => hx (ht.2.1 h4)), Int.emod_eq_of_lt (by omega) (by omega)]
theorem tb_more {X k : Int} (h : twosOk X k = true) (hk : k < 1048576) : twosOk X (k + 1) = true := by
  obtain ⟨m, rfl⟩ := tb_nat h
  obtain ⟨h1, h2, h3⟩ := tb_ok h
  have hp : (0 : Int) < 256 ^ m := Int.pow_pos (by omega)
  have := tb_mk (X := X) (m := m + 1) (by omega) (by rw [Int.pow_succ]; omega) (by rw [Int.pow_succ]; omega)
  rw [show ((m + 1 : Nat) : Int) + 1 = (m : Int) + 1 + 1 by omega] at this
  exact this
theorem leL_snoc (n : Nat) (U : Int) : leL (n + 1) U = leL n U ++ [U / 256 ^ n % 256] := by
  induction n generalizing U with
  | zero => simp [leL]
  | succ n ih =>
    show U % 256 :: leL (n + 1) (U / 256) = _
    rw [ih, Int.ediv_ediv_of_nonneg (by omega), Int.pow_succ, Int.mul_comm 256]
    rfl
theorem beB_cons (n : Nat) (U : Int) : beB (n + 1) U = (U / 256 ^ n % 256) :: beB n U := by
  unfold beB; rw [leL_snoc, List.reverse_append]; rfl
theorem tb_pad {X k : Int} (h : twosOk X k = true) (hk : k < 1048576) : strB (twosL X (k + 1)) = strB [if X < 0 then 255 else 0] ++ strB (twosL X k) := by
  have h' := tb_more h hk
  obtain ⟨m, rfl⟩ := tb_nat h
  obtain ⟨h1, h2, h3⟩ := tb_ok h
  rw [tb_list h, tb_list h', strB_append, show ((m : Int) + 1 + 1).toNat = m + 1 + 1 by omega, show ((m : Int) + 1).toNat = m + 1 by omega, beB_cons]
  have hp : (0 : Int) < 256 ^ m := Int.pow_pos (by omega)
  have e : X / 256 ^ (m + 1) % 256 = if X < 0 then 255 else 0 := by
    rw [Int.pow_succ]
    by_cases hx : X < 0
    · have e1 : X / (256 ^ m * 256) = -1 := by
        have k1 : -1 ≤ X / (256 ^ m * 256) := (Int.le_ediv_iff_mul_le (by omega)).2 (by omega)
        have k2 := Int.ediv_neg_of_neg_of_pos hx (show 0 < (256 : Int) ^ m * 256 by omega)
        omega
      rw [if_pos hx, e1]; rfl
    · rw [if_neg hx, Int.ediv_eq_zero_of_lt (by omega) (by omega)]; rfl
  rw [e]
  rfl
theorem tb_none {X k : Int} (h : twosOk X k = false) : strB (twosL X k) = strB [] := by unfold twosL; rw [h]; rfl
theorem tb_val (bs : List Int) (d : Dig 256 bs) (n : Nat) (hn : bs.length = n + 1) (hs : n + 1 ≤ 1048576) : twosOk (twosNum bs) ((n : Int) + 1) = true ∧ beB (n + 1) (twosNum bs) = bs ∧ ((128 : Int) ≤ bs[0]?.getD 0 ↔ twosNum bs < 0) ∧ FitK (n + 1) (twosNum bs) := by
  have hV0 := val_nonneg (b := 256) (by omega) d.reverse
  have hV1 := val_lt (b := 256) (by omega) d.reverse
  rw [List.length_reverse, hn] at hV1
  have hu := leL_uniq bs.reverse d.reverse
  rw [List.length_reverse, hn] at hu
  have hb : beB (n + 1) (byteV bs) = bs := by unfold beB byteV; rw [← hu, List.reverse_reverse]
  have ht := beB_top n (byteV bs)
  rw [hb] at ht
  have hp : (0 : Int) < 256 ^ n := Int.pow_pos (by omega)
  have hB : byteV bs = val 256 bs.reverse := rfl
  rw [← hB] at hV0 hV1
  rw [Int.pow_succ] at hV1
  have q1 : byteV bs / 256 ^ n < 256 := Int.ediv_lt_of_lt_mul hp (by omega)
  have q0 := Int.ediv_nonneg hV0 (Int.le_of_lt hp)
  have key : (128 : Int) ≤ byteV bs / 256 ^ n ↔ 128 * 256 ^ n ≤ byteV bs := Int.le_ediv_iff_mul_le hp
  rw [Int.emod_eq_of_lt q0 q1] at ht
  have hle : (256 : Int) ^ n * 256 ≤ 4294967296 ^ (n + 1) := by
    rw [← Int.pow_succ, ← pow4]
    exact pow_le (by omega) (by omega)
  unfold twosNum
  rw [ht, hn, Int.pow_succ]
  by_cases h : (128 : Int) ≤ byteV bs / 256 ^ n
  · have h2 := key.1 h
    rw [if_pos h]
    refine ⟨tb_mk hs (by omega) (by omega), ?_, ⟨fun _ => by omega, fun _ => h⟩, by unfold FitK; omega⟩
    have e : leL (n + 1) (byteV bs - 256 ^ n * 256) = leL (n + 1) (byteV bs) := by
      rw [← leL_mod (n + 1) (byteV bs - 256 ^ n * 256), Int.pow_succ, Int.sub_emod_right, ← Int.pow_succ, leL_mod]
    unfold beB at *
    rw [e]
    exact hb
  · rw [if_neg h]
    have h2 : ¬ 128 * 256 ^ n ≤ byteV bs := fun h3 => h (key.2 h3)
    exact ⟨tb_mk hs (by omega) (by omega), hb, ⟨fun h3 => absurd h3 h, fun h3 => by omega⟩, by unfold FitK; omega⟩
theorem tb_text (s : ByteArray) (h0 : 0 < (s.size : Int)) (h1 : (s.size : Int) ≤ 1048576) : twosOk (twosNum (bytesI s)) (s.size : Int) = true ∧ strB (twosL (twosNum (bytesI s)) (s.size : Int)) = s ∧ (decide (twosNum (bytesI s) < 0) == decide ((128 : Int) ≤ (bytesI s)[0]?.getD 0)) = true ∧ FitK s.size (twosNum (bytesI s)) := by
  have hl := bytesI_length s
  obtain ⟨n, hn⟩ : ∃ n, s.size = n + 1 := ⟨s.size - 1, by omega⟩
  obtain ⟨a, b, c, d⟩ := tb_val (bytesI s) (bytesI_dig s) n (by omega) (by omega)
  rw [hn]
  have e : ((n + 1 : Nat) : Int) = (n : Int) + 1 := by omega
  rw [e]
  refine ⟨a, ?_, ?_, d⟩
  · rw [tb_list a, show ((n : Int) + 1).toNat = n + 1 by omega, b, strB_bytesI]
  · rw [beq_iff_eq, decide_eq_decide]; exact c.symm
theorem bytesI_append (s t : ByteArray) : bytesI (s ++ t) = bytesI s ++ bytesI t := by
  unfold bytesI
  rw [ByteArray.data_append, Array.toList_append, List.map_append]
theorem tb_snoc (s : ByteArray) (c : Int) (h0 : 0 < (s.size : Int)) (hc : 0 ≤ c ∧ c < 256) : twosNum (bytesI (s ++ strB [c])) = (twosNum (bytesI s) * 256) + c := by
  have hl := bytesI_length s
  rw [bytesI_append, bytesI_strB (Dig.cons (by omega) (by omega) (Dig.nil _))]
  have hv : byteV (bytesI s ++ [c]) = byteV (bytesI s) * 256 + c := by
    unfold byteV
    rw [List.reverse_append]
    show c + 256 * val 256 (bytesI s).reverse = _
    omega
  unfold twosNum
  rw [hv, List.getElem?_append_left (by omega), List.length_append, List.length_singleton, Int.pow_succ]
  split <;> omega
end Go.Proofs.Ytgnophflogmmaaa
