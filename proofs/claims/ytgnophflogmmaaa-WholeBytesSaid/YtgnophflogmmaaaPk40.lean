/- Contracts of functions, and plain facts, part 40. -/
import Derived.Test.YtgnophflogmmaaaPk10
import Derived.Test.YtgnophflogmmaaaPk39
set_option linter.unusedVariables false
set_option linter.unusedSimpArgs false
/- WFromTwos. (Printed by flowfn.py.) -/
namespace Go.Proofs.Ytgnophflogmmaaa
open Go Go.RowKit

/-- The bytes from place k on stand in the row. -/
structure HS (rs X : List Int) (k : Nat) : Prop where
  dig : Dig 4294967296 X
  len : X.length = (rs.length + 3) / 4
  worth : val 4294967296 X = 256 ^ k * val 256 (rs.drop k)
  zero : ∀ q, q < k / 4 → X[q]?.getD 0 = 0
  low : X[k / 4]?.getD 0 % 256 ^ (k % 4) = 0
theorem hs_start (rs : List Int) : HS rs (List.replicate ((rs.length + 3) / 4) 0) rs.length :=
  ⟨Dig.replicate _ (by omega) _, by simp, by rw [val_replicate, List.drop_length]; simp [val], fun q _ => by simp [List.getElem?_replicate]; split <;> rfl, by simp [List.getElem?_replicate]; split <;> simp⟩
theorem or_high (r : Nat) (hr : r < 4) (o c : Int) (ho : 0 ≤ o ∧ o < 4294967296) (hm : o % 256 ^ (r + 1) = 0) (hc : 0 ≤ c ∧ c < 256) : bits .or .u32 o (c * 256 ^ r) = o + c * 256 ^ r ∧ o + c * 256 ^ r < 4294967296 := by
  obtain ⟨o, rfl⟩ := Int.eq_ofNat_of_zero_le ho.1
  obtain ⟨c, rfl⟩ := Int.eq_ofNat_of_zero_le hc.1
  have e1 : (c : Int) * 256 ^ r = ((c * 256 ^ r : Nat) : Int) := by simp
  have e2 : (256 : Int) ^ (r + 1) = ((256 ^ (r + 1) : Nat) : Int) := by simp
  rw [e2] at hm
  have hm2 : o % 256 ^ (r + 1) = 0 := by omega
  have e3 : 256 ^ (r + 1) = 2 ^ (8 * (r + 1)) := by rw [Nat.pow_mul]
  have h1 : c * 256 ^ r < 256 ^ (r + 1) := by
    have : c * 256 ^ r ≤ 255 * 256 ^ r := Nat.mul_le_mul_right _ (by omega)
    have hp : 0 < 256 ^ r := Nat.pow_pos (by omega)
    rw [Nat.pow_succ]; omega
  have h4 : 256 ^ (r + 1) ∣ 4294967296 := ⟨256 ^ (3 - r), by rw [← Nat.pow_add, show r + 1 + (3 - r) = 4 by omega]⟩
  have h2 : o + c * 256 ^ r < 4294967296 := by
    obtain ⟨A, hA⟩ := h4
    obtain ⟨D, hD⟩ := Nat.dvd_of_mod_eq_zero hm2
    have ho2 : o < 4294967296 := by omega
    rw [hA] at ho2 ⊢
    rw [hD] at ho2 ⊢
    have h5 : D < A := by
      have h6 : 256 ^ (r + 1) * D < 256 ^ (r + 1) * A := by omega
      exact Nat.lt_of_mul_lt_mul_left h6
    have h7 : 256 ^ (r + 1) * (D + 1) ≤ 256 ^ (r + 1) * A := Nat.mul_le_mul_left _ h5
    rw [Nat.mul_add, Nat.mul_one] at h7
    omega
  rw [e1]
  refine ⟨?_, by omega⟩
  have hp : 0 < 256 ^ r := Nat.pow_pos (by omega)
  have h3 := nat_join (8 * (r + 1)) o (c * 256 ^ r) (by rw [← e3]; exact hm2) (by rw [← e3]; exact h1)
  rw [Go.u32_or_nat o _ (by omega) (by omega), h3]
  omega
theorem hs_step1 (rs X : List Int) (p : Nat) (hp : p < rs.length) (dr : Dig 256 rs) (h : HS rs X (p + 1)) :
    bits .or .u32 (X[p / 4]?.getD 0) (rs[p]?.getD 0 * 256 ^ (p % 4)) = X[p / 4]?.getD 0 + rs[p]?.getD 0 * 256 ^ (p % 4) ∧ HS rs (X.set (p / 4) (X[p / 4]?.getD 0 + rs[p]?.getD 0 * 256 ^ (p % 4))) p ∧ p / 4 < X.length := by
  have hc := dr.get (by omega) p
  have ho := h.dig.get (by omega) (p / 4)
  have hq : p / 4 < X.length := by rw [h.len]; omega
  have hlow : X[p / 4]?.getD 0 % 256 ^ (p % 4 + 1) = 0 := by
    by_cases h3 : p % 4 = 3
    · rw [h.zero (p / 4) (by omega), Int.zero_emod]
    · have := h.low
      rw [show (p + 1) / 4 = p / 4 by omega, show (p + 1) % 4 = p % 4 + 1 by omega] at this
      exact this
  obtain ⟨o1, o2⟩ := or_high (p % 4) (by omega) _ _ ho hlow hc
  have hpp : (0 : Int) < 256 ^ (p % 4) := Int.pow_pos (by omega)
  have hv0 : 0 ≤ X[p / 4]?.getD 0 + rs[p]?.getD 0 * 256 ^ (p % 4) := by have := Int.mul_nonneg hc.1 (Int.le_of_lt hpp); omega
  refine ⟨o1, ⟨h.dig.set hv0 o2 _, by rw [List.length_set]; exact h.len, ?_, fun q hq2 => ?_, ?_⟩, hq⟩
  · rw [val_set _ _ _ _ hq, h.worth, List.drop_eq_getElem_cons hp]
    have e : rs[p]?.getD 0 = rs[p] := by rw [List.getElem?_eq_getElem hp]; rfl
    have hpow : (256 : Int) ^ p = 4294967296 ^ (p / 4) * 256 ^ (p % 4) := by
      rw [← pow4, ← Int.pow_add]
      congr 1
      omega
    rw [e, Int.pow_succ, hpow]
    simp only [val]
    generalize (4294967296 : Int) ^ (p / 4) = A
    generalize (256 : Int) ^ (p % 4) = D
    grind
  · rw [List.getElem?_set_ne (by omega)]
    exact h.zero q (by omega)
  · rw [List.getElem?_set_self hq, Option.getD_some]
    rw [Int.pow_succ] at hlow
    have h1 : X[p / 4]?.getD 0 % 256 ^ (p % 4) = 0 := by
      have h2 := Int.dvd_of_emod_eq_zero hlow
      exact Int.emod_eq_zero_of_dvd (Int.dvd_trans ⟨256, rfl⟩ h2)
    rw [Int.add_mul_emod_self_right]
    exact h1
theorem hs_step {Y X : List Int} {i : Int} (h0 : 0 ≤ i) (hi : i < (Y.length : Int)) (dY : Dig 256 Y) (h : HS Y.reverse X ((Y.length : Int) - i).toNat) :
    bits .or .u32 (X[((((Y.length : Int) - 1) - i) / 4).toNat]?.getD 0) (Y[i.toNat]?.getD 0 * 256 ^ ((((Y.length : Int) - 1) - i) % 4).toNat) = X[((((Y.length : Int) - 1) - i) / 4).toNat]?.getD 0 + Y[i.toNat]?.getD 0 * 256 ^ ((((Y.length : Int) - 1) - i) % 4).toNat ∧
    HS Y.reverse (X.set ((((Y.length : Int) - 1) - i) / 4).toNat (X[((((Y.length : Int) - 1) - i) / 4).toNat]?.getD 0 + Y[i.toNat]?.getD 0 * 256 ^ ((((Y.length : Int) - 1) - i) % 4).toNat)) ((Y.length : Int) - (i + 1)).toNat ∧ ((((Y.length : Int) - 1) - i) / 4).toNat < X.length := by
  obtain ⟨p, hp⟩ : ∃ p : Nat, ((Y.length : Int) - 1) - i = (p : Int) := ⟨(((Y.length : Int) - 1) - i).toNat, by omega⟩
  rw [hp, show ((p : Int) / 4).toNat = p / 4 by omega, show ((p : Int) % 4).toNat = p % 4 by omega, show ((Y.length : Int) - (i + 1)).toNat = p by omega]
  rw [show ((Y.length : Int) - i).toNat = p + 1 by omega] at h
  have e : Y[i.toNat]?.getD 0 = Y.reverse[p]?.getD 0 := by rw [List.getElem?_reverse (by omega)]; congr 2; omega
  rw [e]
  exact hs_step1 Y.reverse X p (by rw [List.length_reverse]; omega) dY.reverse h
theorem flip_twos (bs : List Int) (d : Dig 256 bs) (h : (128 : Int) ≤ bs[0]?.getD 0) : -(byteV (flipB bs)) = twosNum bs ∧ 0 ≤ byteV (flipB bs) := by
  unfold twosNum
  rw [if_pos h]
  have hp : 0 < byteV bs := by
    cases bs with
    | nil => simp at h
    | cons c l =>
      unfold byteV
      rw [List.reverse_cons, val_append]
      have h1 := val_nonneg (show (0 : Int) < 256 by omega) d.tail.reverse
      simp at h
      simp only [val]
      have hp2 : (0 : Int) < 256 ^ l.reverse.length := Int.pow_pos (by omega)
      have := Int.mul_pos hp2 (show 0 < c by omega)
      simp
      simp at this
      omega
  have hv := flip_val1 bs.reverse d.reverse
  have hlt := val_lt (b := 256) (by omega) d.reverse
  unfold byteV at *
  unfold flipB
  rw [List.reverse_reverse, hv, if_neg (by omega), List.length_reverse]
  rw [List.length_reverse] at hlt
  omega

set_option maxRecDepth 20000 in
set_option maxHeartbeats 2000000 in
theorem con_fromtwos (s : ByteArray) (hs : s.size ≤ 1048576) : Con Try.prog 27 [Lit (.string s)] (IsI (twosNum (bytesI s))) := by
  refine f_enter (N := 61) Try.ntmps27 (fun _ _ => by go_simp) Try.func27 rfl (by simp) ?_
  intro a0 w0 B0 H0
  replace H0 : St 61 w0 B0 a0 w0 B0 [(0, .val (Lit (.string s)))] [] := H0
  have hlen := bytesI_length s
  have hbD := bytesI_dig s
  refine wp_seq ?_
  refine flow_region (dsts := [some 2]) (refs := [[]]) (outs := [.res 0, .pre 0]) (als := [true]) (posts := [.box 25 2 (Zero2)])
    (out := [(2, .box 25 2 (Zero2)), (0, .val (Lit (.string s)))]) (nb := [2]) H0 1 [] rfl (by kernel_rfl) rfl rfl ?_ ?_
  · refine .cons (.plain rfl (ok_alloc (D := Zero2) zeroI rfl (fun _ _ => rfl))) ?_
    exact .nil
  clear H0
  intro a1 w1 B1 H1
  simp only [List.cons_append, List.nil_append] at H1
  refine ops_done ?_
  refine then_normal ?_
  refine wp_seq ?_
  obtain ⟨m2, hm2, hL2, H2⟩ := St.mark H1 902
  clear H1
  clear hL2
  refine flow_region (dsts := [some 9, some 10, some 3]) (refs := [[.pre 2], [.res 0, .pre 0], [.res 1]]) (outs := [.res 2, .pre 0, .pre 1]) (als := [false, false, false]) (posts := [.val (Lit (.string s)), .val (IsRwN m2 .u8 (bytesI s)), .val (IsRwN m2 .u8 (bytesI s))])
    (out := [(3, .val (IsRwN m2 .u8 (bytesI s))), (902, .val (Sz m2)), (2, .box 25 2 (Zero2))]) (nb := []) H2 3 [] rfl (by kernel_rfl) rfl rfl ?_ ?_
  · refine .cons (.plain rfl (ok_move (.tmp 0 rfl))) ?_
    refine .cons (.plain rfl (ok_bytesOf 1 Try.underlying9 Try.underlying50 Try.underlying5 (.tmp 0 rfl) rfl)) ?_
    refine .cons (.plain rfl (ok_assign (.tmp 0 rfl))) ?_
    exact .nil
  clear H2 a1 w1 B1
  intro a3 w3 B3 H3
  refine ops_done ?_
  refine then_normal ?_
  refine wp_seq ?_
  rcases (show (¬ 0 < (List.length (bytesI s) : Int)) ∨ (0 < (List.length (bytesI s) : Int) ∧ (128 : Int) ≤ (bytesI s)[0]?.getD 0) ∨ (0 < (List.length (bytesI s) : Int) ∧ ¬ (128 : Int) ≤ (bytesI s)[0]?.getD 0) by omega) with c0 | ⟨c0, c1⟩ | ⟨c0, c1⟩
  · have hN : byteV (bytesI s) = twosNum (bytesI s) := by unfold twosNum; rw [if_neg (by rw [List.getElem?_eq_none (by omega)]; simp)]
    obtain ⟨g4, hgm4, H4⟩ := St.nameRw H3 0 rfl
    replace H4 : St 61 w0 B0 a3 w3 B3 [(3, .val (IsRw g4 m2 .u8 (bytesI s))), (902, .val (Sz m2)), (2, .box 25 2 (Zero2))] [2] := H4
    clear H3
    refine flow_region (dsts := [some 11, some 12, some 13, some 14, some 15, some 16, some 17, some 18, some 19, some 4]) (refs := [[.pre 0], [.res 0], [.res 1], [.res 2], [.res 3], [.res 3], [.res 3], [.res 3], [.res 3], [.res 8]]) (outs := [.res 9, .pre 0, .pre 1, .pre 2]) (als := [false, false, false, false, false, false, false, false, false, false]) (posts := [.val (IsRw g4 m2 .u8 (bytesI s)), .val (Lit (.int .i64 (List.length (bytesI s) : Int))), .val (IsB false), .val (IsB false), .val (IsUndef), .val (IsUndef), .val (IsUndef), .val (IsUndef), .val (IsB false), .val (IsB false)])
      (out := [(4, .val (IsB false)), (3, .val (IsRw g4 m2 .u8 (bytesI s))), (902, .val (Sz m2)), (2, .box 25 2 (Zero2))]) (nb := []) H4 10 [] rfl (by kernel_rfl) rfl rfl ?_ ?_
    · refine .cons (.plain rfl (ok_move (.tmp 0 rfl))) ?_
      refine .cons (.plain rfl (ok_lenL Try.underlying50 (.weak (.tmp 0 rfl) weakRwL))) ?_
      refine .cons (.plain rfl (ok_cmp (b := false) (.tmp 0 rfl) (.lit) ((decide_eq_false (c0)).symm))) ?_
      refine .cons (.plain rfl (ok_move (.tmp 0 rfl))) ?_
      refine .cons (.unwanted 3 true rfl rfl rfl 0 rfl) ?_
      refine .cons (.unwanted 3 true rfl rfl rfl 0 rfl) ?_
      refine .cons (.unwanted 3 true rfl rfl rfl 0 rfl) ?_
      refine .cons (.unwanted 3 true rfl rfl rfl 0 rfl) ?_
      refine .cons (.plain rfl (ok_pickF (.tmp 0 rfl) (.lit))) ?_
      refine .cons (.plain rfl (ok_assign (.tmp 0 rfl))) ?_
      exact .nil
    clear H4 a3 w3 B3
    intro a5 w5 B5 H5
    refine ops_done ?_
    refine then_normal ?_
    refine wp_seq ?_
    refine wp_seq ?_
    refine flow_region (dsts := [some 20]) (refs := [[.pre 0]]) (outs := [.res 0, .pre 0, .pre 1, .pre 2, .pre 3]) (als := [false]) (posts := [.val (IsB false)])
      (out := [(20, .val (IsB false)), (4, .val (IsB false)), (3, .val (IsRw g4 m2 .u8 (bytesI s))), (902, .val (Sz m2)), (2, .box 25 2 (Zero2))]) (nb := []) H5 1 [] rfl (by kernel_rfl) rfl rfl ?_ ?_
    · refine .cons (.plain rfl (ok_move (.tmp 0 rfl))) ?_
      exact .nil
    clear H5 a5 w5 B5
    intro a6 w6 B6 H6
    refine ops_done ?_
    refine then_normal ?_
    refine f_condF H6 (.tmp 0 rfl) ?_
    refine wp_skip ?_
    refine then_normal ?_
    refine wp_seq ?_
    obtain ⟨m7, hm7, hL7, H7⟩ := St.mark H6 907
    clear H6
    have H8 := St.setw H7 3 (D' := IsLb m7 .u8 (bytesI s)) rfl (fun v h => hL7 _ _ _ (weakRwL v _ _ h)) (l' := [(907, .val (Sz m7)), (20, .val (IsB false)), (4, .val (IsB false)), (3, .val (IsLb m7 .u8 (bytesI s))), (902, .val (Sz m2)), (2, .box 25 2 (Zero2))]) rfl
    clear H7
    clear hL7
    have dY : Dig 256 (bytesI s) := hbD
    have hYl : List.length (bytesI s) = s.size := hlen
    have hY0 := byteV_nonneg (bytesI s) dY
    refine flow_region (dsts := [some 23, some 24, some 25, some 26, some 27, some 5]) (refs := [[.pre 3], [.res 0], [.res 1], [.res 2], [.res 3, .pre 0], [.res 4]]) (outs := [.res 5, .pre 0, .pre 2, .pre 3, .pre 4, .pre 5]) (als := [false, false, false, false, false, false]) (posts := [.val (IsLb m7 .u8 (bytesI s)), .val (Lit (.int .i64 (List.length (bytesI s) : Int))), .val (Lit (.int .i64 ((List.length (bytesI s) : Int) + 3))), .val (Lit (.int .i64 (((List.length (bytesI s) : Int) + 3) / 4))), .val (IsNew m7 78 .u32 (List.replicate ((List.length (bytesI s) + 3) / 4) 0)), .val (IsNew m7 78 .u32 (List.replicate ((List.length (bytesI s) + 3) / 4) 0))])
      (out := [(5, .val (IsNew m7 78 .u32 (List.replicate ((List.length (bytesI s) + 3) / 4) 0))), (907, .val (Sz m7)), (4, .val (IsB false)), (3, .val (IsLb m7 .u8 (bytesI s))), (902, .val (Sz m2)), (2, .box 25 2 (Zero2))]) (nb := []) H8 6 [] rfl (by kernel_rfl) rfl rfl ?_ ?_
    · refine .cons (.plain rfl (ok_move (.tmp 0 rfl))) ?_
      refine .cons (.plain rfl (ok_lenL Try.underlying50 (.weak (.tmp 0 rfl) weakLbL))) ?_
      refine .cons (.plain rfl (ok_add (r := ((List.length (bytesI s) : Int) + 3)) (.tmp 0 rfl) (.lit) (w_i64 (by omega)))) ?_
      refine .cons (.plain rfl (ok_quo (r := (((List.length (bytesI s) : Int) + 3) / 4)) (.tmp 0 rfl) (.lit) (by omega) (by rw [Int.tdiv_eq_ediv_of_nonneg (by omega)]; exact w_i64 (by omega)))) ?_
      refine .cons (.plain rfl (ok_make ((List.length (bytesI s) + 3) / 4) 1 (.inl rfl) Try.underlying23 info_limb (by omega) (by omega) (.tmp 0 rfl) (.tmp 0 rfl) (by omega) rfl)) ?_
      refine .cons (.plain rfl (ok_assign (.tmp 0 rfl))) ?_
      exact .nil
    clear H8 a6 w6 B6
    intro a9 w9 B9 H9
    refine ops_done ?_
    refine then_normal ?_
    refine wp_seq ?_
    refine wp_seq ?_
    obtain ⟨g10, hg10, H10⟩ := St.name H9 0 rfl
    replace H10 : St 61 w0 B0 a9 w9 B9 [(5, .val (IsApp g10 m7 78 .u32 (List.replicate ((List.length (bytesI s) + 3) / 4) 0))), (907, .val (Sz m7)), (4, .val (IsB false)), (3, .val (IsLb m7 .u8 (bytesI s))), (902, .val (Sz m2)), (2, .box 25 2 (Zero2))] [2] := H10
    clear H9
    have hgm10 : ∀ b, g10 = some b → m7 ≤ b := fun b hb => (hg10 b hb).1
    clear hg10
    refine flow_region (dsts := [some 28, some 29, some 30]) (refs := [[.pre 3], [.res 0], []]) (outs := [.res 0, .res 1, .res 2, .pre 0, .pre 1, .pre 2, .pre 3, .pre 4, .pre 5]) (als := [false, false, false]) (posts := [.val (IsLb m7 .u8 (bytesI s)), .val (Lit (.int .i64 (List.length (bytesI s) : Int))), .val (Lit (.int .i64 0))])
      (out := [(28, .val (IsLb m7 .u8 (bytesI s))), (29, .val (Lit (.int .i64 (List.length (bytesI s) : Int)))), (30, .val (Lit (.int .i64 0))), (5, .val (IsApp g10 m7 78 .u32 (List.replicate ((List.length (bytesI s) + 3) / 4) 0))), (907, .val (Sz m7)), (4, .val (IsB false)), (3, .val (IsLb m7 .u8 (bytesI s))), (902, .val (Sz m2)), (2, .box 25 2 (Zero2))]) (nb := []) H10 3 [] rfl (by kernel_rfl) rfl rfl ?_ ?_
    · refine .cons (.plain rfl (ok_move (.tmp 0 rfl))) ?_
      refine .cons (.plain rfl (ok_lenL Try.underlying50 (.weak (.tmp 0 rfl) weakLbL))) ?_
      refine .cons (.plain rfl (ok_move (.lit))) ?_
      exact .nil
    clear H10 a9 w9 B9
    intro a11 w11 B11 H11
    refine ops_done ?_
    refine then_normal ?_
    refine wp_block ?_
    refine f_loop (fun (⟨i, X⟩ : Int × List Int) => [(28, .val (IsLb m7 .u8 (bytesI s))), (29, .val (Lit (.int .i64 (List.length (bytesI s) : Int)))), (30, .val (Lit (.int .i64 i))), (5, .val (IsApp g10 m7 78 .u32 X)), (907, .val (Sz m7)), (4, .val (IsB false)), (3, .val (IsLb m7 .u8 (bytesI s))), (902, .val (Sz m2)), (2, .box 25 2 (Zero2))]) (fun (⟨i, X⟩ : Int × List Int) => (0 ≤ i ∧ i ≤ (List.length (bytesI s) : Int)) ∧ HS (List.reverse (bytesI s)) X ((List.length (bytesI s) : Int) - i).toNat) (fun (⟨i, X⟩ : Int × List Int) => ((List.length (bytesI s) : Int) - i).toNat) (⟨0, List.replicate ((List.length (bytesI s) + 3) / 4) 0⟩) (St.pick H11 [0, 1, 2, 3, 4, 5, 6, 7, 8] rfl) (by exact ⟨by omega, by have := hs_start (List.reverse (bytesI s)); rw [List.length_reverse] at this; rw [show ((List.length (bytesI s) : Int) - 0).toNat = List.length (bytesI s) by omega]; exact this⟩) ?_
    clear H11 a11 w11 B11
    rintro ⟨i, X⟩ a12 w12 B12 hI12 H12
    replace hI12 : (0 ≤ i ∧ i ≤ (List.length (bytesI s) : Int)) ∧ HS (List.reverse (bytesI s)) X ((List.length (bytesI s) : Int) - i).toNat := hI12
    replace H12 : St 61 w0 B0 a12 w12 B12 [(28, .val (IsLb m7 .u8 (bytesI s))), (29, .val (Lit (.int .i64 (List.length (bytesI s) : Int)))), (30, .val (Lit (.int .i64 i))), (5, .val (IsApp g10 m7 78 .u32 X)), (907, .val (Sz m7)), (4, .val (IsB false)), (3, .val (IsLb m7 .u8 (bytesI s))), (902, .val (Sz m2)), (2, .box 25 2 (Zero2))] [2] := H12
    obtain ⟨hi, hst⟩ := hI12
    refine wp_seq ?_
    refine flow_region (dsts := [some 31]) (refs := [[.pre 2, .pre 1]]) (outs := [.res 0, .pre 0, .pre 1, .pre 2, .pre 3, .pre 4, .pre 5, .pre 6, .pre 7, .pre 8]) (als := [false]) (posts := [.val (IsB (decide (i < (List.length (bytesI s) : Int))))])
      (out := [(31, .val (IsB (decide (i < (List.length (bytesI s) : Int))))), (28, .val (IsLb m7 .u8 (bytesI s))), (29, .val (Lit (.int .i64 (List.length (bytesI s) : Int)))), (30, .val (Lit (.int .i64 i))), (5, .val (IsApp g10 m7 78 .u32 X)), (907, .val (Sz m7)), (4, .val (IsB false)), (3, .val (IsLb m7 .u8 (bytesI s))), (902, .val (Sz m2)), (2, .box 25 2 (Zero2))]) (nb := []) H12 1 [] rfl (by kernel_rfl) rfl rfl ?_ ?_
    · refine .cons (.plain rfl (ok_cmp (.tmp 0 rfl) (.tmp 1 rfl) rfl)) ?_
      exact .nil
    clear H12 a12 w12 B12
    intro a13 w13 B13 H13
    refine ops_done ?_
    refine then_normal ?_
    refine wp_seq ?_
    refine f_cond H13 (.tmp 0 rfl) ?_ ?_
    · intro hc14
      replace hc14 := of_decide_eq_true hc14
      refine wp_skip ?_
      refine then_normal ?_
      refine wp_seq ?_
      refine wp_block ?_
      refine wp_seq ?_
      refine flow_region (dsts := [some 32, some 33, some 34, some 6, some 7]) (refs := [[.pre 3], [.pre 1, .pre 3], [.res 1], [.res 0], [.res 2]]) (outs := [.res 3, .res 4, .pre 1, .pre 2, .pre 3, .pre 4, .pre 5, .pre 6, .pre 7, .pre 8, .pre 9]) (als := [false, false, false, false, false]) (posts := [.val (Lit (.int .i64 i)), .val (IsCell .u8 ((bytesI s)[i.toNat]?.getD 0)), .val (Lit (.int .u8 ((bytesI s)[i.toNat]?.getD 0))), .val (Lit (.int .i64 i)), .val (Lit (.int .u8 ((bytesI s)[i.toNat]?.getD 0)))])
        (out := [(6, .val (Lit (.int .i64 i))), (7, .val (Lit (.int .u8 ((bytesI s)[i.toNat]?.getD 0)))), (28, .val (IsLb m7 .u8 (bytesI s))), (29, .val (Lit (.int .i64 (List.length (bytesI s) : Int)))), (30, .val (Lit (.int .i64 i))), (5, .val (IsApp g10 m7 78 .u32 X)), (907, .val (Sz m7)), (4, .val (IsB false)), (3, .val (IsLb m7 .u8 (bytesI s))), (902, .val (Sz m2)), (2, .box 25 2 (Zero2))]) (nb := []) H13 5 [] rfl (by kernel_rfl) rfl rfl ?_ ?_
      · refine .cons (.plain rfl (ok_move (.tmp 0 rfl))) ?_
        refine .cons (.plain rfl (ok_idxL (xs := (bytesI s)) i.toNat Try.underlying50 size8 (.weak (.tmp 0 rfl) weakLbL) (.tmp 1 rfl) (by omega) (by omega))) ?_
        refine .cons (.plain rfl (ok_loadCell aggU8 (.tmp 0 rfl))) ?_
        refine .cons (.plain rfl (ok_assign (.tmp 0 rfl))) ?_
        refine .cons (.plain rfl (ok_assign (.tmp 0 rfl))) ?_
        exact .nil
      clear H13 a13 w13 B13
      intro a15 w15 B15 H15
      refine ops_done ?_
      refine then_normal ?_
      refine wp_seq ?_
      obtain ⟨hs1, hs2, hs3⟩ := hs_step hi.1 hc14 dY hst
      have hcb := dY.get (by omega) i.toNat
      refine flow_region (dsts := [some 35, some 36, some 37, some 38, some 39, some 8]) (refs := [[.pre 8], [.res 0], [.res 1], [.pre 0], [.res 2, .res 3], [.res 4]]) (outs := [.res 5, .pre 1, .pre 2, .pre 3, .pre 4, .pre 5, .pre 6, .pre 7, .pre 8, .pre 9, .pre 10]) (als := [false, false, false, false, false, false]) (posts := [.val (IsLb m7 .u8 (bytesI s)), .val (Lit (.int .i64 (List.length (bytesI s) : Int))), .val (Lit (.int .i64 ((List.length (bytesI s) : Int) - 1))), .val (Lit (.int .i64 i)), .val (Lit (.int .i64 (((List.length (bytesI s) : Int) - 1) - i))), .val (Lit (.int .i64 (((List.length (bytesI s) : Int) - 1) - i)))])
        (out := [(8, .val (Lit (.int .i64 (((List.length (bytesI s) : Int) - 1) - i)))), (7, .val (Lit (.int .u8 ((bytesI s)[i.toNat]?.getD 0)))), (28, .val (IsLb m7 .u8 (bytesI s))), (29, .val (Lit (.int .i64 (List.length (bytesI s) : Int)))), (30, .val (Lit (.int .i64 i))), (5, .val (IsApp g10 m7 78 .u32 X)), (907, .val (Sz m7)), (4, .val (IsB false)), (3, .val (IsLb m7 .u8 (bytesI s))), (902, .val (Sz m2)), (2, .box 25 2 (Zero2))]) (nb := []) H15 6 [] rfl (by kernel_rfl) rfl rfl ?_ ?_
      · refine .cons (.plain rfl (ok_move (.tmp 0 rfl))) ?_
        refine .cons (.plain rfl (ok_lenL Try.underlying50 (.weak (.tmp 0 rfl) weakLbL))) ?_
        refine .cons (.plain rfl (ok_sub (r := ((List.length (bytesI s) : Int) - 1)) (.tmp 0 rfl) (.lit) (w_i64 (by omega)))) ?_
        refine .cons (.plain rfl (ok_move (.tmp 0 rfl))) ?_
        refine .cons (.plain rfl (ok_sub (r := (((List.length (bytesI s) : Int) - 1) - i)) (.tmp 0 rfl) (.tmp 1 rfl) (w_i64 (by omega)))) ?_
        refine .cons (.plain rfl (ok_assign (.tmp 0 rfl))) ?_
        exact .nil
      clear H15 a15 w15 B15
      intro a16 w16 B16 H16
      refine ops_done ?_
      refine then_normal ?_
      refine flow_drawT (dsts := [some 40, some 41, some 42, some 43, some 44, some 45, some 46, some 47, some 48, some 49, some 50, some 51, some 52]) (refs := [[.pre 5], [.pre 0], [.res 1], [.res 0, .res 2], [.res 3], [.pre 1], [.res 5], [.pre 0], [.res 7], [.res 8], [.res 6, .res 9], [.res 4, .res 10], [.res 0, .res 2]]) (outs := [.res 11, .res 12, .pre 2, .pre 3, .pre 4, .pre 5, .pre 6, .pre 7, .pre 8, .pre 9, .pre 10]) (als := [false, false, false, false, false, false, false, false, false, false, false, false, false]) (posts := [.val (IsApp g10 m7 78 .u32 X), .val (Lit (.int .i64 (((List.length (bytesI s) : Int) - 1) - i))), .val (Lit (.int .i64 ((((List.length (bytesI s) : Int) - 1) - i) / 4))), .val (IsCell .u32 (X[((((List.length (bytesI s) : Int) - 1) - i) / 4).toNat]?.getD 0)), .val (Lit (.int .u32 (X[((((List.length (bytesI s) : Int) - 1) - i) / 4).toNat]?.getD 0))), .val (Lit (.int .u8 ((bytesI s)[i.toNat]?.getD 0))), .val (Lit (.int .u32 ((bytesI s)[i.toNat]?.getD 0))), .val (Lit (.int .i64 (((List.length (bytesI s) : Int) - 1) - i))), .val (Lit (.int .i64 ((((List.length (bytesI s) : Int) - 1) - i) % 4))), .val (Lit (.int .i64 (((((List.length (bytesI s) : Int) - 1) - i) % 4) * 8))), .val (Lit (.int .u32 (((bytesI s)[i.toNat]?.getD 0) * 256 ^ ((((List.length (bytesI s) : Int) - 1) - i) % 4).toNat))), .val (Lit (.int .u32 (X[((((List.length (bytesI s) : Int) - 1) - i) / 4).toNat]?.getD 0 + ((bytesI s)[i.toNat]?.getD 0) * 256 ^ ((((List.length (bytesI s) : Int) - 1) - i) % 4).toNat))), .val (IsAt g10 (((((List.length (bytesI s) : Int) - 1) - i) / 4).toNat))])
        (out := [(51, .val (Lit (.int .u32 (X[((((List.length (bytesI s) : Int) - 1) - i) / 4).toNat]?.getD 0 + ((bytesI s)[i.toNat]?.getD 0) * 256 ^ ((((List.length (bytesI s) : Int) - 1) - i) % 4).toNat)))), (52, .val (IsAt g10 (((((List.length (bytesI s) : Int) - 1) - i) / 4).toNat))), (28, .val (IsLb m7 .u8 (bytesI s))), (29, .val (Lit (.int .i64 (List.length (bytesI s) : Int)))), (30, .val (Lit (.int .i64 i))), (5, .val (IsApp g10 m7 78 .u32 X)), (907, .val (Sz m7)), (4, .val (IsB false)), (3, .val (IsLb m7 .u8 (bytesI s))), (902, .val (Sz m2)), (2, .box 25 2 (Zero2))]) (nb := []) H16 (by kernel_rfl) 13 1 #[true, true, true, true, true, true, true, true, true, true, true, true, true, false] (by kernel_rfl) (by kernel_rfl) rfl rfl ?_ ?_
      · refine .cons (.plain rfl (ok_move (.tmp 0 rfl))) ?_
        refine .cons (.plain rfl (ok_move (.tmp 0 rfl))) ?_
        refine .cons (.plain rfl (ok_quo (r := ((((List.length (bytesI s) : Int) - 1) - i) / 4)) (.tmp 0 rfl) (.lit) (by omega) (by rw [Int.tdiv_eq_ediv_of_nonneg (by omega)]; exact w_i64 (by omega)))) ?_
        refine .cons (.plain rfl (ok_idxL (xs := X) (((((List.length (bytesI s) : Int) - 1) - i) / 4).toNat) Try.underlying23 size32 (.weak (.tmp 0 rfl) weakAppL) (.tmp 1 rfl) (by omega) (hs3))) ?_
        refine .cons (.plain rfl (ok_loadCell aggU32 (.tmp 0 rfl))) ?_
        refine .cons (.plain rfl (ok_move (.tmp 0 rfl))) ?_
        refine .cons (.plain rfl (ok_conv Try.underlying5 Try.underlying78 (r := ((bytesI s)[i.toNat]?.getD 0)) (.tmp 0 rfl) (w_u32 (by omega)))) ?_
        refine .cons (.plain rfl (ok_move (.tmp 0 rfl))) ?_
        refine .cons (.plain rfl (ok_rem (r := ((((List.length (bytesI s) : Int) - 1) - i) % 4)) (.tmp 0 rfl) (.lit) (by omega) (Int.tmod_eq_emod_of_nonneg (by omega)))) ?_
        refine .cons (.plain rfl (ok_mul (r := (((((List.length (bytesI s) : Int) - 1) - i) % 4) * 8)) (.tmp 0 rfl) (.lit) (w_i64 (by omega)))) ?_
        refine .cons (.plain rfl (ok_shl (r := (((bytesI s)[i.toNat]?.getD 0) * 256 ^ ((((List.length (bytesI s) : Int) - 1) - i) % 4).toNat)) (.tmp 0 rfl) (.tmp 1 rfl) (by omega) (by rw [Int.mul_comm ((((List.length (bytesI s) : Int) - 1) - i) % 4) 8]; exact shl_byte ((bytesI s)[i.toNat]?.getD 0) ((((List.length (bytesI s) : Int) - 1) - i) % 4) (by omega) (by omega)))) ?_
        refine .cons (.plain rfl (ok_or (r := X[((((List.length (bytesI s) : Int) - 1) - i) / 4).toNat]?.getD 0 + ((bytesI s)[i.toNat]?.getD 0) * 256 ^ ((((List.length (bytesI s) : Int) - 1) - i) % 4).toNat) (.tmp 0 rfl) (.tmp 1 rfl) hs1)) ?_
        refine .cons (.plain rfl (ok_idxR (xs := X) (((((List.length (bytesI s) : Int) - 1) - i) / 4).toNat) Try.underlying23 size32 (.tmp 0 rfl) (.tmp 1 rfl) (by omega) (hs3))) ?_
        exact .nil
      clear H16 a16 w16 B16
      intro a17 w17 B17 H17
      refine any_oneT (l' := #[true, true, true, true, true, true, true, true, true, true, true, true, true, true]) 13 (by kernel_rfl) ?_
      refine store_row (xs := X) (y := (X[((((List.length (bytesI s) : Int) - 1) - i) / 4).toNat]?.getD 0 + ((bytesI s)[i.toNat]?.getD 0) * 256 ^ ((((List.length (bytesI s) : Int) - 1) - i) % 4).toNat)) (j := (((((List.length (bytesI s) : Int) - 1) - i) / 4).toNat)) (ks := [(51, .val (Lit (.int .u32 (X[((((List.length (bytesI s) : Int) - 1) - i) / 4).toNat]?.getD 0 + ((bytesI s)[i.toNat]?.getD 0) * 256 ^ ((((List.length (bytesI s) : Int) - 1) - i) % 4).toNat)))), (28, .val (IsLb m7 .u8 (bytesI s))), (29, .val (Lit (.int .i64 (List.length (bytesI s) : Int)))), (30, .val (Lit (.int .i64 i))), (907, .val (Sz m7)), (4, .val (IsB false)), (3, .val (IsLb m7 .u8 (bytesI s))), (902, .val (Sz m2)), (2, .box 25 2 (Zero2))]) (l' := [(5, .val (IsApp g10 m7 78 .u32 (List.set X (((((List.length (bytesI s) : Int) - 1) - i) / 4).toNat) (X[((((List.length (bytesI s) : Int) - 1) - i) / 4).toNat]?.getD 0 + ((bytesI s)[i.toNat]?.getD 0) * 256 ^ ((((List.length (bytesI s) : Int) - 1) - i) % 4).toNat)))), (51, .val (Lit (.int .u32 (X[((((List.length (bytesI s) : Int) - 1) - i) / 4).toNat]?.getD 0 + ((bytesI s)[i.toNat]?.getD 0) * 256 ^ ((((List.length (bytesI s) : Int) - 1) - i) % 4).toNat)))), (28, .val (IsLb m7 .u8 (bytesI s))), (29, .val (Lit (.int .i64 (List.length (bytesI s) : Int)))), (30, .val (Lit (.int .i64 i))), (907, .val (Sz m7)), (4, .val (IsB false)), (3, .val (IsLb m7 .u8 (bytesI s))), (902, .val (Sz m2)), (2, .box 25 2 (Zero2))]) 1 5 [5] [0, 2, 3, 4, 6, 7, 8, 9, 10] H17 hm7 rfl size32 rfl (.tmp 0 rfl) rfl (hs3) rfl (.cons (kept_lit) (.cons (kept_lb (Nat.le_refl _)) (.cons (kept_lit) (.cons (kept_lit) (.cons (kept_sz) (.cons (kept_lit) (.cons (kept_lb (Nat.le_refl _)) (.cons (kept_sz) (.cons (kept_box (kept_lit)) (.nil)))))))))) (by simp) rfl ?_
      clear H17 w17
      intro w18 H18
      refine any_done (by kernel_rfl) ?_
      refine block_normal ?_
      refine then_normal ?_
      refine flow_region (dsts := [some 53]) (refs := [[.pre 4]]) (outs := [.res 0, .pre 0, .pre 2, .pre 3, .pre 4, .pre 5, .pre 6, .pre 7, .pre 8, .pre 9]) (als := [false]) (posts := [.val (Lit (.int .i64 (i + 1)))])
        (out := [(53, .val (Lit (.int .i64 (i + 1)))), (5, .val (IsApp g10 m7 78 .u32 (List.set X (((((List.length (bytesI s) : Int) - 1) - i) / 4).toNat) (X[((((List.length (bytesI s) : Int) - 1) - i) / 4).toNat]?.getD 0 + ((bytesI s)[i.toNat]?.getD 0) * 256 ^ ((((List.length (bytesI s) : Int) - 1) - i) % 4).toNat)))), (28, .val (IsLb m7 .u8 (bytesI s))), (29, .val (Lit (.int .i64 (List.length (bytesI s) : Int)))), (30, .val (Lit (.int .i64 i))), (907, .val (Sz m7)), (4, .val (IsB false)), (3, .val (IsLb m7 .u8 (bytesI s))), (902, .val (Sz m2)), (2, .box 25 2 (Zero2))]) (nb := []) H18 1 [1] rfl (by kernel_rfl) rfl rfl ?_ ?_
      · refine .cons (.plain rfl (ok_add (r := (i + 1)) (.tmp 0 rfl) (.lit) (w_i64 (by omega)))) ?_
        exact .nil
      clear H18 a17 w18 B17
      intro a19 w19 B19 H19
      refine ops_one ?_
      refine tail_op (D := .val (Lit (.int .i64 (i + 1)))) (l' := [(30, .val (Lit (.int .i64 (i + 1)))), (53, .val (Lit (.int .i64 (i + 1)))), (5, .val (IsApp g10 m7 78 .u32 (List.set X (((((List.length (bytesI s) : Int) - 1) - i) / 4).toNat) (X[((((List.length (bytesI s) : Int) - 1) - i) / 4).toNat]?.getD 0 + ((bytesI s)[i.toNat]?.getD 0) * 256 ^ ((((List.length (bytesI s) : Int) - 1) - i) % 4).toNat)))), (28, .val (IsLb m7 .u8 (bytesI s))), (29, .val (Lit (.int .i64 (List.length (bytesI s) : Int)))), (907, .val (Sz m7)), (4, .val (IsB false)), (3, .val (IsLb m7 .u8 (bytesI s))), (902, .val (Sz m2)), (2, .box 25 2 (Zero2))]) H19 rfl rfl rfl (.plain rfl (ok_move (.tmp 0 rfl))) rfl rfl ?_
      clear H19 a19 w19 B19
      intro a20 w20 B20 H20
      refine ops_done ?_
      exact ⟨⟨i + 1, List.set X (((((List.length (bytesI s) : Int) - 1) - i) / 4).toNat) (X[((((List.length (bytesI s) : Int) - 1) - i) / 4).toNat]?.getD 0 + ((bytesI s)[i.toNat]?.getD 0) * 256 ^ ((((List.length (bytesI s) : Int) - 1) - i) % 4).toNat)⟩, B20, by exact ⟨by omega, hs2⟩, St.pick H20 [3, 4, 0, 2, 5, 6, 7, 8, 9] rfl, by show ((List.length (bytesI s) : Int) - (i + 1)).toNat < ((List.length (bytesI s) : Int) - i).toNat; omega⟩
    · intro hc14
      replace hc14 := of_decide_eq_false hc14
      have hi2 : i = (List.length (bytesI s) : Int) := by omega
      have hxv : val 4294967296 X = byteV (bytesI s) := by have := hst.worth; rw [show ((List.length (bytesI s) : Int) - i).toNat = 0 by omega, Int.pow_zero, Int.one_mul, List.drop_zero] at this; exact this
      have hxd := hst.dig
      have hxl : List.length X ≤ 274877906944 := by have := hst.len; rw [List.length_reverse] at this; omega
      refine wp_exit ?_
      refine then_exit ?_
      refine then_exit ?_
      refine block_exit ?_
      refine then_normal ?_
      refine wp_seq ?_
      refine wp_seq ?_
      refine flow_region (dsts := [some 54]) (refs := [[.pre 6]]) (outs := [.res 0, .pre 1, .pre 2, .pre 3, .pre 4, .pre 5, .pre 6, .pre 7, .pre 8, .pre 9]) (als := [false]) (posts := [.val (IsB false)])
        (out := [(54, .val (IsB false)), (28, .val (IsLb m7 .u8 (bytesI s))), (29, .val (Lit (.int .i64 (List.length (bytesI s) : Int)))), (30, .val (Lit (.int .i64 i))), (5, .val (IsApp g10 m7 78 .u32 X)), (907, .val (Sz m7)), (4, .val (IsB false)), (3, .val (IsLb m7 .u8 (bytesI s))), (902, .val (Sz m2)), (2, .box 25 2 (Zero2))]) (nb := []) H13 1 [] rfl (by kernel_rfl) rfl rfl ?_ ?_
      · refine .cons (.plain rfl (ok_move (.tmp 0 rfl))) ?_
        exact .nil
      clear H13 a13 w13 B13
      intro a21 w21 B21 H21
      refine ops_done ?_
      refine then_normal ?_
      refine f_condF H21 (.tmp 0 rfl) ?_
      refine wp_skip ?_
      refine then_normal ?_
      refine wp_seq ?_
      refine flow_region (dsts := [some 58, some 59, some 60]) (refs := [[.pre 4], [.res 0], [.res 1]]) (outs := [.res 2, .pre 1, .pre 2, .pre 3, .pre 4, .pre 5, .pre 6, .pre 7, .pre 8, .pre 9]) (als := [false, false, false]) (posts := [.val (IsApp g10 m7 78 .u32 X), .val (IsC (byteV (bytesI s))), .val (IsI (byteV (bytesI s)))])
        (out := [(60, .val (IsI (byteV (bytesI s)))), (28, .val (IsLb m7 .u8 (bytesI s))), (29, .val (Lit (.int .i64 (List.length (bytesI s) : Int)))), (30, .val (Lit (.int .i64 i))), (5, .val (IsApp g10 m7 78 .u32 X)), (907, .val (Sz m7)), (4, .val (IsB false)), (3, .val (IsLb m7 .u8 (bytesI s))), (902, .val (Sz m2)), (2, .box 25 2 (Zero2))]) (nb := []) H21 3 [3] rfl (by kernel_rfl) rfl rfl ?_ ?_
      · refine .cons (.plain rfl (ok_move (.tmp 0 rfl))) ?_
        refine .cons (.plain rfl (ok_call (con_natnorm (byteV (bytesI s))) (.cons (.weak (.tmp 0 rfl) (weakAppM hxd hxv hxl)) (.nil)))) ?_
        refine .cons (.plain rfl (ok_call ((con_made 1 (byteV (bytesI s))).weak (fun v w B h => isI_eq (if_neg (by decide)) h)) (.cons (.lit) (.cons (.tmp 0 rfl) (.nil))))) ?_
        exact .nil
      clear H21 a21 w21 B21
      intro a22 w22 B22 H22
      refine ops_one ?_
      refine store_op (l' := [(60, .val (IsI (byteV (bytesI s)))), (28, .val (IsLb m7 .u8 (bytesI s))), (29, .val (Lit (.int .i64 (List.length (bytesI s) : Int)))), (30, .val (Lit (.int .i64 i))), (5, .val (IsApp g10 m7 78 .u32 X)), (907, .val (Sz m7)), (4, .val (IsB false)), (3, .val (IsLb m7 .u8 (bytesI s))), (902, .val (Sz m2)), (2, .box 25 2 (IsI (byteV (bytesI s))))]) 9 H22 rfl tyI rfl (.tmp 0 rfl) shape_Z shape_I rfl rfl ?_
      clear H22 w22
      intro w23 H23
      refine ops_done ?_
      refine then_normal ?_
      refine wp_ret ?_
      exact f_retC H23 tyI rfl 9 rfl (fun v w B h => by exact isI_eq hN h)
  · have hN := (flip_twos (bytesI s) hbD c1).1
    obtain ⟨g24, hgm24, H24⟩ := St.nameRw H3 0 rfl
    replace H24 : St 61 w0 B0 a3 w3 B3 [(3, .val (IsRw g24 m2 .u8 (bytesI s))), (902, .val (Sz m2)), (2, .box 25 2 (Zero2))] [2] := H24
    clear H3
    refine flow_region (dsts := [some 11, some 12, some 13, some 14, some 15, some 16, some 17, some 18, some 19, some 4]) (refs := [[.pre 0], [.res 0], [.res 1], [.res 2], [.res 3, .pre 0], [.res 3, .res 4], [.res 3, .res 5], [.res 3, .res 6], [.res 3, .res 7], [.res 8]]) (outs := [.res 9, .pre 0, .pre 1, .pre 2]) (als := [false, false, false, false, false, false, false, false, false, false]) (posts := [.val (IsRw g24 m2 .u8 (bytesI s)), .val (Lit (.int .i64 (List.length (bytesI s) : Int))), .val (IsB true), .val (IsB true), .val (IsRw g24 m2 .u8 (bytesI s)), .val (IsCell .u8 ((bytesI s)[0]?.getD 0)), .val (Lit (.int .u8 ((bytesI s)[0]?.getD 0))), .val (IsB true), .val (IsB true), .val (IsB true)])
      (out := [(4, .val (IsB true)), (3, .val (IsRw g24 m2 .u8 (bytesI s))), (902, .val (Sz m2)), (2, .box 25 2 (Zero2))]) (nb := []) H24 10 [] rfl (by kernel_rfl) rfl rfl ?_ ?_
    · refine .cons (.plain rfl (ok_move (.tmp 0 rfl))) ?_
      refine .cons (.plain rfl (ok_lenL Try.underlying50 (.weak (.tmp 0 rfl) weakRwL))) ?_
      refine .cons (.plain rfl (ok_cmp (b := true) (.tmp 0 rfl) (.lit) ((decide_eq_true (c0)).symm))) ?_
      refine .cons (.plain rfl (ok_move (.tmp 0 rfl))) ?_
      refine .cons (.wanted 3 true rfl rfl rfl 0 rfl (ok_move (.tmp 1 rfl))) ?_
      refine .cons (.wanted 3 true rfl rfl rfl 0 rfl (ok_idxL (xs := (bytesI s)) 0 Try.underlying50 size8 (.weak (.tmp 1 rfl) weakRwL) (.lit) (rfl) (by omega))) ?_
      refine .cons (.wanted 3 true rfl rfl rfl 0 rfl (ok_loadCell aggU8 (.tmp 1 rfl))) ?_
      refine .cons (.wanted 3 true rfl rfl rfl 0 rfl (ok_cmp (b := true) (.tmp 1 rfl) (.lit) ((decide_eq_true (c1)).symm))) ?_
      refine .cons (.plain rfl (ok_pickT (.tmp 0 rfl) (.tmp 1 rfl))) ?_
      refine .cons (.plain rfl (ok_assign (.tmp 0 rfl))) ?_
      exact .nil
    clear H24 a3 w3 B3
    intro a25 w25 B25 H25
    refine ops_done ?_
    refine then_normal ?_
    refine wp_seq ?_
    refine wp_seq ?_
    refine flow_region (dsts := [some 20]) (refs := [[.pre 0]]) (outs := [.res 0, .pre 0, .pre 1, .pre 2, .pre 3]) (als := [false]) (posts := [.val (IsB true)])
      (out := [(20, .val (IsB true)), (4, .val (IsB true)), (3, .val (IsRw g24 m2 .u8 (bytesI s))), (902, .val (Sz m2)), (2, .box 25 2 (Zero2))]) (nb := []) H25 1 [] rfl (by kernel_rfl) rfl rfl ?_ ?_
    · refine .cons (.plain rfl (ok_move (.tmp 0 rfl))) ?_
      exact .nil
    clear H25 a25 w25 B25
    intro a26 w26 B26 H26
    refine ops_done ?_
    refine then_normal ?_
    refine f_condT H26 (.tmp 0 rfl) ?_
    refine flow_region (dsts := [some 21]) (refs := [[.pre 2]]) (outs := [.res 0, .pre 1, .pre 2, .pre 3, .pre 4]) (als := [false]) (posts := [.val (IsRw g24 m2 .u8 (bytesI s))])
      (out := [(21, .val (IsRw g24 m2 .u8 (bytesI s))), (4, .val (IsB true)), (3, .val (IsRw g24 m2 .u8 (bytesI s))), (902, .val (Sz m2)), (2, .box 25 2 (Zero2))]) (nb := []) H26 1 [1] rfl (by kernel_rfl) rfl rfl ?_ ?_
    · refine .cons (.plain rfl (ok_move (.tmp 0 rfl))) ?_
      exact .nil
    clear H26 a26 w26 B26
    intro a27 w27 B27 H27
    refine ops_one ?_
    refine flip_op (xs := (bytesI s)) (ys := flipB (bytesI s)) (ks := [(4, .val (IsB true)), (902, .val (Sz m2)), (2, .box 25 2 (Zero2))]) (l' := [(3, .val (IsRw g24 m2 .u8 (flipB (bytesI s)))), (21, .val (IsRw g24 m2 .u8 (flipB (bytesI s)))), (4, .val (IsB true)), (902, .val (Sz m2)), (2, .box 25 2 (Zero2))]) [3, 21] [1, 3, 4] H27 hm2 rfl (fun _ _ => by go_simp) (.tmp 0 rfl) (fun c w h1 h2 => flipF_calls _ _ c _ w (by omega) h1 h2 hbD rfl) (flipB_length _) rfl (.cons (kept_lit) (.cons (kept_sz) (.cons (kept_box (kept_lit)) (.nil)))) (by simp) rfl rfl rfl rfl ?_
    clear H27 a27 w27 B27
    intro a28 w28 B28 H28
    refine ops_done ?_
    refine then_normal ?_
    refine wp_seq ?_
    obtain ⟨m29, hm29, hL29, H29⟩ := St.mark H28 929
    clear H28
    have H30 := St.setw H29 1 (D' := IsLb m29 .u8 (flipB (bytesI s))) rfl (fun v h => hL29 _ _ _ (weakRwL v _ _ h)) (l' := [(929, .val (Sz m29)), (3, .val (IsLb m29 .u8 (flipB (bytesI s)))), (21, .val (IsRw g24 m2 .u8 (flipB (bytesI s)))), (4, .val (IsB true)), (902, .val (Sz m2)), (2, .box 25 2 (Zero2))]) rfl
    clear H29
    clear hL29
    have dY : Dig 256 (flipB (bytesI s)) := flipB_dig _
    have hYl : List.length (flipB (bytesI s)) = s.size := by rw [flipB_length]; exact hlen
    have hY0 := byteV_nonneg (flipB (bytesI s)) dY
    refine flow_region (dsts := [some 23, some 24, some 25, some 26, some 27, some 5]) (refs := [[.pre 1], [.res 0], [.res 1], [.res 2], [.res 3, .pre 0], [.res 4]]) (outs := [.res 5, .pre 0, .pre 1, .pre 3, .pre 4, .pre 5]) (als := [false, false, false, false, false, false]) (posts := [.val (IsLb m29 .u8 (flipB (bytesI s))), .val (Lit (.int .i64 (List.length (flipB (bytesI s)) : Int))), .val (Lit (.int .i64 ((List.length (flipB (bytesI s)) : Int) + 3))), .val (Lit (.int .i64 (((List.length (flipB (bytesI s)) : Int) + 3) / 4))), .val (IsNew m29 78 .u32 (List.replicate ((List.length (flipB (bytesI s)) + 3) / 4) 0)), .val (IsNew m29 78 .u32 (List.replicate ((List.length (flipB (bytesI s)) + 3) / 4) 0))])
      (out := [(5, .val (IsNew m29 78 .u32 (List.replicate ((List.length (flipB (bytesI s)) + 3) / 4) 0))), (929, .val (Sz m29)), (3, .val (IsLb m29 .u8 (flipB (bytesI s)))), (4, .val (IsB true)), (902, .val (Sz m2)), (2, .box 25 2 (Zero2))]) (nb := []) H30 6 [] rfl (by kernel_rfl) rfl rfl ?_ ?_
    · refine .cons (.plain rfl (ok_move (.tmp 0 rfl))) ?_
      refine .cons (.plain rfl (ok_lenL Try.underlying50 (.weak (.tmp 0 rfl) weakLbL))) ?_
      refine .cons (.plain rfl (ok_add (r := ((List.length (flipB (bytesI s)) : Int) + 3)) (.tmp 0 rfl) (.lit) (w_i64 (by omega)))) ?_
      refine .cons (.plain rfl (ok_quo (r := (((List.length (flipB (bytesI s)) : Int) + 3) / 4)) (.tmp 0 rfl) (.lit) (by omega) (by rw [Int.tdiv_eq_ediv_of_nonneg (by omega)]; exact w_i64 (by omega)))) ?_
      refine .cons (.plain rfl (ok_make ((List.length (flipB (bytesI s)) + 3) / 4) 1 (.inl rfl) Try.underlying23 info_limb (by omega) (by omega) (.tmp 0 rfl) (.tmp 0 rfl) (by omega) rfl)) ?_
      refine .cons (.plain rfl (ok_assign (.tmp 0 rfl))) ?_
      exact .nil
    clear H30 a28 w28 B28
    intro a31 w31 B31 H31
    refine ops_done ?_
    refine then_normal ?_
    refine wp_seq ?_
    refine wp_seq ?_
    obtain ⟨g32, hg32, H32⟩ := St.name H31 0 rfl
    replace H32 : St 61 w0 B0 a31 w31 B31 [(5, .val (IsApp g32 m29 78 .u32 (List.replicate ((List.length (flipB (bytesI s)) + 3) / 4) 0))), (929, .val (Sz m29)), (3, .val (IsLb m29 .u8 (flipB (bytesI s)))), (4, .val (IsB true)), (902, .val (Sz m2)), (2, .box 25 2 (Zero2))] [2] := H32
    clear H31
    have hgm32 : ∀ b, g32 = some b → m29 ≤ b := fun b hb => (hg32 b hb).1
    clear hg32
    refine flow_region (dsts := [some 28, some 29, some 30]) (refs := [[.pre 2], [.res 0], []]) (outs := [.res 0, .res 1, .res 2, .pre 0, .pre 1, .pre 2, .pre 3, .pre 4, .pre 5]) (als := [false, false, false]) (posts := [.val (IsLb m29 .u8 (flipB (bytesI s))), .val (Lit (.int .i64 (List.length (flipB (bytesI s)) : Int))), .val (Lit (.int .i64 0))])
      (out := [(28, .val (IsLb m29 .u8 (flipB (bytesI s)))), (29, .val (Lit (.int .i64 (List.length (flipB (bytesI s)) : Int)))), (30, .val (Lit (.int .i64 0))), (5, .val (IsApp g32 m29 78 .u32 (List.replicate ((List.length (flipB (bytesI s)) + 3) / 4) 0))), (929, .val (Sz m29)), (3, .val (IsLb m29 .u8 (flipB (bytesI s)))), (4, .val (IsB true)), (902, .val (Sz m2)), (2, .box 25 2 (Zero2))]) (nb := []) H32 3 [] rfl (by kernel_rfl) rfl rfl ?_ ?_
    · refine .cons (.plain rfl (ok_move (.tmp 0 rfl))) ?_
      refine .cons (.plain rfl (ok_lenL Try.underlying50 (.weak (.tmp 0 rfl) weakLbL))) ?_
      refine .cons (.plain rfl (ok_move (.lit))) ?_
      exact .nil
    clear H32 a31 w31 B31
    intro a33 w33 B33 H33
    refine ops_done ?_
    refine then_normal ?_
    refine wp_block ?_
    refine f_loop (fun (⟨i, X⟩ : Int × List Int) => [(28, .val (IsLb m29 .u8 (flipB (bytesI s)))), (29, .val (Lit (.int .i64 (List.length (flipB (bytesI s)) : Int)))), (30, .val (Lit (.int .i64 i))), (5, .val (IsApp g32 m29 78 .u32 X)), (929, .val (Sz m29)), (3, .val (IsLb m29 .u8 (flipB (bytesI s)))), (4, .val (IsB true)), (902, .val (Sz m2)), (2, .box 25 2 (Zero2))]) (fun (⟨i, X⟩ : Int × List Int) => (0 ≤ i ∧ i ≤ (List.length (flipB (bytesI s)) : Int)) ∧ HS (List.reverse (flipB (bytesI s))) X ((List.length (flipB (bytesI s)) : Int) - i).toNat) (fun (⟨i, X⟩ : Int × List Int) => ((List.length (flipB (bytesI s)) : Int) - i).toNat) (⟨0, List.replicate ((List.length (flipB (bytesI s)) + 3) / 4) 0⟩) (St.pick H33 [0, 1, 2, 3, 4, 5, 6, 7, 8] rfl) (by exact ⟨by omega, by have := hs_start (List.reverse (flipB (bytesI s))); rw [List.length_reverse] at this; rw [show ((List.length (flipB (bytesI s)) : Int) - 0).toNat = List.length (flipB (bytesI s)) by omega]; exact this⟩) ?_
    clear H33 a33 w33 B33
    rintro ⟨i, X⟩ a34 w34 B34 hI34 H34
    replace hI34 : (0 ≤ i ∧ i ≤ (List.length (flipB (bytesI s)) : Int)) ∧ HS (List.reverse (flipB (bytesI s))) X ((List.length (flipB (bytesI s)) : Int) - i).toNat := hI34
    replace H34 : St 61 w0 B0 a34 w34 B34 [(28, .val (IsLb m29 .u8 (flipB (bytesI s)))), (29, .val (Lit (.int .i64 (List.length (flipB (bytesI s)) : Int)))), (30, .val (Lit (.int .i64 i))), (5, .val (IsApp g32 m29 78 .u32 X)), (929, .val (Sz m29)), (3, .val (IsLb m29 .u8 (flipB (bytesI s)))), (4, .val (IsB true)), (902, .val (Sz m2)), (2, .box 25 2 (Zero2))] [2] := H34
    obtain ⟨hi, hst⟩ := hI34
    refine wp_seq ?_
    refine flow_region (dsts := [some 31]) (refs := [[.pre 2, .pre 1]]) (outs := [.res 0, .pre 0, .pre 1, .pre 2, .pre 3, .pre 4, .pre 5, .pre 6, .pre 7, .pre 8]) (als := [false]) (posts := [.val (IsB (decide (i < (List.length (flipB (bytesI s)) : Int))))])
      (out := [(31, .val (IsB (decide (i < (List.length (flipB (bytesI s)) : Int))))), (28, .val (IsLb m29 .u8 (flipB (bytesI s)))), (29, .val (Lit (.int .i64 (List.length (flipB (bytesI s)) : Int)))), (30, .val (Lit (.int .i64 i))), (5, .val (IsApp g32 m29 78 .u32 X)), (929, .val (Sz m29)), (3, .val (IsLb m29 .u8 (flipB (bytesI s)))), (4, .val (IsB true)), (902, .val (Sz m2)), (2, .box 25 2 (Zero2))]) (nb := []) H34 1 [] rfl (by kernel_rfl) rfl rfl ?_ ?_
    · refine .cons (.plain rfl (ok_cmp (.tmp 0 rfl) (.tmp 1 rfl) rfl)) ?_
      exact .nil
    clear H34 a34 w34 B34
    intro a35 w35 B35 H35
    refine ops_done ?_
    refine then_normal ?_
    refine wp_seq ?_
    refine f_cond H35 (.tmp 0 rfl) ?_ ?_
    · intro hc36
      replace hc36 := of_decide_eq_true hc36
      refine wp_skip ?_
      refine then_normal ?_
      refine wp_seq ?_
      refine wp_block ?_
      refine wp_seq ?_
      refine flow_region (dsts := [some 32, some 33, some 34, some 6, some 7]) (refs := [[.pre 3], [.pre 1, .pre 3], [.res 1], [.res 0], [.res 2]]) (outs := [.res 3, .res 4, .pre 1, .pre 2, .pre 3, .pre 4, .pre 5, .pre 6, .pre 7, .pre 8, .pre 9]) (als := [false, false, false, false, false]) (posts := [.val (Lit (.int .i64 i)), .val (IsCell .u8 ((flipB (bytesI s))[i.toNat]?.getD 0)), .val (Lit (.int .u8 ((flipB (bytesI s))[i.toNat]?.getD 0))), .val (Lit (.int .i64 i)), .val (Lit (.int .u8 ((flipB (bytesI s))[i.toNat]?.getD 0)))])
        (out := [(6, .val (Lit (.int .i64 i))), (7, .val (Lit (.int .u8 ((flipB (bytesI s))[i.toNat]?.getD 0)))), (28, .val (IsLb m29 .u8 (flipB (bytesI s)))), (29, .val (Lit (.int .i64 (List.length (flipB (bytesI s)) : Int)))), (30, .val (Lit (.int .i64 i))), (5, .val (IsApp g32 m29 78 .u32 X)), (929, .val (Sz m29)), (3, .val (IsLb m29 .u8 (flipB (bytesI s)))), (4, .val (IsB true)), (902, .val (Sz m2)), (2, .box 25 2 (Zero2))]) (nb := []) H35 5 [] rfl (by kernel_rfl) rfl rfl ?_ ?_
      · refine .cons (.plain rfl (ok_move (.tmp 0 rfl))) ?_
        refine .cons (.plain rfl (ok_idxL (xs := (flipB (bytesI s))) i.toNat Try.underlying50 size8 (.weak (.tmp 0 rfl) weakLbL) (.tmp 1 rfl) (by omega) (by omega))) ?_
        refine .cons (.plain rfl (ok_loadCell aggU8 (.tmp 0 rfl))) ?_
        refine .cons (.plain rfl (ok_assign (.tmp 0 rfl))) ?_
        refine .cons (.plain rfl (ok_assign (.tmp 0 rfl))) ?_
        exact .nil
      clear H35 a35 w35 B35
      intro a37 w37 B37 H37
      refine ops_done ?_
      refine then_normal ?_
      refine wp_seq ?_
      obtain ⟨hs1, hs2, hs3⟩ := hs_step hi.1 hc36 dY hst
      have hcb := dY.get (by omega) i.toNat
      refine flow_region (dsts := [some 35, some 36, some 37, some 38, some 39, some 8]) (refs := [[.pre 7], [.res 0], [.res 1], [.pre 0], [.res 2, .res 3], [.res 4]]) (outs := [.res 5, .pre 1, .pre 2, .pre 3, .pre 4, .pre 5, .pre 6, .pre 7, .pre 8, .pre 9, .pre 10]) (als := [false, false, false, false, false, false]) (posts := [.val (IsLb m29 .u8 (flipB (bytesI s))), .val (Lit (.int .i64 (List.length (flipB (bytesI s)) : Int))), .val (Lit (.int .i64 ((List.length (flipB (bytesI s)) : Int) - 1))), .val (Lit (.int .i64 i)), .val (Lit (.int .i64 (((List.length (flipB (bytesI s)) : Int) - 1) - i))), .val (Lit (.int .i64 (((List.length (flipB (bytesI s)) : Int) - 1) - i)))])
        (out := [(8, .val (Lit (.int .i64 (((List.length (flipB (bytesI s)) : Int) - 1) - i)))), (7, .val (Lit (.int .u8 ((flipB (bytesI s))[i.toNat]?.getD 0)))), (28, .val (IsLb m29 .u8 (flipB (bytesI s)))), (29, .val (Lit (.int .i64 (List.length (flipB (bytesI s)) : Int)))), (30, .val (Lit (.int .i64 i))), (5, .val (IsApp g32 m29 78 .u32 X)), (929, .val (Sz m29)), (3, .val (IsLb m29 .u8 (flipB (bytesI s)))), (4, .val (IsB true)), (902, .val (Sz m2)), (2, .box 25 2 (Zero2))]) (nb := []) H37 6 [] rfl (by kernel_rfl) rfl rfl ?_ ?_
      · refine .cons (.plain rfl (ok_move (.tmp 0 rfl))) ?_
        refine .cons (.plain rfl (ok_lenL Try.underlying50 (.weak (.tmp 0 rfl) weakLbL))) ?_
        refine .cons (.plain rfl (ok_sub (r := ((List.length (flipB (bytesI s)) : Int) - 1)) (.tmp 0 rfl) (.lit) (w_i64 (by omega)))) ?_
        refine .cons (.plain rfl (ok_move (.tmp 0 rfl))) ?_
        refine .cons (.plain rfl (ok_sub (r := (((List.length (flipB (bytesI s)) : Int) - 1) - i)) (.tmp 0 rfl) (.tmp 1 rfl) (w_i64 (by omega)))) ?_
        refine .cons (.plain rfl (ok_assign (.tmp 0 rfl))) ?_
        exact .nil
      clear H37 a37 w37 B37
      intro a38 w38 B38 H38
      refine ops_done ?_
      refine then_normal ?_
      refine flow_drawT (dsts := [some 40, some 41, some 42, some 43, some 44, some 45, some 46, some 47, some 48, some 49, some 50, some 51, some 52]) (refs := [[.pre 5], [.pre 0], [.res 1], [.res 0, .res 2], [.res 3], [.pre 1], [.res 5], [.pre 0], [.res 7], [.res 8], [.res 6, .res 9], [.res 4, .res 10], [.res 0, .res 2]]) (outs := [.res 11, .res 12, .pre 2, .pre 3, .pre 4, .pre 5, .pre 6, .pre 7, .pre 8, .pre 9, .pre 10]) (als := [false, false, false, false, false, false, false, false, false, false, false, false, false]) (posts := [.val (IsApp g32 m29 78 .u32 X), .val (Lit (.int .i64 (((List.length (flipB (bytesI s)) : Int) - 1) - i))), .val (Lit (.int .i64 ((((List.length (flipB (bytesI s)) : Int) - 1) - i) / 4))), .val (IsCell .u32 (X[((((List.length (flipB (bytesI s)) : Int) - 1) - i) / 4).toNat]?.getD 0)), .val (Lit (.int .u32 (X[((((List.length (flipB (bytesI s)) : Int) - 1) - i) / 4).toNat]?.getD 0))), .val (Lit (.int .u8 ((flipB (bytesI s))[i.toNat]?.getD 0))), .val (Lit (.int .u32 ((flipB (bytesI s))[i.toNat]?.getD 0))), .val (Lit (.int .i64 (((List.length (flipB (bytesI s)) : Int) - 1) - i))), .val (Lit (.int .i64 ((((List.length (flipB (bytesI s)) : Int) - 1) - i) % 4))), .val (Lit (.int .i64 (((((List.length (flipB (bytesI s)) : Int) - 1) - i) % 4) * 8))), .val (Lit (.int .u32 (((flipB (bytesI s))[i.toNat]?.getD 0) * 256 ^ ((((List.length (flipB (bytesI s)) : Int) - 1) - i) % 4).toNat))), .val (Lit (.int .u32 (X[((((List.length (flipB (bytesI s)) : Int) - 1) - i) / 4).toNat]?.getD 0 + ((flipB (bytesI s))[i.toNat]?.getD 0) * 256 ^ ((((List.length (flipB (bytesI s)) : Int) - 1) - i) % 4).toNat))), .val (IsAt g32 (((((List.length (flipB (bytesI s)) : Int) - 1) - i) / 4).toNat))])
        (out := [(51, .val (Lit (.int .u32 (X[((((List.length (flipB (bytesI s)) : Int) - 1) - i) / 4).toNat]?.getD 0 + ((flipB (bytesI s))[i.toNat]?.getD 0) * 256 ^ ((((List.length (flipB (bytesI s)) : Int) - 1) - i) % 4).toNat)))), (52, .val (IsAt g32 (((((List.length (flipB (bytesI s)) : Int) - 1) - i) / 4).toNat))), (28, .val (IsLb m29 .u8 (flipB (bytesI s)))), (29, .val (Lit (.int .i64 (List.length (flipB (bytesI s)) : Int)))), (30, .val (Lit (.int .i64 i))), (5, .val (IsApp g32 m29 78 .u32 X)), (929, .val (Sz m29)), (3, .val (IsLb m29 .u8 (flipB (bytesI s)))), (4, .val (IsB true)), (902, .val (Sz m2)), (2, .box 25 2 (Zero2))]) (nb := []) H38 (by kernel_rfl) 13 1 #[true, true, true, true, true, true, true, true, true, true, true, true, true, false] (by kernel_rfl) (by kernel_rfl) rfl rfl ?_ ?_
      · refine .cons (.plain rfl (ok_move (.tmp 0 rfl))) ?_
        refine .cons (.plain rfl (ok_move (.tmp 0 rfl))) ?_
        refine .cons (.plain rfl (ok_quo (r := ((((List.length (flipB (bytesI s)) : Int) - 1) - i) / 4)) (.tmp 0 rfl) (.lit) (by omega) (by rw [Int.tdiv_eq_ediv_of_nonneg (by omega)]; exact w_i64 (by omega)))) ?_
        refine .cons (.plain rfl (ok_idxL (xs := X) (((((List.length (flipB (bytesI s)) : Int) - 1) - i) / 4).toNat) Try.underlying23 size32 (.weak (.tmp 0 rfl) weakAppL) (.tmp 1 rfl) (by omega) (hs3))) ?_
        refine .cons (.plain rfl (ok_loadCell aggU32 (.tmp 0 rfl))) ?_
        refine .cons (.plain rfl (ok_move (.tmp 0 rfl))) ?_
        refine .cons (.plain rfl (ok_conv Try.underlying5 Try.underlying78 (r := ((flipB (bytesI s))[i.toNat]?.getD 0)) (.tmp 0 rfl) (w_u32 (by omega)))) ?_
        refine .cons (.plain rfl (ok_move (.tmp 0 rfl))) ?_
        refine .cons (.plain rfl (ok_rem (r := ((((List.length (flipB (bytesI s)) : Int) - 1) - i) % 4)) (.tmp 0 rfl) (.lit) (by omega) (Int.tmod_eq_emod_of_nonneg (by omega)))) ?_
        refine .cons (.plain rfl (ok_mul (r := (((((List.length (flipB (bytesI s)) : Int) - 1) - i) % 4) * 8)) (.tmp 0 rfl) (.lit) (w_i64 (by omega)))) ?_
        refine .cons (.plain rfl (ok_shl (r := (((flipB (bytesI s))[i.toNat]?.getD 0) * 256 ^ ((((List.length (flipB (bytesI s)) : Int) - 1) - i) % 4).toNat)) (.tmp 0 rfl) (.tmp 1 rfl) (by omega) (by rw [Int.mul_comm ((((List.length (flipB (bytesI s)) : Int) - 1) - i) % 4) 8]; exact shl_byte ((flipB (bytesI s))[i.toNat]?.getD 0) ((((List.length (flipB (bytesI s)) : Int) - 1) - i) % 4) (by omega) (by omega)))) ?_
        refine .cons (.plain rfl (ok_or (r := X[((((List.length (flipB (bytesI s)) : Int) - 1) - i) / 4).toNat]?.getD 0 + ((flipB (bytesI s))[i.toNat]?.getD 0) * 256 ^ ((((List.length (flipB (bytesI s)) : Int) - 1) - i) % 4).toNat) (.tmp 0 rfl) (.tmp 1 rfl) hs1)) ?_
        refine .cons (.plain rfl (ok_idxR (xs := X) (((((List.length (flipB (bytesI s)) : Int) - 1) - i) / 4).toNat) Try.underlying23 size32 (.tmp 0 rfl) (.tmp 1 rfl) (by omega) (hs3))) ?_
        exact .nil
      clear H38 a38 w38 B38
      intro a39 w39 B39 H39
      refine any_oneT (l' := #[true, true, true, true, true, true, true, true, true, true, true, true, true, true]) 13 (by kernel_rfl) ?_
      refine store_row (xs := X) (y := (X[((((List.length (flipB (bytesI s)) : Int) - 1) - i) / 4).toNat]?.getD 0 + ((flipB (bytesI s))[i.toNat]?.getD 0) * 256 ^ ((((List.length (flipB (bytesI s)) : Int) - 1) - i) % 4).toNat)) (j := (((((List.length (flipB (bytesI s)) : Int) - 1) - i) / 4).toNat)) (ks := [(51, .val (Lit (.int .u32 (X[((((List.length (flipB (bytesI s)) : Int) - 1) - i) / 4).toNat]?.getD 0 + ((flipB (bytesI s))[i.toNat]?.getD 0) * 256 ^ ((((List.length (flipB (bytesI s)) : Int) - 1) - i) % 4).toNat)))), (28, .val (IsLb m29 .u8 (flipB (bytesI s)))), (29, .val (Lit (.int .i64 (List.length (flipB (bytesI s)) : Int)))), (30, .val (Lit (.int .i64 i))), (929, .val (Sz m29)), (3, .val (IsLb m29 .u8 (flipB (bytesI s)))), (4, .val (IsB true)), (902, .val (Sz m2)), (2, .box 25 2 (Zero2))]) (l' := [(5, .val (IsApp g32 m29 78 .u32 (List.set X (((((List.length (flipB (bytesI s)) : Int) - 1) - i) / 4).toNat) (X[((((List.length (flipB (bytesI s)) : Int) - 1) - i) / 4).toNat]?.getD 0 + ((flipB (bytesI s))[i.toNat]?.getD 0) * 256 ^ ((((List.length (flipB (bytesI s)) : Int) - 1) - i) % 4).toNat)))), (51, .val (Lit (.int .u32 (X[((((List.length (flipB (bytesI s)) : Int) - 1) - i) / 4).toNat]?.getD 0 + ((flipB (bytesI s))[i.toNat]?.getD 0) * 256 ^ ((((List.length (flipB (bytesI s)) : Int) - 1) - i) % 4).toNat)))), (28, .val (IsLb m29 .u8 (flipB (bytesI s)))), (29, .val (Lit (.int .i64 (List.length (flipB (bytesI s)) : Int)))), (30, .val (Lit (.int .i64 i))), (929, .val (Sz m29)), (3, .val (IsLb m29 .u8 (flipB (bytesI s)))), (4, .val (IsB true)), (902, .val (Sz m2)), (2, .box 25 2 (Zero2))]) 1 5 [5] [0, 2, 3, 4, 6, 7, 8, 9, 10] H39 hm29 rfl size32 rfl (.tmp 0 rfl) rfl (hs3) rfl (.cons (kept_lit) (.cons (kept_lb (Nat.le_refl _)) (.cons (kept_lit) (.cons (kept_lit) (.cons (kept_sz) (.cons (kept_lb (Nat.le_refl _)) (.cons (kept_lit) (.cons (kept_sz) (.cons (kept_box (kept_lit)) (.nil)))))))))) (by simp) rfl ?_
      clear H39 w39
      intro w40 H40
      refine any_done (by kernel_rfl) ?_
      refine block_normal ?_
      refine then_normal ?_
      refine flow_region (dsts := [some 53]) (refs := [[.pre 4]]) (outs := [.res 0, .pre 0, .pre 2, .pre 3, .pre 4, .pre 5, .pre 6, .pre 7, .pre 8, .pre 9]) (als := [false]) (posts := [.val (Lit (.int .i64 (i + 1)))])
        (out := [(53, .val (Lit (.int .i64 (i + 1)))), (5, .val (IsApp g32 m29 78 .u32 (List.set X (((((List.length (flipB (bytesI s)) : Int) - 1) - i) / 4).toNat) (X[((((List.length (flipB (bytesI s)) : Int) - 1) - i) / 4).toNat]?.getD 0 + ((flipB (bytesI s))[i.toNat]?.getD 0) * 256 ^ ((((List.length (flipB (bytesI s)) : Int) - 1) - i) % 4).toNat)))), (28, .val (IsLb m29 .u8 (flipB (bytesI s)))), (29, .val (Lit (.int .i64 (List.length (flipB (bytesI s)) : Int)))), (30, .val (Lit (.int .i64 i))), (929, .val (Sz m29)), (3, .val (IsLb m29 .u8 (flipB (bytesI s)))), (4, .val (IsB true)), (902, .val (Sz m2)), (2, .box 25 2 (Zero2))]) (nb := []) H40 1 [1] rfl (by kernel_rfl) rfl rfl ?_ ?_
      · refine .cons (.plain rfl (ok_add (r := (i + 1)) (.tmp 0 rfl) (.lit) (w_i64 (by omega)))) ?_
        exact .nil
      clear H40 a39 w40 B39
      intro a41 w41 B41 H41
      refine ops_one ?_
      refine tail_op (D := .val (Lit (.int .i64 (i + 1)))) (l' := [(30, .val (Lit (.int .i64 (i + 1)))), (53, .val (Lit (.int .i64 (i + 1)))), (5, .val (IsApp g32 m29 78 .u32 (List.set X (((((List.length (flipB (bytesI s)) : Int) - 1) - i) / 4).toNat) (X[((((List.length (flipB (bytesI s)) : Int) - 1) - i) / 4).toNat]?.getD 0 + ((flipB (bytesI s))[i.toNat]?.getD 0) * 256 ^ ((((List.length (flipB (bytesI s)) : Int) - 1) - i) % 4).toNat)))), (28, .val (IsLb m29 .u8 (flipB (bytesI s)))), (29, .val (Lit (.int .i64 (List.length (flipB (bytesI s)) : Int)))), (929, .val (Sz m29)), (3, .val (IsLb m29 .u8 (flipB (bytesI s)))), (4, .val (IsB true)), (902, .val (Sz m2)), (2, .box 25 2 (Zero2))]) H41 rfl rfl rfl (.plain rfl (ok_move (.tmp 0 rfl))) rfl rfl ?_
      clear H41 a41 w41 B41
      intro a42 w42 B42 H42
      refine ops_done ?_
      exact ⟨⟨i + 1, List.set X (((((List.length (flipB (bytesI s)) : Int) - 1) - i) / 4).toNat) (X[((((List.length (flipB (bytesI s)) : Int) - 1) - i) / 4).toNat]?.getD 0 + ((flipB (bytesI s))[i.toNat]?.getD 0) * 256 ^ ((((List.length (flipB (bytesI s)) : Int) - 1) - i) % 4).toNat)⟩, B42, by exact ⟨by omega, hs2⟩, St.pick H42 [3, 4, 0, 2, 5, 6, 7, 8, 9] rfl, by show ((List.length (flipB (bytesI s)) : Int) - (i + 1)).toNat < ((List.length (flipB (bytesI s)) : Int) - i).toNat; omega⟩
    · intro hc36
      replace hc36 := of_decide_eq_false hc36
      have hi2 : i = (List.length (flipB (bytesI s)) : Int) := by omega
      have hxv : val 4294967296 X = byteV (flipB (bytesI s)) := by have := hst.worth; rw [show ((List.length (flipB (bytesI s)) : Int) - i).toNat = 0 by omega, Int.pow_zero, Int.one_mul, List.drop_zero] at this; exact this
      have hxd := hst.dig
      have hxl : List.length X ≤ 274877906944 := by have := hst.len; rw [List.length_reverse] at this; omega
      refine wp_exit ?_
      refine then_exit ?_
      refine then_exit ?_
      refine block_exit ?_
      refine then_normal ?_
      refine wp_seq ?_
      refine wp_seq ?_
      refine flow_region (dsts := [some 54]) (refs := [[.pre 7]]) (outs := [.res 0, .pre 1, .pre 2, .pre 3, .pre 4, .pre 5, .pre 6, .pre 7, .pre 8, .pre 9]) (als := [false]) (posts := [.val (IsB true)])
        (out := [(54, .val (IsB true)), (28, .val (IsLb m29 .u8 (flipB (bytesI s)))), (29, .val (Lit (.int .i64 (List.length (flipB (bytesI s)) : Int)))), (30, .val (Lit (.int .i64 i))), (5, .val (IsApp g32 m29 78 .u32 X)), (929, .val (Sz m29)), (3, .val (IsLb m29 .u8 (flipB (bytesI s)))), (4, .val (IsB true)), (902, .val (Sz m2)), (2, .box 25 2 (Zero2))]) (nb := []) H35 1 [] rfl (by kernel_rfl) rfl rfl ?_ ?_
      · refine .cons (.plain rfl (ok_move (.tmp 0 rfl))) ?_
        exact .nil
      clear H35 a35 w35 B35
      intro a43 w43 B43 H43
      refine ops_done ?_
      refine then_normal ?_
      refine f_condT H43 (.tmp 0 rfl) ?_
      refine wp_seq ?_
      refine flow_region (dsts := [some 55, some 56, some 57]) (refs := [[.pre 4], [.res 0], [.res 1]]) (outs := [.res 2, .pre 1, .pre 2, .pre 3, .pre 4, .pre 5, .pre 6, .pre 7, .pre 8, .pre 9]) (als := [false, false, false]) (posts := [.val (IsApp g32 m29 78 .u32 X), .val (IsC (byteV (flipB (bytesI s)))), .val (IsI (-(byteV (flipB (bytesI s)))))])
        (out := [(57, .val (IsI (-(byteV (flipB (bytesI s)))))), (28, .val (IsLb m29 .u8 (flipB (bytesI s)))), (29, .val (Lit (.int .i64 (List.length (flipB (bytesI s)) : Int)))), (30, .val (Lit (.int .i64 i))), (5, .val (IsApp g32 m29 78 .u32 X)), (929, .val (Sz m29)), (3, .val (IsLb m29 .u8 (flipB (bytesI s)))), (4, .val (IsB true)), (902, .val (Sz m2)), (2, .box 25 2 (Zero2))]) (nb := []) H43 3 [3] rfl (by kernel_rfl) rfl rfl ?_ ?_
      · refine .cons (.plain rfl (ok_move (.tmp 0 rfl))) ?_
        refine .cons (.plain rfl (ok_call (con_natnorm (byteV (flipB (bytesI s)))) (.cons (.weak (.tmp 0 rfl) (weakAppM hxd hxv hxl)) (.nil)))) ?_
        refine .cons (.plain rfl (ok_call ((con_made (-1) (byteV (flipB (bytesI s)))).weak (fun v w B h => isI_eq (if_pos rfl) h)) (.cons (.lit) (.cons (.tmp 0 rfl) (.nil))))) ?_
        exact .nil
      clear H43 a43 w43 B43
      intro a44 w44 B44 H44
      refine ops_one ?_
      refine store_op (l' := [(57, .val (IsI (-(byteV (flipB (bytesI s)))))), (28, .val (IsLb m29 .u8 (flipB (bytesI s)))), (29, .val (Lit (.int .i64 (List.length (flipB (bytesI s)) : Int)))), (30, .val (Lit (.int .i64 i))), (5, .val (IsApp g32 m29 78 .u32 X)), (929, .val (Sz m29)), (3, .val (IsLb m29 .u8 (flipB (bytesI s)))), (4, .val (IsB true)), (902, .val (Sz m2)), (2, .box 25 2 (IsI (-(byteV (flipB (bytesI s))))))]) 9 H44 rfl tyI rfl (.tmp 0 rfl) shape_Z shape_I rfl rfl ?_
      clear H44 w44
      intro w45 H45
      refine ops_done ?_
      refine then_normal ?_
      refine wp_ret ?_
      refine then_ret ?_
      exact f_retC H45 tyI rfl 9 rfl (fun v w B h => by exact isI_eq hN h)
  · have hN : byteV (bytesI s) = twosNum (bytesI s) := by unfold twosNum; rw [if_neg c1]
    obtain ⟨g46, hgm46, H46⟩ := St.nameRw H3 0 rfl
    replace H46 : St 61 w0 B0 a3 w3 B3 [(3, .val (IsRw g46 m2 .u8 (bytesI s))), (902, .val (Sz m2)), (2, .box 25 2 (Zero2))] [2] := H46
    clear H3
    refine flow_region (dsts := [some 11, some 12, some 13, some 14, some 15, some 16, some 17, some 18, some 19, some 4]) (refs := [[.pre 0], [.res 0], [.res 1], [.res 2], [.res 3, .pre 0], [.res 3, .res 4], [.res 3, .res 5], [.res 3, .res 6], [.res 3, .res 7], [.res 8]]) (outs := [.res 9, .pre 0, .pre 1, .pre 2]) (als := [false, false, false, false, false, false, false, false, false, false]) (posts := [.val (IsRw g46 m2 .u8 (bytesI s)), .val (Lit (.int .i64 (List.length (bytesI s) : Int))), .val (IsB true), .val (IsB true), .val (IsRw g46 m2 .u8 (bytesI s)), .val (IsCell .u8 ((bytesI s)[0]?.getD 0)), .val (Lit (.int .u8 ((bytesI s)[0]?.getD 0))), .val (IsB false), .val (IsB false), .val (IsB false)])
      (out := [(4, .val (IsB false)), (3, .val (IsRw g46 m2 .u8 (bytesI s))), (902, .val (Sz m2)), (2, .box 25 2 (Zero2))]) (nb := []) H46 10 [] rfl (by kernel_rfl) rfl rfl ?_ ?_
    · refine .cons (.plain rfl (ok_move (.tmp 0 rfl))) ?_
      refine .cons (.plain rfl (ok_lenL Try.underlying50 (.weak (.tmp 0 rfl) weakRwL))) ?_
      refine .cons (.plain rfl (ok_cmp (b := true) (.tmp 0 rfl) (.lit) ((decide_eq_true (c0)).symm))) ?_
      refine .cons (.plain rfl (ok_move (.tmp 0 rfl))) ?_
      refine .cons (.wanted 3 true rfl rfl rfl 0 rfl (ok_move (.tmp 1 rfl))) ?_
      refine .cons (.wanted 3 true rfl rfl rfl 0 rfl (ok_idxL (xs := (bytesI s)) 0 Try.underlying50 size8 (.weak (.tmp 1 rfl) weakRwL) (.lit) (rfl) (by omega))) ?_
      refine .cons (.wanted 3 true rfl rfl rfl 0 rfl (ok_loadCell aggU8 (.tmp 1 rfl))) ?_
      refine .cons (.wanted 3 true rfl rfl rfl 0 rfl (ok_cmp (b := false) (.tmp 1 rfl) (.lit) ((decide_eq_false (c1)).symm))) ?_
      refine .cons (.plain rfl (ok_pickT (.tmp 0 rfl) (.tmp 1 rfl))) ?_
      refine .cons (.plain rfl (ok_assign (.tmp 0 rfl))) ?_
      exact .nil
    clear H46 a3 w3 B3
    intro a47 w47 B47 H47
    refine ops_done ?_
    refine then_normal ?_
    refine wp_seq ?_
    refine wp_seq ?_
    refine flow_region (dsts := [some 20]) (refs := [[.pre 0]]) (outs := [.res 0, .pre 0, .pre 1, .pre 2, .pre 3]) (als := [false]) (posts := [.val (IsB false)])
      (out := [(20, .val (IsB false)), (4, .val (IsB false)), (3, .val (IsRw g46 m2 .u8 (bytesI s))), (902, .val (Sz m2)), (2, .box 25 2 (Zero2))]) (nb := []) H47 1 [] rfl (by kernel_rfl) rfl rfl ?_ ?_
    · refine .cons (.plain rfl (ok_move (.tmp 0 rfl))) ?_
      exact .nil
    clear H47 a47 w47 B47
    intro a48 w48 B48 H48
    refine ops_done ?_
    refine then_normal ?_
    refine f_condF H48 (.tmp 0 rfl) ?_
    refine wp_skip ?_
    refine then_normal ?_
    refine wp_seq ?_
    obtain ⟨m49, hm49, hL49, H49⟩ := St.mark H48 949
    clear H48
    have H50 := St.setw H49 3 (D' := IsLb m49 .u8 (bytesI s)) rfl (fun v h => hL49 _ _ _ (weakRwL v _ _ h)) (l' := [(949, .val (Sz m49)), (20, .val (IsB false)), (4, .val (IsB false)), (3, .val (IsLb m49 .u8 (bytesI s))), (902, .val (Sz m2)), (2, .box 25 2 (Zero2))]) rfl
    clear H49
    clear hL49
    have dY : Dig 256 (bytesI s) := hbD
    have hYl : List.length (bytesI s) = s.size := hlen
    have hY0 := byteV_nonneg (bytesI s) dY
    refine flow_region (dsts := [some 23, some 24, some 25, some 26, some 27, some 5]) (refs := [[.pre 3], [.res 0], [.res 1], [.res 2], [.res 3, .pre 0], [.res 4]]) (outs := [.res 5, .pre 0, .pre 2, .pre 3, .pre 4, .pre 5]) (als := [false, false, false, false, false, false]) (posts := [.val (IsLb m49 .u8 (bytesI s)), .val (Lit (.int .i64 (List.length (bytesI s) : Int))), .val (Lit (.int .i64 ((List.length (bytesI s) : Int) + 3))), .val (Lit (.int .i64 (((List.length (bytesI s) : Int) + 3) / 4))), .val (IsNew m49 78 .u32 (List.replicate ((List.length (bytesI s) + 3) / 4) 0)), .val (IsNew m49 78 .u32 (List.replicate ((List.length (bytesI s) + 3) / 4) 0))])
      (out := [(5, .val (IsNew m49 78 .u32 (List.replicate ((List.length (bytesI s) + 3) / 4) 0))), (949, .val (Sz m49)), (4, .val (IsB false)), (3, .val (IsLb m49 .u8 (bytesI s))), (902, .val (Sz m2)), (2, .box 25 2 (Zero2))]) (nb := []) H50 6 [] rfl (by kernel_rfl) rfl rfl ?_ ?_
    · refine .cons (.plain rfl (ok_move (.tmp 0 rfl))) ?_
      refine .cons (.plain rfl (ok_lenL Try.underlying50 (.weak (.tmp 0 rfl) weakLbL))) ?_
      refine .cons (.plain rfl (ok_add (r := ((List.length (bytesI s) : Int) + 3)) (.tmp 0 rfl) (.lit) (w_i64 (by omega)))) ?_
      refine .cons (.plain rfl (ok_quo (r := (((List.length (bytesI s) : Int) + 3) / 4)) (.tmp 0 rfl) (.lit) (by omega) (by rw [Int.tdiv_eq_ediv_of_nonneg (by omega)]; exact w_i64 (by omega)))) ?_
      refine .cons (.plain rfl (ok_make ((List.length (bytesI s) + 3) / 4) 1 (.inl rfl) Try.underlying23 info_limb (by omega) (by omega) (.tmp 0 rfl) (.tmp 0 rfl) (by omega) rfl)) ?_
      refine .cons (.plain rfl (ok_assign (.tmp 0 rfl))) ?_
      exact .nil
    clear H50 a48 w48 B48
    intro a51 w51 B51 H51
    refine ops_done ?_
    refine then_normal ?_
    refine wp_seq ?_
    refine wp_seq ?_
    obtain ⟨g52, hg52, H52⟩ := St.name H51 0 rfl
    replace H52 : St 61 w0 B0 a51 w51 B51 [(5, .val (IsApp g52 m49 78 .u32 (List.replicate ((List.length (bytesI s) + 3) / 4) 0))), (949, .val (Sz m49)), (4, .val (IsB false)), (3, .val (IsLb m49 .u8 (bytesI s))), (902, .val (Sz m2)), (2, .box 25 2 (Zero2))] [2] := H52
    clear H51
    have hgm52 : ∀ b, g52 = some b → m49 ≤ b := fun b hb => (hg52 b hb).1
    clear hg52
    refine flow_region (dsts := [some 28, some 29, some 30]) (refs := [[.pre 3], [.res 0], []]) (outs := [.res 0, .res 1, .res 2, .pre 0, .pre 1, .pre 2, .pre 3, .pre 4, .pre 5]) (als := [false, false, false]) (posts := [.val (IsLb m49 .u8 (bytesI s)), .val (Lit (.int .i64 (List.length (bytesI s) : Int))), .val (Lit (.int .i64 0))])
      (out := [(28, .val (IsLb m49 .u8 (bytesI s))), (29, .val (Lit (.int .i64 (List.length (bytesI s) : Int)))), (30, .val (Lit (.int .i64 0))), (5, .val (IsApp g52 m49 78 .u32 (List.replicate ((List.length (bytesI s) + 3) / 4) 0))), (949, .val (Sz m49)), (4, .val (IsB false)), (3, .val (IsLb m49 .u8 (bytesI s))), (902, .val (Sz m2)), (2, .box 25 2 (Zero2))]) (nb := []) H52 3 [] rfl (by kernel_rfl) rfl rfl ?_ ?_
    · refine .cons (.plain rfl (ok_move (.tmp 0 rfl))) ?_
      refine .cons (.plain rfl (ok_lenL Try.underlying50 (.weak (.tmp 0 rfl) weakLbL))) ?_
      refine .cons (.plain rfl (ok_move (.lit))) ?_
      exact .nil
    clear H52 a51 w51 B51
    intro a53 w53 B53 H53
    refine ops_done ?_
    refine then_normal ?_
    refine wp_block ?_
    refine f_loop (fun (⟨i, X⟩ : Int × List Int) => [(28, .val (IsLb m49 .u8 (bytesI s))), (29, .val (Lit (.int .i64 (List.length (bytesI s) : Int)))), (30, .val (Lit (.int .i64 i))), (5, .val (IsApp g52 m49 78 .u32 X)), (949, .val (Sz m49)), (4, .val (IsB false)), (3, .val (IsLb m49 .u8 (bytesI s))), (902, .val (Sz m2)), (2, .box 25 2 (Zero2))]) (fun (⟨i, X⟩ : Int × List Int) => (0 ≤ i ∧ i ≤ (List.length (bytesI s) : Int)) ∧ HS (List.reverse (bytesI s)) X ((List.length (bytesI s) : Int) - i).toNat) (fun (⟨i, X⟩ : Int × List Int) => ((List.length (bytesI s) : Int) - i).toNat) (⟨0, List.replicate ((List.length (bytesI s) + 3) / 4) 0⟩) (St.pick H53 [0, 1, 2, 3, 4, 5, 6, 7, 8] rfl) (by exact ⟨by omega, by have := hs_start (List.reverse (bytesI s)); rw [List.length_reverse] at this; rw [show ((List.length (bytesI s) : Int) - 0).toNat = List.length (bytesI s) by omega]; exact this⟩) ?_
    clear H53 a53 w53 B53
    rintro ⟨i, X⟩ a54 w54 B54 hI54 H54
    replace hI54 : (0 ≤ i ∧ i ≤ (List.length (bytesI s) : Int)) ∧ HS (List.reverse (bytesI s)) X ((List.length (bytesI s) : Int) - i).toNat := hI54
    replace H54 : St 61 w0 B0 a54 w54 B54 [(28, .val (IsLb m49 .u8 (bytesI s))), (29, .val (Lit (.int .i64 (List.length (bytesI s) : Int)))), (30, .val (Lit (.int .i64 i))), (5, .val (IsApp g52 m49 78 .u32 X)), (949, .val (Sz m49)), (4, .val (IsB false)), (3, .val (IsLb m49 .u8 (bytesI s))), (902, .val (Sz m2)), (2, .box 25 2 (Zero2))] [2] := H54
    obtain ⟨hi, hst⟩ := hI54
    refine wp_seq ?_
    refine flow_region (dsts := [some 31]) (refs := [[.pre 2, .pre 1]]) (outs := [.res 0, .pre 0, .pre 1, .pre 2, .pre 3, .pre 4, .pre 5, .pre 6, .pre 7, .pre 8]) (als := [false]) (posts := [.val (IsB (decide (i < (List.length (bytesI s) : Int))))])
      (out := [(31, .val (IsB (decide (i < (List.length (bytesI s) : Int))))), (28, .val (IsLb m49 .u8 (bytesI s))), (29, .val (Lit (.int .i64 (List.length (bytesI s) : Int)))), (30, .val (Lit (.int .i64 i))), (5, .val (IsApp g52 m49 78 .u32 X)), (949, .val (Sz m49)), (4, .val (IsB false)), (3, .val (IsLb m49 .u8 (bytesI s))), (902, .val (Sz m2)), (2, .box 25 2 (Zero2))]) (nb := []) H54 1 [] rfl (by kernel_rfl) rfl rfl ?_ ?_
    · refine .cons (.plain rfl (ok_cmp (.tmp 0 rfl) (.tmp 1 rfl) rfl)) ?_
      exact .nil
    clear H54 a54 w54 B54
    intro a55 w55 B55 H55
    refine ops_done ?_
    refine then_normal ?_
    refine wp_seq ?_
    refine f_cond H55 (.tmp 0 rfl) ?_ ?_
    · intro hc56
      replace hc56 := of_decide_eq_true hc56
      refine wp_skip ?_
      refine then_normal ?_
      refine wp_seq ?_
      refine wp_block ?_
      refine wp_seq ?_
      refine flow_region (dsts := [some 32, some 33, some 34, some 6, some 7]) (refs := [[.pre 3], [.pre 1, .pre 3], [.res 1], [.res 0], [.res 2]]) (outs := [.res 3, .res 4, .pre 1, .pre 2, .pre 3, .pre 4, .pre 5, .pre 6, .pre 7, .pre 8, .pre 9]) (als := [false, false, false, false, false]) (posts := [.val (Lit (.int .i64 i)), .val (IsCell .u8 ((bytesI s)[i.toNat]?.getD 0)), .val (Lit (.int .u8 ((bytesI s)[i.toNat]?.getD 0))), .val (Lit (.int .i64 i)), .val (Lit (.int .u8 ((bytesI s)[i.toNat]?.getD 0)))])
        (out := [(6, .val (Lit (.int .i64 i))), (7, .val (Lit (.int .u8 ((bytesI s)[i.toNat]?.getD 0)))), (28, .val (IsLb m49 .u8 (bytesI s))), (29, .val (Lit (.int .i64 (List.length (bytesI s) : Int)))), (30, .val (Lit (.int .i64 i))), (5, .val (IsApp g52 m49 78 .u32 X)), (949, .val (Sz m49)), (4, .val (IsB false)), (3, .val (IsLb m49 .u8 (bytesI s))), (902, .val (Sz m2)), (2, .box 25 2 (Zero2))]) (nb := []) H55 5 [] rfl (by kernel_rfl) rfl rfl ?_ ?_
      · refine .cons (.plain rfl (ok_move (.tmp 0 rfl))) ?_
        refine .cons (.plain rfl (ok_idxL (xs := (bytesI s)) i.toNat Try.underlying50 size8 (.weak (.tmp 0 rfl) weakLbL) (.tmp 1 rfl) (by omega) (by omega))) ?_
        refine .cons (.plain rfl (ok_loadCell aggU8 (.tmp 0 rfl))) ?_
        refine .cons (.plain rfl (ok_assign (.tmp 0 rfl))) ?_
        refine .cons (.plain rfl (ok_assign (.tmp 0 rfl))) ?_
        exact .nil
      clear H55 a55 w55 B55
      intro a57 w57 B57 H57
      refine ops_done ?_
      refine then_normal ?_
      refine wp_seq ?_
      obtain ⟨hs1, hs2, hs3⟩ := hs_step hi.1 hc56 dY hst
      have hcb := dY.get (by omega) i.toNat
      refine flow_region (dsts := [some 35, some 36, some 37, some 38, some 39, some 8]) (refs := [[.pre 8], [.res 0], [.res 1], [.pre 0], [.res 2, .res 3], [.res 4]]) (outs := [.res 5, .pre 1, .pre 2, .pre 3, .pre 4, .pre 5, .pre 6, .pre 7, .pre 8, .pre 9, .pre 10]) (als := [false, false, false, false, false, false]) (posts := [.val (IsLb m49 .u8 (bytesI s)), .val (Lit (.int .i64 (List.length (bytesI s) : Int))), .val (Lit (.int .i64 ((List.length (bytesI s) : Int) - 1))), .val (Lit (.int .i64 i)), .val (Lit (.int .i64 (((List.length (bytesI s) : Int) - 1) - i))), .val (Lit (.int .i64 (((List.length (bytesI s) : Int) - 1) - i)))])
        (out := [(8, .val (Lit (.int .i64 (((List.length (bytesI s) : Int) - 1) - i)))), (7, .val (Lit (.int .u8 ((bytesI s)[i.toNat]?.getD 0)))), (28, .val (IsLb m49 .u8 (bytesI s))), (29, .val (Lit (.int .i64 (List.length (bytesI s) : Int)))), (30, .val (Lit (.int .i64 i))), (5, .val (IsApp g52 m49 78 .u32 X)), (949, .val (Sz m49)), (4, .val (IsB false)), (3, .val (IsLb m49 .u8 (bytesI s))), (902, .val (Sz m2)), (2, .box 25 2 (Zero2))]) (nb := []) H57 6 [] rfl (by kernel_rfl) rfl rfl ?_ ?_
      · refine .cons (.plain rfl (ok_move (.tmp 0 rfl))) ?_
        refine .cons (.plain rfl (ok_lenL Try.underlying50 (.weak (.tmp 0 rfl) weakLbL))) ?_
        refine .cons (.plain rfl (ok_sub (r := ((List.length (bytesI s) : Int) - 1)) (.tmp 0 rfl) (.lit) (w_i64 (by omega)))) ?_
        refine .cons (.plain rfl (ok_move (.tmp 0 rfl))) ?_
        refine .cons (.plain rfl (ok_sub (r := (((List.length (bytesI s) : Int) - 1) - i)) (.tmp 0 rfl) (.tmp 1 rfl) (w_i64 (by omega)))) ?_
        refine .cons (.plain rfl (ok_assign (.tmp 0 rfl))) ?_
        exact .nil
      clear H57 a57 w57 B57
      intro a58 w58 B58 H58
      refine ops_done ?_
      refine then_normal ?_
      refine flow_drawT (dsts := [some 40, some 41, some 42, some 43, some 44, some 45, some 46, some 47, some 48, some 49, some 50, some 51, some 52]) (refs := [[.pre 5], [.pre 0], [.res 1], [.res 0, .res 2], [.res 3], [.pre 1], [.res 5], [.pre 0], [.res 7], [.res 8], [.res 6, .res 9], [.res 4, .res 10], [.res 0, .res 2]]) (outs := [.res 11, .res 12, .pre 2, .pre 3, .pre 4, .pre 5, .pre 6, .pre 7, .pre 8, .pre 9, .pre 10]) (als := [false, false, false, false, false, false, false, false, false, false, false, false, false]) (posts := [.val (IsApp g52 m49 78 .u32 X), .val (Lit (.int .i64 (((List.length (bytesI s) : Int) - 1) - i))), .val (Lit (.int .i64 ((((List.length (bytesI s) : Int) - 1) - i) / 4))), .val (IsCell .u32 (X[((((List.length (bytesI s) : Int) - 1) - i) / 4).toNat]?.getD 0)), .val (Lit (.int .u32 (X[((((List.length (bytesI s) : Int) - 1) - i) / 4).toNat]?.getD 0))), .val (Lit (.int .u8 ((bytesI s)[i.toNat]?.getD 0))), .val (Lit (.int .u32 ((bytesI s)[i.toNat]?.getD 0))), .val (Lit (.int .i64 (((List.length (bytesI s) : Int) - 1) - i))), .val (Lit (.int .i64 ((((List.length (bytesI s) : Int) - 1) - i) % 4))), .val (Lit (.int .i64 (((((List.length (bytesI s) : Int) - 1) - i) % 4) * 8))), .val (Lit (.int .u32 (((bytesI s)[i.toNat]?.getD 0) * 256 ^ ((((List.length (bytesI s) : Int) - 1) - i) % 4).toNat))), .val (Lit (.int .u32 (X[((((List.length (bytesI s) : Int) - 1) - i) / 4).toNat]?.getD 0 + ((bytesI s)[i.toNat]?.getD 0) * 256 ^ ((((List.length (bytesI s) : Int) - 1) - i) % 4).toNat))), .val (IsAt g52 (((((List.length (bytesI s) : Int) - 1) - i) / 4).toNat))])
        (out := [(51, .val (Lit (.int .u32 (X[((((List.length (bytesI s) : Int) - 1) - i) / 4).toNat]?.getD 0 + ((bytesI s)[i.toNat]?.getD 0) * 256 ^ ((((List.length (bytesI s) : Int) - 1) - i) % 4).toNat)))), (52, .val (IsAt g52 (((((List.length (bytesI s) : Int) - 1) - i) / 4).toNat))), (28, .val (IsLb m49 .u8 (bytesI s))), (29, .val (Lit (.int .i64 (List.length (bytesI s) : Int)))), (30, .val (Lit (.int .i64 i))), (5, .val (IsApp g52 m49 78 .u32 X)), (949, .val (Sz m49)), (4, .val (IsB false)), (3, .val (IsLb m49 .u8 (bytesI s))), (902, .val (Sz m2)), (2, .box 25 2 (Zero2))]) (nb := []) H58 (by kernel_rfl) 13 1 #[true, true, true, true, true, true, true, true, true, true, true, true, true, false] (by kernel_rfl) (by kernel_rfl) rfl rfl ?_ ?_
      · refine .cons (.plain rfl (ok_move (.tmp 0 rfl))) ?_
        refine .cons (.plain rfl (ok_move (.tmp 0 rfl))) ?_
        refine .cons (.plain rfl (ok_quo (r := ((((List.length (bytesI s) : Int) - 1) - i) / 4)) (.tmp 0 rfl) (.lit) (by omega) (by rw [Int.tdiv_eq_ediv_of_nonneg (by omega)]; exact w_i64 (by omega)))) ?_
        refine .cons (.plain rfl (ok_idxL (xs := X) (((((List.length (bytesI s) : Int) - 1) - i) / 4).toNat) Try.underlying23 size32 (.weak (.tmp 0 rfl) weakAppL) (.tmp 1 rfl) (by omega) (hs3))) ?_
        refine .cons (.plain rfl (ok_loadCell aggU32 (.tmp 0 rfl))) ?_
        refine .cons (.plain rfl (ok_move (.tmp 0 rfl))) ?_
        refine .cons (.plain rfl (ok_conv Try.underlying5 Try.underlying78 (r := ((bytesI s)[i.toNat]?.getD 0)) (.tmp 0 rfl) (w_u32 (by omega)))) ?_
        refine .cons (.plain rfl (ok_move (.tmp 0 rfl))) ?_
        refine .cons (.plain rfl (ok_rem (r := ((((List.length (bytesI s) : Int) - 1) - i) % 4)) (.tmp 0 rfl) (.lit) (by omega) (Int.tmod_eq_emod_of_nonneg (by omega)))) ?_
        refine .cons (.plain rfl (ok_mul (r := (((((List.length (bytesI s) : Int) - 1) - i) % 4) * 8)) (.tmp 0 rfl) (.lit) (w_i64 (by omega)))) ?_
        refine .cons (.plain rfl (ok_shl (r := (((bytesI s)[i.toNat]?.getD 0) * 256 ^ ((((List.length (bytesI s) : Int) - 1) - i) % 4).toNat)) (.tmp 0 rfl) (.tmp 1 rfl) (by omega) (by rw [Int.mul_comm ((((List.length (bytesI s) : Int) - 1) - i) % 4) 8]; exact shl_byte ((bytesI s)[i.toNat]?.getD 0) ((((List.length (bytesI s) : Int) - 1) - i) % 4) (by omega) (by omega)))) ?_
        refine .cons (.plain rfl (ok_or (r := X[((((List.length (bytesI s) : Int) - 1) - i) / 4).toNat]?.getD 0 + ((bytesI s)[i.toNat]?.getD 0) * 256 ^ ((((List.length (bytesI s) : Int) - 1) - i) % 4).toNat) (.tmp 0 rfl) (.tmp 1 rfl) hs1)) ?_
        refine .cons (.plain rfl (ok_idxR (xs := X) (((((List.length (bytesI s) : Int) - 1) - i) / 4).toNat) Try.underlying23 size32 (.tmp 0 rfl) (.tmp 1 rfl) (by omega) (hs3))) ?_
        exact .nil
      clear H58 a58 w58 B58
      intro a59 w59 B59 H59
      refine any_oneT (l' := #[true, true, true, true, true, true, true, true, true, true, true, true, true, true]) 13 (by kernel_rfl) ?_
      refine store_row (xs := X) (y := (X[((((List.length (bytesI s) : Int) - 1) - i) / 4).toNat]?.getD 0 + ((bytesI s)[i.toNat]?.getD 0) * 256 ^ ((((List.length (bytesI s) : Int) - 1) - i) % 4).toNat)) (j := (((((List.length (bytesI s) : Int) - 1) - i) / 4).toNat)) (ks := [(51, .val (Lit (.int .u32 (X[((((List.length (bytesI s) : Int) - 1) - i) / 4).toNat]?.getD 0 + ((bytesI s)[i.toNat]?.getD 0) * 256 ^ ((((List.length (bytesI s) : Int) - 1) - i) % 4).toNat)))), (28, .val (IsLb m49 .u8 (bytesI s))), (29, .val (Lit (.int .i64 (List.length (bytesI s) : Int)))), (30, .val (Lit (.int .i64 i))), (949, .val (Sz m49)), (4, .val (IsB false)), (3, .val (IsLb m49 .u8 (bytesI s))), (902, .val (Sz m2)), (2, .box 25 2 (Zero2))]) (l' := [(5, .val (IsApp g52 m49 78 .u32 (List.set X (((((List.length (bytesI s) : Int) - 1) - i) / 4).toNat) (X[((((List.length (bytesI s) : Int) - 1) - i) / 4).toNat]?.getD 0 + ((bytesI s)[i.toNat]?.getD 0) * 256 ^ ((((List.length (bytesI s) : Int) - 1) - i) % 4).toNat)))), (51, .val (Lit (.int .u32 (X[((((List.length (bytesI s) : Int) - 1) - i) / 4).toNat]?.getD 0 + ((bytesI s)[i.toNat]?.getD 0) * 256 ^ ((((List.length (bytesI s) : Int) - 1) - i) % 4).toNat)))), (28, .val (IsLb m49 .u8 (bytesI s))), (29, .val (Lit (.int .i64 (List.length (bytesI s) : Int)))), (30, .val (Lit (.int .i64 i))), (949, .val (Sz m49)), (4, .val (IsB false)), (3, .val (IsLb m49 .u8 (bytesI s))), (902, .val (Sz m2)), (2, .box 25 2 (Zero2))]) 1 5 [5] [0, 2, 3, 4, 6, 7, 8, 9, 10] H59 hm49 rfl size32 rfl (.tmp 0 rfl) rfl (hs3) rfl (.cons (kept_lit) (.cons (kept_lb (Nat.le_refl _)) (.cons (kept_lit) (.cons (kept_lit) (.cons (kept_sz) (.cons (kept_lit) (.cons (kept_lb (Nat.le_refl _)) (.cons (kept_sz) (.cons (kept_box (kept_lit)) (.nil)))))))))) (by simp) rfl ?_
      clear H59 w59
      intro w60 H60
      refine any_done (by kernel_rfl) ?_
      refine block_normal ?_
      refine then_normal ?_
      refine flow_region (dsts := [some 53]) (refs := [[.pre 4]]) (outs := [.res 0, .pre 0, .pre 2, .pre 3, .pre 4, .pre 5, .pre 6, .pre 7, .pre 8, .pre 9]) (als := [false]) (posts := [.val (Lit (.int .i64 (i + 1)))])
        (out := [(53, .val (Lit (.int .i64 (i + 1)))), (5, .val (IsApp g52 m49 78 .u32 (List.set X (((((List.length (bytesI s) : Int) - 1) - i) / 4).toNat) (X[((((List.length (bytesI s) : Int) - 1) - i) / 4).toNat]?.getD 0 + ((bytesI s)[i.toNat]?.getD 0) * 256 ^ ((((List.length (bytesI s) : Int) - 1) - i) % 4).toNat)))), (28, .val (IsLb m49 .u8 (bytesI s))), (29, .val (Lit (.int .i64 (List.length (bytesI s) : Int)))), (30, .val (Lit (.int .i64 i))), (949, .val (Sz m49)), (4, .val (IsB false)), (3, .val (IsLb m49 .u8 (bytesI s))), (902, .val (Sz m2)), (2, .box 25 2 (Zero2))]) (nb := []) H60 1 [1] rfl (by kernel_rfl) rfl rfl ?_ ?_
      · refine .cons (.plain rfl (ok_add (r := (i + 1)) (.tmp 0 rfl) (.lit) (w_i64 (by omega)))) ?_
        exact .nil
      clear H60 a59 w60 B59
      intro a61 w61 B61 H61
      refine ops_one ?_
      refine tail_op (D := .val (Lit (.int .i64 (i + 1)))) (l' := [(30, .val (Lit (.int .i64 (i + 1)))), (53, .val (Lit (.int .i64 (i + 1)))), (5, .val (IsApp g52 m49 78 .u32 (List.set X (((((List.length (bytesI s) : Int) - 1) - i) / 4).toNat) (X[((((List.length (bytesI s) : Int) - 1) - i) / 4).toNat]?.getD 0 + ((bytesI s)[i.toNat]?.getD 0) * 256 ^ ((((List.length (bytesI s) : Int) - 1) - i) % 4).toNat)))), (28, .val (IsLb m49 .u8 (bytesI s))), (29, .val (Lit (.int .i64 (List.length (bytesI s) : Int)))), (949, .val (Sz m49)), (4, .val (IsB false)), (3, .val (IsLb m49 .u8 (bytesI s))), (902, .val (Sz m2)), (2, .box 25 2 (Zero2))]) H61 rfl rfl rfl (.plain rfl (ok_move (.tmp 0 rfl))) rfl rfl ?_
      clear H61 a61 w61 B61
      intro a62 w62 B62 H62
      refine ops_done ?_
      exact ⟨⟨i + 1, List.set X (((((List.length (bytesI s) : Int) - 1) - i) / 4).toNat) (X[((((List.length (bytesI s) : Int) - 1) - i) / 4).toNat]?.getD 0 + ((bytesI s)[i.toNat]?.getD 0) * 256 ^ ((((List.length (bytesI s) : Int) - 1) - i) % 4).toNat)⟩, B62, by exact ⟨by omega, hs2⟩, St.pick H62 [3, 4, 0, 2, 5, 6, 7, 8, 9] rfl, by show ((List.length (bytesI s) : Int) - (i + 1)).toNat < ((List.length (bytesI s) : Int) - i).toNat; omega⟩
    · intro hc56
      replace hc56 := of_decide_eq_false hc56
      have hi2 : i = (List.length (bytesI s) : Int) := by omega
      have hxv : val 4294967296 X = byteV (bytesI s) := by have := hst.worth; rw [show ((List.length (bytesI s) : Int) - i).toNat = 0 by omega, Int.pow_zero, Int.one_mul, List.drop_zero] at this; exact this
      have hxd := hst.dig
      have hxl : List.length X ≤ 274877906944 := by have := hst.len; rw [List.length_reverse] at this; omega
      refine wp_exit ?_
      refine then_exit ?_
      refine then_exit ?_
      refine block_exit ?_
      refine then_normal ?_
      refine wp_seq ?_
      refine wp_seq ?_
      refine flow_region (dsts := [some 54]) (refs := [[.pre 6]]) (outs := [.res 0, .pre 1, .pre 2, .pre 3, .pre 4, .pre 5, .pre 6, .pre 7, .pre 8, .pre 9]) (als := [false]) (posts := [.val (IsB false)])
        (out := [(54, .val (IsB false)), (28, .val (IsLb m49 .u8 (bytesI s))), (29, .val (Lit (.int .i64 (List.length (bytesI s) : Int)))), (30, .val (Lit (.int .i64 i))), (5, .val (IsApp g52 m49 78 .u32 X)), (949, .val (Sz m49)), (4, .val (IsB false)), (3, .val (IsLb m49 .u8 (bytesI s))), (902, .val (Sz m2)), (2, .box 25 2 (Zero2))]) (nb := []) H55 1 [] rfl (by kernel_rfl) rfl rfl ?_ ?_
      · refine .cons (.plain rfl (ok_move (.tmp 0 rfl))) ?_
        exact .nil
      clear H55 a55 w55 B55
      intro a63 w63 B63 H63
      refine ops_done ?_
      refine then_normal ?_
      refine f_condF H63 (.tmp 0 rfl) ?_
      refine wp_skip ?_
      refine then_normal ?_
      refine wp_seq ?_
      refine flow_region (dsts := [some 58, some 59, some 60]) (refs := [[.pre 4], [.res 0], [.res 1]]) (outs := [.res 2, .pre 1, .pre 2, .pre 3, .pre 4, .pre 5, .pre 6, .pre 7, .pre 8, .pre 9]) (als := [false, false, false]) (posts := [.val (IsApp g52 m49 78 .u32 X), .val (IsC (byteV (bytesI s))), .val (IsI (byteV (bytesI s)))])
        (out := [(60, .val (IsI (byteV (bytesI s)))), (28, .val (IsLb m49 .u8 (bytesI s))), (29, .val (Lit (.int .i64 (List.length (bytesI s) : Int)))), (30, .val (Lit (.int .i64 i))), (5, .val (IsApp g52 m49 78 .u32 X)), (949, .val (Sz m49)), (4, .val (IsB false)), (3, .val (IsLb m49 .u8 (bytesI s))), (902, .val (Sz m2)), (2, .box 25 2 (Zero2))]) (nb := []) H63 3 [3] rfl (by kernel_rfl) rfl rfl ?_ ?_
      · refine .cons (.plain rfl (ok_move (.tmp 0 rfl))) ?_
        refine .cons (.plain rfl (ok_call (con_natnorm (byteV (bytesI s))) (.cons (.weak (.tmp 0 rfl) (weakAppM hxd hxv hxl)) (.nil)))) ?_
        refine .cons (.plain rfl (ok_call ((con_made 1 (byteV (bytesI s))).weak (fun v w B h => isI_eq (if_neg (by decide)) h)) (.cons (.lit) (.cons (.tmp 0 rfl) (.nil))))) ?_
        exact .nil
      clear H63 a63 w63 B63
      intro a64 w64 B64 H64
      refine ops_one ?_
      refine store_op (l' := [(60, .val (IsI (byteV (bytesI s)))), (28, .val (IsLb m49 .u8 (bytesI s))), (29, .val (Lit (.int .i64 (List.length (bytesI s) : Int)))), (30, .val (Lit (.int .i64 i))), (5, .val (IsApp g52 m49 78 .u32 X)), (949, .val (Sz m49)), (4, .val (IsB false)), (3, .val (IsLb m49 .u8 (bytesI s))), (902, .val (Sz m2)), (2, .box 25 2 (IsI (byteV (bytesI s))))]) 9 H64 rfl tyI rfl (.tmp 0 rfl) shape_Z shape_I rfl rfl ?_
      clear H64 w64
      intro w65 H65
      refine ops_done ?_
      refine then_normal ?_
      refine wp_ret ?_
      exact f_retC H65 tyI rfl 9 rfl (fun v w B h => by exact isI_eq hN h)
end Go.Proofs.Ytgnophflogmmaaa
