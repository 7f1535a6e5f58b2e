/- Contracts of functions, and plain facts, part 38. -/
import Derived.Test.YtgnophflogmmaaaPk8
import Derived.Test.YtgnophflogmmaaaPk37
set_option linter.unusedVariables false
set_option linter.unusedSimpArgs false
/- R3from2. (Printed by flowfn.py.) -/
namespace Go.Proofs.Ytgnophflogmmaaa
open Go Go.RowKit

/-- What bytes in two's complement tell. -/
def twosNum (cs : List Int) : Int := if (128 : Int) ≤ cs[0]?.getD 0 then byteV cs - 256 ^ cs.length else byteV cs
theorem bytes_rev (s : ByteArray) (i : Nat) (hi : i < s.size) : s[s.size - 1 - i]?.map (fun b => (b.toNat : Int)) = some ((bytesI s).reverse[i]?.getD 0) := by
  rw [bytes_at s _ (by omega), List.getElem?_reverse (by rw [bytesI_length]; exact hi), bytesI_length]
def FS (rs XS : List Int) (i : Nat) : Prop := ByteSt rs XS i ∧ XS.length = (i + 3) / 4
theorem fs_start (rs : List Int) : FS rs [] 0 := ⟨byte_start rs 0, rfl⟩
theorem fs_app {rs XS : List Int} {i : Int} (h0 : 0 ≤ i) (h : FS rs XS i.toNat) (h4 : i % 4 = 0) : ByteSt rs (XS ++ [0]) i.toNat ∧ (XS ++ [0]).length = i.toNat / 4 + 1 := by
  obtain ⟨h1, h2⟩ := h
  have hl : XS.length = i.toNat / 4 := by omega
  refine ⟨⟨h1.dig.append (Dig.cons (by omega) (by omega) (Dig.nil _)), by rw [val_append, ← h1.worth]; simp [val], fun q hq => ?_, ?_⟩, by simp [hl]⟩
  · rw [List.getElem?_append_right (by omega)]
    rw [show (([0] : List Int)[q - XS.length]?) = none from List.getElem?_eq_none (by simp; omega)]; rfl
  · rw [← hl, List.getElem?_append_right (by omega), Nat.sub_self]
    exact Int.pow_pos (by omega)
theorem fs_keep {rs XS : List Int} {i : Int} (h0 : 0 ≤ i) (h : FS rs XS i.toNat) (h4 : ¬ i % 4 = 0) : ByteSt rs XS i.toNat ∧ XS.length = i.toNat / 4 + 1 := ⟨h.1, by have := h.2; omega⟩
theorem fs_step {rs XS : List Int} {i : Int} (h0 : 0 ≤ i) (hi : i < rs.length) (dr : Dig 256 rs) (h : ByteSt rs XS i.toNat ∧ XS.length = i.toNat / 4 + 1) :
    FS rs (XS.set (i / 4).toNat (XS[(i / 4).toNat]?.getD 0 + rs[i.toNat]?.getD 0 * 256 ^ (i % 4).toNat)) (i + 1).toNat ∧ (0 ≤ XS[(i / 4).toNat]?.getD 0 + rs[i.toNat]?.getD 0 * 256 ^ (i % 4).toNat ∧ XS[(i / 4).toNat]?.getD 0 + rs[i.toNat]?.getD 0 * 256 ^ (i % 4).toNat < 4294967296) ∧ (i / 4).toNat < XS.length := by
  obtain ⟨h1, h2⟩ := h
  have e1 : (i / 4).toNat = i.toNat / 4 := by omega
  have e2 : (i % 4).toNat = i.toNat % 4 := by omega
  rw [e1, e2]
  obtain ⟨a, b, c⟩ := byte_step rs XS i.toNat (by omega) dr (by omega) h1 _ rfl
  refine ⟨⟨by rw [show (i + 1).toNat = i.toNat + 1 by omega]; exact a, by rw [List.length_set]; omega⟩, ⟨b, c⟩, by omega⟩
theorem shl_byte (b r : Int) (hb : 0 ≤ b ∧ b < 256) (hr : 0 ≤ r ∧ r < 4) : IntKind.u32.wrap (b * 2 ^ (min (8 * r).toNat IntKind.u32.bits)) = b * 256 ^ r.toNat := by
  have e : min (8 * r).toNat IntKind.u32.bits = 8 * r.toNat := by show min _ 32 = _; omega
  have e2 : (2 : Int) ^ (8 * r.toNat) = 256 ^ r.toNat := by rw [Int.pow_mul]; rfl
  rw [e, e2]
  have h1 : (256 : Int) ^ r.toNat ≤ 256 ^ 3 := pow_le (by omega) (by omega)
  have hp : (0 : Int) < 256 ^ r.toNat := Int.pow_pos (by omega)
  rw [show (256 : Int) ^ 3 = 16777216 from rfl] at h1
  have h2 : b * 256 ^ r.toNat ≤ 255 * 256 ^ r.toNat := Int.mul_le_mul_of_nonneg_right (by omega) (by omega)
  have h3 : 0 ≤ b * 256 ^ r.toNat := Int.mul_nonneg hb.1 (by omega)
  exact w_u32 (by omega)
theorem ft_fit (s : ByteArray) (hs : s.size ≤ 1048576) : FitK 262144 (byteV (bytesI s)) ∧ 0 ≤ byteV (bytesI s) := by
  have h0 := byteV_nonneg _ (bytesI_dig s)
  refine ⟨?_, h0⟩
  have h1 := val_lt (b := 256) (by omega) (bytesI_dig s).reverse
  rw [List.length_reverse, bytesI_length] at h1
  unfold FitK
  rw [← pow4]
  have h2 : (256 : Int) ^ s.size ≤ 256 ^ (4 * 262144) := pow_le (by omega) (by omega)
  unfold byteV at *
  omega
theorem ft_one (n : Nat) : val 4294967296 ((List.replicate (n / 4 + 1) 0).set (n / 4) (1 * 256 ^ (n % 4))) = 256 ^ n ∧ Dig 4294967296 ((List.replicate (n / 4 + 1) 0).set (n / 4) (1 * 256 ^ (n % 4))) := by
  have h1 : (256 : Int) ^ (n % 4) ≤ 256 ^ 3 := pow_le (by omega) (by omega)
  have hp : (0 : Int) < 256 ^ (n % 4) := Int.pow_pos (by omega)
  rw [show (256 : Int) ^ 3 = 16777216 from rfl] at h1
  refine ⟨?_, (Dig.replicate _ (by omega) _).set (by omega) (by omega) _⟩
  rw [val_set _ _ _ _ (by simp), val_replicate, List.getElem?_replicate, if_pos (by omega)]
  simp only [Option.getD_some, Int.sub_zero, Int.zero_add, Int.one_mul]
  rw [← pow4, ← Int.pow_add]
  congr 1
  omega
theorem ft_one2 (n : Int) (h : 0 ≤ n) : (val 4294967296 ((List.replicate (n / 4 + 1).toNat 0).set (n / 4).toNat (1 * 256 ^ (n % 4).toNat)) = 256 ^ n.toNat ∧ Dig 4294967296 ((List.replicate (n / 4 + 1).toNat 0).set (n / 4).toNat (1 * 256 ^ (n % 4).toNat))) := by
  have := ft_one n.toNat
  rw [show (n / 4 + 1).toNat = n.toNat / 4 + 1 by omega, show (n / 4).toNat = n.toNat / 4 by omega, show (n % 4).toNat = n.toNat % 4 by omega]
  exact this
theorem ft_pow (n : Int) (h : 0 ≤ n ∧ n ≤ 1048576) : FitK 262145 (256 ^ n.toNat) := by
  rw [show (256 : Int) = 2 ^ 8 from rfl, ← Int.pow_mul]
  exact fit_pow _ _ (by omega)

set_option maxRecDepth 20000 in
set_option maxHeartbeats 2000000 in
theorem con_r3fromtwos (s : ByteArray) (hs : s.size ≤ 1048576) : Con Try.prog 28 [Lit (.string s)] (IsI (twosNum (bytesI s))) := by
  refine f_enter (N := 74) Try.ntmps28 (fun _ _ => by go_simp) Try.func28 rfl (by simp) ?_
  intro a0 w0 B0 H0
  replace H0 : St 74 w0 B0 a0 w0 B0 [(0, .val (Lit (.string s)))] [] := H0
  obtain ⟨hfV, hV0⟩ := ft_fit s hs
  have hlen := bytesI_length s
  have hrl : (bytesI s).reverse.length = s.size := by rw [List.length_reverse]; exact hlen
  have hD : Dig 256 (bytesI s).reverse := (bytesI_dig s).reverse
  have hfP := ft_pow (s.size : Int) (by omega)
  refine wp_seq ?_
  refine flow_region (dsts := [some 2]) (refs := [[]]) (outs := [.res 0, .pre 0]) (als := [true]) (posts := [.box 25 2 (Zero2)])
    (out := [(2, .box 25 2 (Zero2)), (0, .val (Lit (.string s)))]) (nb := [2]) H0 1 [] rfl (by kernel_rfl) rfl rfl ?_ ?_
  · refine .cons (.plain rfl (ok_alloc (D := Zero2) zeroI rfl (fun _ _ => rfl))) ?_
    exact .nil
  clear H0
  intro a1 w1 B1 H1
  simp only [List.cons_append, List.nil_append] at H1
  refine ops_done ?_
  refine then_normal ?_
  refine wp_seq ?_
  obtain ⟨m2, hm2, hL2, H2⟩ := St.mark H1 902
  clear H1
  clear hL2
  refine flow_region (dsts := [some 3]) (refs := [[]]) (outs := [.res 0, .pre 0, .pre 1, .pre 2]) (als := [false]) (posts := [.val (IsApp none m2 78 .u32 ([]))])
    (out := [(3, .val (IsApp none m2 78 .u32 ([]))), (902, .val (Sz m2)), (2, .box 25 2 (Zero2)), (0, .val (Lit (.string s)))]) (nb := []) H2 1 [] rfl (by kernel_rfl) rfl rfl ?_ ?_
  · refine .cons (.plain rfl (ok_nilApp (.inl rfl))) ?_
    exact .nil
  clear H2 a1 w1 B1
  intro a3 w3 B3 H3
  refine ops_done ?_
  refine then_normal ?_
  refine wp_seq ?_
  refine wp_seq ?_
  refine flow_region (dsts := [some 4]) (refs := [[]]) (outs := [.res 0, .pre 0, .pre 1, .pre 2, .pre 3]) (als := [false]) (posts := [.val (Lit (.int .i64 0))])
    (out := [(4, .val (Lit (.int .i64 0))), (3, .val (IsApp none m2 78 .u32 ([]))), (902, .val (Sz m2)), (2, .box 25 2 (Zero2)), (0, .val (Lit (.string s)))]) (nb := []) H3 1 [] rfl (by kernel_rfl) rfl rfl ?_ ?_
  · refine .cons (.plain rfl (ok_assign (.lit))) ?_
    exact .nil
  clear H3 a3 w3 B3
  intro a4 w4 B4 H4
  refine ops_done ?_
  refine then_normal ?_
  refine wp_block ?_
  refine f_loop (fun (⟨g, i, X⟩ : Option Nat × Int × List Int) => [(4, .val (Lit (.int .i64 i))), (3, .val (IsApp g m2 78 .u32 X)), (902, .val (Sz m2)), (2, .box 25 2 (Zero2)), (0, .val (Lit (.string s)))]) (fun (⟨g, i, X⟩ : Option Nat × Int × List Int) => (0 ≤ i ∧ i ≤ (s.size : Int)) ∧ FS (bytesI s).reverse X i.toNat) (fun (⟨g, i, X⟩ : Option Nat × Int × List Int) => ((s.size : Int) - i).toNat) (⟨none, 0, []⟩) (St.pick H4 [0, 1, 2, 3, 4] rfl) (by exact ⟨by omega, fs_start _⟩) ?_
  clear H4 a4 w4 B4
  rintro ⟨g, i, X⟩ a5 w5 B5 hI5 H5
  replace hI5 : (0 ≤ i ∧ i ≤ (s.size : Int)) ∧ FS (bytesI s).reverse X i.toNat := hI5
  replace H5 : St 74 w0 B0 a5 w5 B5 [(4, .val (Lit (.int .i64 i))), (3, .val (IsApp g m2 78 .u32 X)), (902, .val (Sz m2)), (2, .box 25 2 (Zero2)), (0, .val (Lit (.string s)))] [2] := H5
  obtain ⟨hi, hst⟩ := hI5
  refine wp_seq ?_
  refine wp_seq ?_
  refine flow_region (dsts := [some 8, some 9, some 10, some 11]) (refs := [[.pre 0], [.pre 4], [.res 1], [.res 0, .res 2]]) (outs := [.res 3, .pre 0, .pre 1, .pre 2, .pre 3, .pre 4]) (als := [false, false, false, false]) (posts := [.val (Lit (.int .i64 i)), .val (Lit (.string s)), .val (Lit (.int .i64 ((s).size : Int))), .val (IsB (decide (i < ((s).size : Int))))])
    (out := [(11, .val (IsB (decide (i < ((s).size : Int))))), (4, .val (Lit (.int .i64 i))), (3, .val (IsApp g m2 78 .u32 X)), (902, .val (Sz m2)), (2, .box 25 2 (Zero2)), (0, .val (Lit (.string s)))]) (nb := []) H5 4 [] rfl (by kernel_rfl) rfl rfl ?_ ?_
  · refine .cons (.plain rfl (ok_move (.tmp 0 rfl))) ?_
    refine .cons (.plain rfl (ok_move (.tmp 0 rfl))) ?_
    refine .cons (.plain rfl (ok_lenS Try.underlying9 (.tmp 0 rfl))) ?_
    refine .cons (.plain rfl (ok_cmp (.tmp 0 rfl) (.tmp 1 rfl) rfl)) ?_
    exact .nil
  clear H5 a5 w5 B5
  intro a6 w6 B6 H6
  refine ops_done ?_
  refine then_normal ?_
  refine f_cond H6 (.tmp 0 rfl) ?_ ?_
  · intro hc7
    replace hc7 := of_decide_eq_true hc7
    refine wp_skip ?_
    refine then_normal ?_
    refine wp_seq ?_
    refine wp_block ?_
    refine wp_seq ?_
    have hbb := hD.get (by omega) i.toNat
    refine flow_region (dsts := [some 14, some 15, some 16, some 17, some 18, some 19, some 20, some 21, some 5]) (refs := [[.pre 5], [.pre 5], [.res 1], [.res 2], [.pre 1], [.res 3, .res 4], [.res 0, .res 5], [.res 6], [.res 7]]) (outs := [.res 8, .pre 1, .pre 2, .pre 3, .pre 4, .pre 5]) (als := [false, false, false, false, false, false, false, false, false]) (posts := [.val (Lit (.string s)), .val (Lit (.string s)), .val (Lit (.int .i64 ((s).size : Int))), .val (Lit (.int .i64 (((s).size : Int) - 1))), .val (Lit (.int .i64 i)), .val (Lit (.int .i64 ((((s).size : Int) - 1) - i))), .val (Lit (.int .u8 ((bytesI s).reverse[i.toNat]?.getD 0))), .val (Lit (.int .u32 ((bytesI s).reverse[i.toNat]?.getD 0))), .val (Lit (.int .u32 ((bytesI s).reverse[i.toNat]?.getD 0)))])
      (out := [(5, .val (Lit (.int .u32 ((bytesI s).reverse[i.toNat]?.getD 0)))), (4, .val (Lit (.int .i64 i))), (3, .val (IsApp g m2 78 .u32 X)), (902, .val (Sz m2)), (2, .box 25 2 (Zero2)), (0, .val (Lit (.string s)))]) (nb := []) H6 9 [] rfl (by kernel_rfl) rfl rfl ?_ ?_
    · refine .cons (.plain rfl (ok_move (.tmp 0 rfl))) ?_
      refine .cons (.plain rfl (ok_move (.tmp 0 rfl))) ?_
      refine .cons (.plain rfl (ok_lenS Try.underlying9 (.tmp 0 rfl))) ?_
      refine .cons (.plain rfl (ok_sub (r := (((s).size : Int) - 1)) (.tmp 0 rfl) (.lit) (w_i64 (by omega)))) ?_
      refine .cons (.plain rfl (ok_move (.tmp 0 rfl))) ?_
      refine .cons (.plain rfl (ok_sub (r := ((((s).size : Int) - 1) - i)) (.tmp 0 rfl) (.tmp 1 rfl) (w_i64 (by omega)))) ?_
      refine .cons (.plain rfl (ok_indexS (n := (s.size - 1 - i.toNat)) (c := ((bytesI s).reverse[i.toNat]?.getD 0)) Try.underlying9 (.tmp 0 rfl) (.tmp 1 rfl) (by omega) (bytes_rev s i.toNat (by omega)))) ?_
      refine .cons (.plain rfl (ok_conv Try.underlying5 Try.underlying78 (r := ((bytesI s).reverse[i.toNat]?.getD 0)) (.tmp 0 rfl) (w_u32 (by omega)))) ?_
      refine .cons (.plain rfl (ok_assign (.tmp 0 rfl))) ?_
      exact .nil
    clear H6 a6 w6 B6
    intro a8 w8 B8 H8
    refine ops_done ?_
    refine then_normal ?_
    refine wp_seq ?_
    refine wp_seq ?_
    refine flow_region (dsts := [some 22, some 23, some 24]) (refs := [[.pre 1], [.res 0], [.res 1]]) (outs := [.res 2, .pre 0, .pre 1, .pre 2, .pre 3, .pre 4, .pre 5]) (als := [false, false, false]) (posts := [.val (Lit (.int .i64 i)), .val (Lit (.int .i64 (i % 4))), .val (IsB (decide (i % 4 = 0)))])
      (out := [(24, .val (IsB (decide (i % 4 = 0)))), (5, .val (Lit (.int .u32 ((bytesI s).reverse[i.toNat]?.getD 0)))), (4, .val (Lit (.int .i64 i))), (3, .val (IsApp g m2 78 .u32 X)), (902, .val (Sz m2)), (2, .box 25 2 (Zero2)), (0, .val (Lit (.string s)))]) (nb := []) H8 3 [] rfl (by kernel_rfl) rfl rfl ?_ ?_
    · refine .cons (.plain rfl (ok_move (.tmp 0 rfl))) ?_
      refine .cons (.plain rfl (ok_rem (r := (i % 4)) (.tmp 0 rfl) (.lit) (by omega) (Int.tmod_eq_emod_of_nonneg (by omega)))) ?_
      refine .cons (.plain rfl (ok_cmp (.tmp 0 rfl) (.lit) rfl)) ?_
      exact .nil
    clear H8 a8 w8 B8
    intro a9 w9 B9 H9
    refine ops_done ?_
    refine then_normal ?_
    refine f_cond H9 (.tmp 0 rfl) ?_ ?_
    · intro hc10
      replace hc10 := of_decide_eq_true hc10
      refine flow_region (dsts := [some 25, some 26]) (refs := [[.pre 3], []]) (outs := [.res 0, .res 1, .pre 1, .pre 2, .pre 3, .pre 4, .pre 5, .pre 6]) (als := [false, false]) (posts := [.val (IsApp g m2 78 .u32 X), .val (IsL .u32 ([0]))])
        (out := [(25, .val (IsApp g m2 78 .u32 X)), (26, .val (IsL .u32 ([0]))), (5, .val (Lit (.int .u32 ((bytesI s).reverse[i.toNat]?.getD 0)))), (4, .val (Lit (.int .i64 i))), (3, .val (IsApp g m2 78 .u32 X)), (902, .val (Sz m2)), (2, .box 25 2 (Zero2)), (0, .val (Lit (.string s)))]) (nb := []) H9 2 [2, 3] rfl (by kernel_rfl) rfl rfl ?_ ?_
      · refine .cons (.plain rfl (ok_move (.tmp 0 rfl))) ?_
        refine .cons (.plain rfl (ok_one32 (.lit))) ?_
        exact .nil
      clear H9 a9 w9 B9
      intro a11 w11 B11 H11
      refine ops_one ?_
      refine app_op (xs := X) (ys := ([0])) (ks := [(5, .val (Lit (.int .u32 ((bytesI s).reverse[i.toNat]?.getD 0)))), (4, .val (Lit (.int .i64 i))), (902, .val (Sz m2)), (2, .box 25 2 (Zero2)), (0, .val (Lit (.string s)))]) 5 [2, 3, 5, 6, 7] H11 hm2 rfl Try.underlying23 info_limb (by omega) (.tmp 0 rfl) (.tmp 1 rfl) (by simp) (by have := hst.2; simp; omega) rfl (Nat.le_refl _) rfl rfl (by kernel_rfl) rfl (.cons (kept_lit) (.cons (kept_lit) (.cons (kept_sz) (.cons (kept_box (kept_lit)) (.cons (kept_lit) (.nil)))))) ?_
      clear H11
      intro a12 w12 B12 g12 hg12 H12
      replace H12 : St 74 w0 B0 a12 w12 B12 [(27, .val (IsApp g12 m2 78 .u32 (X ++ ([0])))), (5, .val (Lit (.int .u32 ((bytesI s).reverse[i.toNat]?.getD 0)))), (4, .val (Lit (.int .i64 i))), (902, .val (Sz m2)), (2, .box 25 2 (Zero2)), (0, .val (Lit (.string s)))] [2] := H12
      refine ops_one ?_
      refine tail_op (D := .val (IsApp g12 m2 78 .u32 (X ++ ([0])))) (l' := [(3, .val (IsApp g12 m2 78 .u32 (X ++ ([0])))), (27, .val (IsApp g12 m2 78 .u32 (X ++ ([0])))), (5, .val (Lit (.int .u32 ((bytesI s).reverse[i.toNat]?.getD 0)))), (4, .val (Lit (.int .i64 i))), (902, .val (Sz m2)), (2, .box 25 2 (Zero2)), (0, .val (Lit (.string s)))]) H12 rfl rfl rfl (.plain rfl (ok_assign (.tmp 0 rfl))) rfl rfl ?_
      clear H12 a12 w12 B12
      intro a13 w13 B13 H13
      refine ops_done ?_
      refine then_normal ?_
      have st0 : ByteSt (bytesI s).reverse (X ++ ([0])) i.toNat ∧ List.length (X ++ ([0])) = i.toNat / 4 + 1 := fs_app hi.1 hst hc10
      obtain ⟨st1, stb, stj⟩ := fs_step hi.1 (by rw [hrl]; omega) hD st0
      refine flow_drawT (dsts := [some 28, some 29, some 30, some 31, some 32, some 33, some 34, some 35, some 36, some 37, some 38, some 39, some 40, some 41, some 42]) (refs := [[.pre 0], [.pre 3], [.res 1], [.pre 0], [.pre 3], [.res 4], [.res 3, .res 5], [.res 6], [.pre 2], [.pre 3], [.res 9], [.res 10], [.res 8, .res 11], [.res 7, .res 12], [.res 0, .res 2]]) (outs := [.res 13, .res 14, .pre 0, .pre 3, .pre 4, .pre 5, .pre 6]) (als := [false, false, false, false, false, false, false, false, false, false, false, false, false, false, false]) (posts := [.val (IsApp g12 m2 78 .u32 (X ++ ([0]))), .val (Lit (.int .i64 i)), .val (Lit (.int .i64 (i / 4))), .val (IsApp g12 m2 78 .u32 (X ++ ([0]))), .val (Lit (.int .i64 i)), .val (Lit (.int .i64 (i / 4))), .val (IsCell .u32 ((X ++ ([0]))[(i / 4).toNat]?.getD 0)), .val (Lit (.int .u32 ((X ++ ([0]))[(i / 4).toNat]?.getD 0))), .val (Lit (.int .u32 ((bytesI s).reverse[i.toNat]?.getD 0))), .val (Lit (.int .i64 i)), .val (Lit (.int .i64 (i % 4))), .val (Lit (.int .i64 (8 * (i % 4)))), .val (Lit (.int .u32 (((bytesI s).reverse[i.toNat]?.getD 0) * 256 ^ (i % 4).toNat))), .val (Lit (.int .u32 (((X ++ ([0]))[(i / 4).toNat]?.getD 0) + (((bytesI s).reverse[i.toNat]?.getD 0) * 256 ^ (i % 4).toNat)))), .val (IsAt g12 ((i / 4).toNat))])
        (out := [(41, .val (Lit (.int .u32 (((X ++ ([0]))[(i / 4).toNat]?.getD 0) + (((bytesI s).reverse[i.toNat]?.getD 0) * 256 ^ (i % 4).toNat))))), (42, .val (IsAt g12 ((i / 4).toNat))), (3, .val (IsApp g12 m2 78 .u32 (X ++ ([0])))), (4, .val (Lit (.int .i64 i))), (902, .val (Sz m2)), (2, .box 25 2 (Zero2)), (0, .val (Lit (.string s)))]) (nb := []) H13 (by kernel_rfl) 15 1 #[true, true, true, true, true, true, true, true, true, true, true, true, true, true, true, false] (by kernel_rfl) (by kernel_rfl) rfl rfl ?_ ?_
      · refine .cons (.plain rfl (ok_move (.tmp 0 rfl))) ?_
        refine .cons (.plain rfl (ok_move (.tmp 0 rfl))) ?_
        refine .cons (.plain rfl (ok_quo (r := (i / 4)) (.tmp 0 rfl) (.lit) (by omega) (by rw [Int.tdiv_eq_ediv_of_nonneg (by omega)]; exact w_i64 (by omega)))) ?_
        refine .cons (.plain rfl (ok_move (.tmp 0 rfl))) ?_
        refine .cons (.plain rfl (ok_move (.tmp 0 rfl))) ?_
        refine .cons (.plain rfl (ok_quo (r := (i / 4)) (.tmp 0 rfl) (.lit) (by omega) (by rw [Int.tdiv_eq_ediv_of_nonneg (by omega)]; exact w_i64 (by omega)))) ?_
        refine .cons (.plain rfl (ok_idxL (xs := (X ++ ([0]))) ((i / 4).toNat) Try.underlying23 size32 (.weak (.tmp 0 rfl) weakAppL) (.tmp 1 rfl) (by omega) (by first | omega | (simp; omega)))) ?_
        refine .cons (.plain rfl (ok_loadCell aggU32 (.tmp 0 rfl))) ?_
        refine .cons (.plain rfl (ok_move (.tmp 0 rfl))) ?_
        refine .cons (.plain rfl (ok_move (.tmp 0 rfl))) ?_
        refine .cons (.plain rfl (ok_rem (r := (i % 4)) (.tmp 0 rfl) (.lit) (by omega) (Int.tmod_eq_emod_of_nonneg (by omega)))) ?_
        refine .cons (.plain rfl (ok_mul (r := (8 * (i % 4))) (.lit) (.tmp 0 rfl) (w_i64 (by omega)))) ?_
        refine .cons (.plain rfl (ok_shl (r := (((bytesI s).reverse[i.toNat]?.getD 0) * 256 ^ (i % 4).toNat)) (.tmp 0 rfl) (.tmp 1 rfl) (by omega) (shl_byte ((bytesI s).reverse[i.toNat]?.getD 0) (i % 4) (by omega) (by omega)))) ?_
        refine .cons (.plain rfl (ok_add (r := (((X ++ ([0]))[(i / 4).toNat]?.getD 0) + (((bytesI s).reverse[i.toNat]?.getD 0) * 256 ^ (i % 4).toNat))) (.tmp 0 rfl) (.tmp 1 rfl) (w_u32 (by omega)))) ?_
        refine .cons (.plain rfl (ok_idxR (xs := (X ++ ([0]))) ((i / 4).toNat) Try.underlying23 size32 (.tmp 0 rfl) (.tmp 1 rfl) (by omega) (by first | omega | (simp; omega)))) ?_
        exact .nil
      clear H13 a13 w13 B13
      intro a14 w14 B14 H14
      refine any_oneT (l' := #[true, true, true, true, true, true, true, true, true, true, true, true, true, true, true, true]) 15 (by kernel_rfl) ?_
      refine store_row (xs := (X ++ ([0]))) (y := (((X ++ ([0]))[(i / 4).toNat]?.getD 0) + (((bytesI s).reverse[i.toNat]?.getD 0) * 256 ^ (i % 4).toNat))) (j := ((i / 4).toNat)) (ks := [(41, .val (Lit (.int .u32 (((X ++ ([0]))[(i / 4).toNat]?.getD 0) + (((bytesI s).reverse[i.toNat]?.getD 0) * 256 ^ (i % 4).toNat))))), (4, .val (Lit (.int .i64 i))), (902, .val (Sz m2)), (2, .box 25 2 (Zero2)), (0, .val (Lit (.string s)))]) (l' := [(3, .val (IsApp g12 m2 78 .u32 (List.set (X ++ ([0])) ((i / 4).toNat) (((X ++ ([0]))[(i / 4).toNat]?.getD 0) + (((bytesI s).reverse[i.toNat]?.getD 0) * 256 ^ (i % 4).toNat))))), (41, .val (Lit (.int .u32 (((X ++ ([0]))[(i / 4).toNat]?.getD 0) + (((bytesI s).reverse[i.toNat]?.getD 0) * 256 ^ (i % 4).toNat))))), (4, .val (Lit (.int .i64 i))), (902, .val (Sz m2)), (2, .box 25 2 (Zero2)), (0, .val (Lit (.string s)))]) 1 2 [3] [0, 3, 4, 5, 6] H14 hm2 rfl size32 rfl (.tmp 0 rfl) rfl (by first | omega | (simp; omega)) rfl (.cons (kept_lit) (.cons (kept_lit) (.cons (kept_sz) (.cons (kept_box (kept_lit)) (.cons (kept_lit) (.nil)))))) (by simp) rfl ?_
      clear H14 w14
      intro w15 H15
      refine any_done (by kernel_rfl) ?_
      refine block_normal ?_
      refine then_normal ?_
      refine flow_region (dsts := [some 12, some 13]) (refs := [[.pre 2], [.res 0]]) (outs := [.res 1, .pre 0, .pre 2, .pre 3, .pre 4, .pre 5]) (als := [false, false]) (posts := [.val (Lit (.int .i64 i)), .val (Lit (.int .i64 (i + 1)))])
        (out := [(13, .val (Lit (.int .i64 (i + 1)))), (3, .val (IsApp g12 m2 78 .u32 (List.set (X ++ ([0])) ((i / 4).toNat) (((X ++ ([0]))[(i / 4).toNat]?.getD 0) + (((bytesI s).reverse[i.toNat]?.getD 0) * 256 ^ (i % 4).toNat))))), (4, .val (Lit (.int .i64 i))), (902, .val (Sz m2)), (2, .box 25 2 (Zero2)), (0, .val (Lit (.string s)))]) (nb := []) H15 2 [2] rfl (by kernel_rfl) rfl rfl ?_ ?_
      · refine .cons (.plain rfl (ok_move (.tmp 0 rfl))) ?_
        refine .cons (.plain rfl (ok_add (r := (i + 1)) (.tmp 0 rfl) (.lit) (w_i64 (by omega)))) ?_
        exact .nil
      clear H15 a14 w15 B14
      intro a16 w16 B16 H16
      refine ops_one ?_
      refine tail_op (D := .val (Lit (.int .i64 (i + 1)))) (l' := [(4, .val (Lit (.int .i64 (i + 1)))), (13, .val (Lit (.int .i64 (i + 1)))), (3, .val (IsApp g12 m2 78 .u32 (List.set (X ++ ([0])) ((i / 4).toNat) (((X ++ ([0]))[(i / 4).toNat]?.getD 0) + (((bytesI s).reverse[i.toNat]?.getD 0) * 256 ^ (i % 4).toNat))))), (902, .val (Sz m2)), (2, .box 25 2 (Zero2)), (0, .val (Lit (.string s)))]) H16 rfl rfl rfl (.plain rfl (ok_assign (.tmp 0 rfl))) rfl rfl ?_
      clear H16 a16 w16 B16
      intro a17 w17 B17 H17
      refine ops_done ?_
      exact ⟨⟨g12, i + 1, List.set (X ++ ([0])) ((i / 4).toNat) (((X ++ ([0]))[(i / 4).toNat]?.getD 0) + (((bytesI s).reverse[i.toNat]?.getD 0) * 256 ^ (i % 4).toNat))⟩, B17, by exact ⟨by omega, st1⟩, St.pick H17 [0, 2, 3, 4, 5] rfl, by show ((s.size : Int) - (i + 1)).toNat < ((s.size : Int) - i).toNat; omega⟩
    · intro hc10
      replace hc10 := of_decide_eq_false hc10
      refine wp_skip ?_
      refine then_normal ?_
      have st0 : ByteSt (bytesI s).reverse X i.toNat ∧ List.length (X) = i.toNat / 4 + 1 := fs_keep hi.1 hst hc10
      obtain ⟨st1, stb, stj⟩ := fs_step hi.1 (by rw [hrl]; omega) hD st0
      refine flow_drawT (dsts := [some 28, some 29, some 30, some 31, some 32, some 33, some 34, some 35, some 36, some 37, some 38, some 39, some 40, some 41, some 42]) (refs := [[.pre 3], [.pre 2], [.res 1], [.pre 3], [.pre 2], [.res 4], [.res 3, .res 5], [.res 6], [.pre 1], [.pre 2], [.res 9], [.res 10], [.res 8, .res 11], [.res 7, .res 12], [.res 0, .res 2]]) (outs := [.res 13, .res 14, .pre 2, .pre 3, .pre 4, .pre 5, .pre 6]) (als := [false, false, false, false, false, false, false, false, false, false, false, false, false, false, false]) (posts := [.val (IsApp g m2 78 .u32 X), .val (Lit (.int .i64 i)), .val (Lit (.int .i64 (i / 4))), .val (IsApp g m2 78 .u32 X), .val (Lit (.int .i64 i)), .val (Lit (.int .i64 (i / 4))), .val (IsCell .u32 (X[(i / 4).toNat]?.getD 0)), .val (Lit (.int .u32 (X[(i / 4).toNat]?.getD 0))), .val (Lit (.int .u32 ((bytesI s).reverse[i.toNat]?.getD 0))), .val (Lit (.int .i64 i)), .val (Lit (.int .i64 (i % 4))), .val (Lit (.int .i64 (8 * (i % 4)))), .val (Lit (.int .u32 (((bytesI s).reverse[i.toNat]?.getD 0) * 256 ^ (i % 4).toNat))), .val (Lit (.int .u32 ((X[(i / 4).toNat]?.getD 0) + (((bytesI s).reverse[i.toNat]?.getD 0) * 256 ^ (i % 4).toNat)))), .val (IsAt g ((i / 4).toNat))])
        (out := [(41, .val (Lit (.int .u32 ((X[(i / 4).toNat]?.getD 0) + (((bytesI s).reverse[i.toNat]?.getD 0) * 256 ^ (i % 4).toNat))))), (42, .val (IsAt g ((i / 4).toNat))), (4, .val (Lit (.int .i64 i))), (3, .val (IsApp g m2 78 .u32 X)), (902, .val (Sz m2)), (2, .box 25 2 (Zero2)), (0, .val (Lit (.string s)))]) (nb := []) H9 (by kernel_rfl) 15 1 #[true, true, true, true, true, true, true, true, true, true, true, true, true, true, true, false] (by kernel_rfl) (by kernel_rfl) rfl rfl ?_ ?_
      · refine .cons (.plain rfl (ok_move (.tmp 0 rfl))) ?_
        refine .cons (.plain rfl (ok_move (.tmp 0 rfl))) ?_
        refine .cons (.plain rfl (ok_quo (r := (i / 4)) (.tmp 0 rfl) (.lit) (by omega) (by rw [Int.tdiv_eq_ediv_of_nonneg (by omega)]; exact w_i64 (by omega)))) ?_
        refine .cons (.plain rfl (ok_move (.tmp 0 rfl))) ?_
        refine .cons (.plain rfl (ok_move (.tmp 0 rfl))) ?_
        refine .cons (.plain rfl (ok_quo (r := (i / 4)) (.tmp 0 rfl) (.lit) (by omega) (by rw [Int.tdiv_eq_ediv_of_nonneg (by omega)]; exact w_i64 (by omega)))) ?_
        refine .cons (.plain rfl (ok_idxL (xs := X) ((i / 4).toNat) Try.underlying23 size32 (.weak (.tmp 0 rfl) weakAppL) (.tmp 1 rfl) (by omega) (by first | omega | (simp; omega)))) ?_
        refine .cons (.plain rfl (ok_loadCell aggU32 (.tmp 0 rfl))) ?_
        refine .cons (.plain rfl (ok_move (.tmp 0 rfl))) ?_
        refine .cons (.plain rfl (ok_move (.tmp 0 rfl))) ?_
        refine .cons (.plain rfl (ok_rem (r := (i % 4)) (.tmp 0 rfl) (.lit) (by omega) (Int.tmod_eq_emod_of_nonneg (by omega)))) ?_
        refine .cons (.plain rfl (ok_mul (r := (8 * (i % 4))) (.lit) (.tmp 0 rfl) (w_i64 (by omega)))) ?_
        refine .cons (.plain rfl (ok_shl (r := (((bytesI s).reverse[i.toNat]?.getD 0) * 256 ^ (i % 4).toNat)) (.tmp 0 rfl) (.tmp 1 rfl) (by omega) (shl_byte ((bytesI s).reverse[i.toNat]?.getD 0) (i % 4) (by omega) (by omega)))) ?_
        refine .cons (.plain rfl (ok_add (r := ((X[(i / 4).toNat]?.getD 0) + (((bytesI s).reverse[i.toNat]?.getD 0) * 256 ^ (i % 4).toNat))) (.tmp 0 rfl) (.tmp 1 rfl) (w_u32 (by omega)))) ?_
        refine .cons (.plain rfl (ok_idxR (xs := X) ((i / 4).toNat) Try.underlying23 size32 (.tmp 0 rfl) (.tmp 1 rfl) (by omega) (by first | omega | (simp; omega)))) ?_
        exact .nil
      clear H9 a9 w9 B9
      intro a18 w18 B18 H18
      refine any_oneT (l' := #[true, true, true, true, true, true, true, true, true, true, true, true, true, true, true, true]) 15 (by kernel_rfl) ?_
      refine store_row (xs := X) (y := ((X[(i / 4).toNat]?.getD 0) + (((bytesI s).reverse[i.toNat]?.getD 0) * 256 ^ (i % 4).toNat))) (j := ((i / 4).toNat)) (ks := [(41, .val (Lit (.int .u32 ((X[(i / 4).toNat]?.getD 0) + (((bytesI s).reverse[i.toNat]?.getD 0) * 256 ^ (i % 4).toNat))))), (4, .val (Lit (.int .i64 i))), (902, .val (Sz m2)), (2, .box 25 2 (Zero2)), (0, .val (Lit (.string s)))]) (l' := [(3, .val (IsApp g m2 78 .u32 (List.set X ((i / 4).toNat) ((X[(i / 4).toNat]?.getD 0) + (((bytesI s).reverse[i.toNat]?.getD 0) * 256 ^ (i % 4).toNat))))), (41, .val (Lit (.int .u32 ((X[(i / 4).toNat]?.getD 0) + (((bytesI s).reverse[i.toNat]?.getD 0) * 256 ^ (i % 4).toNat))))), (4, .val (Lit (.int .i64 i))), (902, .val (Sz m2)), (2, .box 25 2 (Zero2)), (0, .val (Lit (.string s)))]) 1 3 [3] [0, 2, 4, 5, 6] H18 hm2 rfl size32 rfl (.tmp 0 rfl) rfl (by first | omega | (simp; omega)) rfl (.cons (kept_lit) (.cons (kept_lit) (.cons (kept_sz) (.cons (kept_box (kept_lit)) (.cons (kept_lit) (.nil)))))) (by simp) rfl ?_
      clear H18 w18
      intro w19 H19
      refine any_done (by kernel_rfl) ?_
      refine block_normal ?_
      refine then_normal ?_
      refine flow_region (dsts := [some 12, some 13]) (refs := [[.pre 2], [.res 0]]) (outs := [.res 1, .pre 0, .pre 2, .pre 3, .pre 4, .pre 5]) (als := [false, false]) (posts := [.val (Lit (.int .i64 i)), .val (Lit (.int .i64 (i + 1)))])
        (out := [(13, .val (Lit (.int .i64 (i + 1)))), (3, .val (IsApp g m2 78 .u32 (List.set X ((i / 4).toNat) ((X[(i / 4).toNat]?.getD 0) + (((bytesI s).reverse[i.toNat]?.getD 0) * 256 ^ (i % 4).toNat))))), (4, .val (Lit (.int .i64 i))), (902, .val (Sz m2)), (2, .box 25 2 (Zero2)), (0, .val (Lit (.string s)))]) (nb := []) H19 2 [2] rfl (by kernel_rfl) rfl rfl ?_ ?_
      · refine .cons (.plain rfl (ok_move (.tmp 0 rfl))) ?_
        refine .cons (.plain rfl (ok_add (r := (i + 1)) (.tmp 0 rfl) (.lit) (w_i64 (by omega)))) ?_
        exact .nil
      clear H19 a18 w19 B18
      intro a20 w20 B20 H20
      refine ops_one ?_
      refine tail_op (D := .val (Lit (.int .i64 (i + 1)))) (l' := [(4, .val (Lit (.int .i64 (i + 1)))), (13, .val (Lit (.int .i64 (i + 1)))), (3, .val (IsApp g m2 78 .u32 (List.set X ((i / 4).toNat) ((X[(i / 4).toNat]?.getD 0) + (((bytesI s).reverse[i.toNat]?.getD 0) * 256 ^ (i % 4).toNat))))), (902, .val (Sz m2)), (2, .box 25 2 (Zero2)), (0, .val (Lit (.string s)))]) H20 rfl rfl rfl (.plain rfl (ok_assign (.tmp 0 rfl))) rfl rfl ?_
      clear H20 a20 w20 B20
      intro a21 w21 B21 H21
      refine ops_done ?_
      exact ⟨⟨g, i + 1, List.set X ((i / 4).toNat) ((X[(i / 4).toNat]?.getD 0) + (((bytesI s).reverse[i.toNat]?.getD 0) * 256 ^ (i % 4).toNat))⟩, B21, by exact ⟨by omega, st1⟩, St.pick H21 [0, 2, 3, 4, 5] rfl, by show ((s.size : Int) - (i + 1)).toNat < ((s.size : Int) - i).toNat; omega⟩
  · intro hc7
    replace hc7 := of_decide_eq_false hc7
    obtain rfl : i = (s.size : Int) := by omega
    have hxv : val 4294967296 X = byteV (bytesI s) := by have := hst.1.worth; rw [Int.toNat_natCast, List.take_of_length_le (by omega)] at this; exact this
    have hxd := hst.1.dig
    have hxl : List.length X ≤ 274877906944 := by have := hst.2; omega
    refine wp_exit ?_
    refine then_exit ?_
    refine then_exit ?_
    refine block_exit ?_
    refine then_normal ?_
    refine wp_seq ?_
    refine flow_region (dsts := [some 43, some 44, some 45, some 6]) (refs := [[.pre 2], [.res 0], [.res 1], []]) (outs := [.res 2, .res 3, .pre 1, .pre 2, .pre 3, .pre 4, .pre 5]) (als := [false, false, false, true]) (posts := [.val (IsApp g m2 78 .u32 X), .val (IsN (byteV (bytesI s))), .val (IsI (byteV (bytesI s))), .box 25 2 (Zero2)])
      (out := [(45, .val (IsI (byteV (bytesI s)))), (6, .box 25 2 (Zero2)), (4, .val (Lit (.int .i64 ((s).size : Int)))), (3, .val (IsApp g m2 78 .u32 X)), (902, .val (Sz m2)), (2, .box 25 2 (Zero2)), (0, .val (Lit (.string s)))]) (nb := [6]) H6 4 [4] rfl (by kernel_rfl) rfl rfl ?_ ?_
    · refine .cons (.plain rfl (ok_move (.tmp 0 rfl))) ?_
      refine .cons (.plain rfl (ok_buildN1 (.weak (.tmp 0 rfl) (weakAppM hxd hxv hxl)))) ?_
      refine .cons (.plain rfl (ok_call (con_r3norm (byteV (bytesI s))) (.cons (.tmp 0 rfl) (.nil)))) ?_
      refine .cons (.plain rfl (ok_alloc (D := Zero2) zeroI rfl (fun _ _ => rfl))) ?_
      exact .nil
    clear H6 a6 w6 B6
    intro a22 w22 B22 H22
    simp only [List.cons_append, List.nil_append] at H22
    refine ops_one ?_
    refine store_op (l' := [(45, .val (IsI (byteV (bytesI s)))), (6, .box 25 2 (IsI (byteV (bytesI s)))), (4, .val (Lit (.int .i64 ((s).size : Int)))), (3, .val (IsApp g m2 78 .u32 X)), (902, .val (Sz m2)), (2, .box 25 2 (Zero2)), (0, .val (Lit (.string s)))]) 1 H22 rfl tyI rfl (.tmp 0 rfl) shape_Z shape_I rfl rfl ?_
    clear H22 w22
    intro w23 H23
    refine ops_done ?_
    refine then_normal ?_
    refine wp_seq ?_
    refine wp_seq ?_
    rcases (show (¬ 0 < (s.size : Int)) ∨ (0 < (s.size : Int) ∧ (128 : Int) ≤ (bytesI s)[0]?.getD 0) ∨ (0 < (s.size : Int) ∧ ¬ (128 : Int) ≤ (bytesI s)[0]?.getD 0) by omega) with c0 | ⟨c0, c1⟩ | ⟨c0, c1⟩
    · have hN : byteV (bytesI s) = twosNum (bytesI s) := by unfold twosNum; rw [if_neg (by rw [List.getElem?_eq_none (by omega)]; simp)]
      refine flow_region (dsts := [some 46, some 47, some 48, some 49, some 50, some 51, some 52, some 53]) (refs := [[.pre 6], [.res 0], [.res 1], [.res 2], [.res 3], [.res 3], [.res 3], [.res 3]]) (outs := [.res 7, .pre 1, .pre 2, .pre 3, .pre 4, .pre 5, .pre 6]) (als := [false, false, false, false, false, false, false, false]) (posts := [.val (Lit (.string s)), .val (Lit (.int .i64 ((s).size : Int))), .val (IsB false), .val (IsB false), .val (IsUndef), .val (IsUndef), .val (IsUndef), .val (IsB false)])
        (out := [(53, .val (IsB false)), (6, .box 25 2 (IsI (byteV (bytesI s)))), (4, .val (Lit (.int .i64 ((s).size : Int)))), (3, .val (IsApp g m2 78 .u32 X)), (902, .val (Sz m2)), (2, .box 25 2 (Zero2)), (0, .val (Lit (.string s)))]) (nb := []) H23 8 [] rfl (by kernel_rfl) rfl rfl ?_ ?_
      · refine .cons (.plain rfl (ok_move (.tmp 0 rfl))) ?_
        refine .cons (.plain rfl (ok_lenS Try.underlying9 (.tmp 0 rfl))) ?_
        refine .cons (.plain rfl (ok_cmp (b := false) (.tmp 0 rfl) (.lit) ((decide_eq_false (c0)).symm))) ?_
        refine .cons (.plain rfl (ok_move (.tmp 0 rfl))) ?_
        refine .cons (.unwanted 3 true rfl rfl rfl 0 rfl) ?_
        refine .cons (.unwanted 3 true rfl rfl rfl 0 rfl) ?_
        refine .cons (.unwanted 3 true rfl rfl rfl 0 rfl) ?_
        refine .cons (.plain rfl (ok_pickF (.tmp 0 rfl) (.lit))) ?_
        exact .nil
      clear H23 a22 w23 B22
      intro a24 w24 B24 H24
      refine ops_done ?_
      refine then_normal ?_
      refine f_condF H24 (.tmp 0 rfl) ?_
      refine wp_skip ?_
      refine then_normal ?_
      refine wp_seq ?_
      refine flow_region (dsts := [some 73]) (refs := [[.pre 1]]) (outs := [.res 0, .pre 2, .pre 3, .pre 4, .pre 5, .pre 6]) (als := [false]) (posts := [.val (IsI (byteV (bytesI s)))])
        (out := [(73, .val (IsI (byteV (bytesI s)))), (4, .val (Lit (.int .i64 ((s).size : Int)))), (3, .val (IsApp g m2 78 .u32 X)), (902, .val (Sz m2)), (2, .box 25 2 (Zero2)), (0, .val (Lit (.string s)))]) (nb := []) H24 1 [1] rfl (by kernel_rfl) rfl rfl ?_ ?_
      · refine .cons (.plain rfl (ok_load tyI (.tmp 0 rfl))) ?_
        exact .nil
      clear H24 a24 w24 B24
      intro a25 w25 B25 H25
      refine ops_one ?_
      refine store_op (l' := [(73, .val (IsI (byteV (bytesI s)))), (4, .val (Lit (.int .i64 ((s).size : Int)))), (3, .val (IsApp g m2 78 .u32 X)), (902, .val (Sz m2)), (2, .box 25 2 (IsI (byteV (bytesI s)))), (0, .val (Lit (.string s)))]) 4 H25 rfl tyI rfl (.tmp 0 rfl) shape_Z shape_I rfl rfl ?_
      clear H25 w25
      intro w26 H26
      refine ops_done ?_
      refine then_normal ?_
      refine wp_ret ?_
      exact f_retC H26 tyI rfl 4 rfl (fun v w B h => by exact isI_eq hN h)
    · have hN : byteV (bytesI s) - 256 ^ (((s).size : Int)).toNat = twosNum (bytesI s) := by unfold twosNum; rw [if_pos c1, hlen, Int.toNat_natCast]
      refine flow_region (dsts := [some 46, some 47, some 48, some 49, some 50, some 51, some 52, some 53]) (refs := [[.pre 6], [.res 0], [.res 1], [.res 2], [.res 3, .pre 6], [.res 3, .res 4], [.res 3, .res 5], [.res 3, .res 6]]) (outs := [.res 7, .pre 1, .pre 2, .pre 3, .pre 4, .pre 5, .pre 6]) (als := [false, false, false, false, false, false, false, false]) (posts := [.val (Lit (.string s)), .val (Lit (.int .i64 ((s).size : Int))), .val (IsB true), .val (IsB true), .val (Lit (.string s)), .val (Lit (.int .u8 ((bytesI s)[0]?.getD 0))), .val (IsB true), .val (IsB true)])
        (out := [(53, .val (IsB true)), (6, .box 25 2 (IsI (byteV (bytesI s)))), (4, .val (Lit (.int .i64 ((s).size : Int)))), (3, .val (IsApp g m2 78 .u32 X)), (902, .val (Sz m2)), (2, .box 25 2 (Zero2)), (0, .val (Lit (.string s)))]) (nb := []) H23 8 [] rfl (by kernel_rfl) rfl rfl ?_ ?_
      · refine .cons (.plain rfl (ok_move (.tmp 0 rfl))) ?_
        refine .cons (.plain rfl (ok_lenS Try.underlying9 (.tmp 0 rfl))) ?_
        refine .cons (.plain rfl (ok_cmp (b := true) (.tmp 0 rfl) (.lit) ((decide_eq_true (c0)).symm))) ?_
        refine .cons (.plain rfl (ok_move (.tmp 0 rfl))) ?_
        refine .cons (.wanted 3 true rfl rfl rfl 0 rfl (ok_move (.tmp 1 rfl))) ?_
        refine .cons (.wanted 3 true rfl rfl rfl 0 rfl (ok_indexS (n := 0) (c := ((bytesI s)[0]?.getD 0)) Try.underlying9 (.tmp 1 rfl) (.lit) (rfl) (bytes_at s 0 (by omega)))) ?_
        refine .cons (.wanted 3 true rfl rfl rfl 0 rfl (ok_cmp (b := true) (.tmp 1 rfl) (.lit) ((decide_eq_true (c1)).symm))) ?_
        refine .cons (.plain rfl (ok_pickT (.tmp 0 rfl) (.tmp 1 rfl))) ?_
        exact .nil
      clear H23 a22 w23 B22
      intro a27 w27 B27 H27
      refine ops_done ?_
      refine then_normal ?_
      refine f_condT H27 (.tmp 0 rfl) ?_
      refine wp_seq ?_
      obtain ⟨m28, hm28, hL28, H28⟩ := St.mark H27 928
      clear H27
      have H29 := St.setwB H28 2 (D' := IsIb m28 (byteV (bytesI s))) rfl (fun v h => hardI hL28 v h) (l' := [(928, .val (Sz m28)), (53, .val (IsB true)), (6, .box 25 2 (IsIb m28 (byteV (bytesI s)))), (4, .val (Lit (.int .i64 ((s).size : Int)))), (3, .val (IsApp g m2 78 .u32 X)), (902, .val (Sz m2)), (2, .box 25 2 (Zero2)), (0, .val (Lit (.string s)))]) rfl
      clear H28
      clear hL28
      refine flow_region (dsts := [some 54, some 55, some 56, some 57, some 58, some 7]) (refs := [[.pre 7], [.res 0], [.res 1], [.res 2], [.res 3, .pre 0], [.res 4]]) (outs := [.res 5, .pre 0, .pre 2, .pre 3, .pre 4, .pre 5, .pre 6, .pre 7]) (als := [false, false, false, false, false, false]) (posts := [.val (Lit (.string s)), .val (Lit (.int .i64 ((s).size : Int))), .val (Lit (.int .i64 (((s).size : Int) / 4))), .val (Lit (.int .i64 ((((s).size : Int) / 4) + 1))), .val (IsNew m28 78 .u32 (List.replicate (((((s).size : Int) / 4) + 1).toNat) 0)), .val (IsNew m28 78 .u32 (List.replicate (((((s).size : Int) / 4) + 1).toNat) 0))])
        (out := [(7, .val (IsNew m28 78 .u32 (List.replicate (((((s).size : Int) / 4) + 1).toNat) 0))), (928, .val (Sz m28)), (6, .box 25 2 (IsIb m28 (byteV (bytesI s)))), (4, .val (Lit (.int .i64 ((s).size : Int)))), (3, .val (IsApp g m2 78 .u32 X)), (902, .val (Sz m2)), (2, .box 25 2 (Zero2)), (0, .val (Lit (.string s)))]) (nb := []) H29 6 [] rfl (by kernel_rfl) rfl rfl ?_ ?_
      · refine .cons (.plain rfl (ok_move (.tmp 0 rfl))) ?_
        refine .cons (.plain rfl (ok_lenS Try.underlying9 (.tmp 0 rfl))) ?_
        refine .cons (.plain rfl (ok_quo (r := (((s).size : Int) / 4)) (.tmp 0 rfl) (.lit) (by omega) (by rw [Int.tdiv_eq_ediv_of_nonneg (by omega)]; exact w_i64 (by omega)))) ?_
        refine .cons (.plain rfl (ok_add (r := ((((s).size : Int) / 4) + 1)) (.tmp 0 rfl) (.lit) (w_i64 (by omega)))) ?_
        refine .cons (.plain rfl (ok_make (((((s).size : Int) / 4) + 1).toNat) 1 (.inl rfl) Try.underlying23 info_limb (by omega) (by omega) (.tmp 0 rfl) (.tmp 0 rfl) (by omega) rfl)) ?_
        refine .cons (.plain rfl (ok_assign (.tmp 0 rfl))) ?_
        exact .nil
      clear H29 a27 w27 B27
      intro a30 w30 B30 H30
      refine ops_done ?_
      refine then_normal ?_
      refine wp_seq ?_
      obtain ⟨g31, hg31, H31⟩ := St.name H30 0 rfl
      replace H31 : St 74 w0 B0 a30 w30 B30 [(7, .val (IsApp g31 m28 78 .u32 (List.replicate (((((s).size : Int) / 4) + 1).toNat) 0))), (928, .val (Sz m28)), (6, .box 25 2 (IsIb m28 (byteV (bytesI s)))), (4, .val (Lit (.int .i64 ((s).size : Int)))), (3, .val (IsApp g m2 78 .u32 X)), (902, .val (Sz m2)), (2, .box 25 2 (Zero2)), (0, .val (Lit (.string s)))] [6, 2] := H31
      clear H30
      have hgm31 : ∀ b, g31 = some b → m28 ≤ b := fun b hb => (hg31 b hb).1
      clear hg31
      obtain ⟨hw1, hw2⟩ := ft_one2 ((s).size : Int) (by omega)
      refine flow_region (dsts := [some 59, some 60, some 61, some 62, some 63, some 64, some 65, some 66, some 67, some 68]) (refs := [[.pre 0], [.pre 7], [.res 1], [.res 2], [.pre 7], [.res 4], [.res 5], [.res 6], [.res 7], [.res 0, .res 3]]) (outs := [.res 8, .res 9, .pre 0, .pre 1, .pre 2, .pre 3, .pre 4, .pre 5, .pre 6, .pre 7]) (als := [false, false, false, false, false, false, false, false, false, false]) (posts := [.val (IsApp g31 m28 78 .u32 (List.replicate (((((s).size : Int) / 4) + 1).toNat) 0)), .val (Lit (.string s)), .val (Lit (.int .i64 ((s).size : Int))), .val (Lit (.int .i64 (((s).size : Int) / 4))), .val (Lit (.string s)), .val (Lit (.int .i64 ((s).size : Int))), .val (Lit (.int .i64 (((s).size : Int) % 4))), .val (Lit (.int .i64 (8 * (((s).size : Int) % 4)))), .val (Lit (.int .u32 (1 * 256 ^ (((s).size : Int) % 4).toNat))), .val (IsAt g31 ((((s).size : Int) / 4).toNat))])
        (out := [(67, .val (Lit (.int .u32 (1 * 256 ^ (((s).size : Int) % 4).toNat)))), (68, .val (IsAt g31 ((((s).size : Int) / 4).toNat))), (7, .val (IsApp g31 m28 78 .u32 (List.replicate (((((s).size : Int) / 4) + 1).toNat) 0))), (928, .val (Sz m28)), (6, .box 25 2 (IsIb m28 (byteV (bytesI s)))), (4, .val (Lit (.int .i64 ((s).size : Int)))), (3, .val (IsApp g m2 78 .u32 X)), (902, .val (Sz m2)), (2, .box 25 2 (Zero2)), (0, .val (Lit (.string s)))]) (nb := []) H31 10 [10] rfl (by kernel_rfl) rfl rfl ?_ ?_
      · refine .cons (.plain rfl (ok_move (.tmp 0 rfl))) ?_
        refine .cons (.plain rfl (ok_move (.tmp 0 rfl))) ?_
        refine .cons (.plain rfl (ok_lenS Try.underlying9 (.tmp 0 rfl))) ?_
        refine .cons (.plain rfl (ok_quo (r := (((s).size : Int) / 4)) (.tmp 0 rfl) (.lit) (by omega) (by rw [Int.tdiv_eq_ediv_of_nonneg (by omega)]; exact w_i64 (by omega)))) ?_
        refine .cons (.plain rfl (ok_move (.tmp 0 rfl))) ?_
        refine .cons (.plain rfl (ok_lenS Try.underlying9 (.tmp 0 rfl))) ?_
        refine .cons (.plain rfl (ok_rem (r := (((s).size : Int) % 4)) (.tmp 0 rfl) (.lit) (by omega) (Int.tmod_eq_emod_of_nonneg (by omega)))) ?_
        refine .cons (.plain rfl (ok_mul (r := (8 * (((s).size : Int) % 4))) (.lit) (.tmp 0 rfl) (w_i64 (by omega)))) ?_
        refine .cons (.plain rfl (ok_shl (r := (1 * 256 ^ (((s).size : Int) % 4).toNat)) (.lit) (.tmp 0 rfl) (by omega) (shl_byte 1 (((s).size : Int) % 4) (by omega) (by omega)))) ?_
        refine .cons (.plain rfl (ok_idxR (xs := (List.replicate (((((s).size : Int) / 4) + 1).toNat) 0)) ((((s).size : Int) / 4).toNat) Try.underlying23 size32 (.tmp 0 rfl) (.tmp 1 rfl) (by omega) (by first | omega | (simp; omega)))) ?_
        exact .nil
      clear H31 a30 w30 B30
      intro a32 w32 B32 H32
      refine ops_one ?_
      refine store_row (xs := (List.replicate (((((s).size : Int) / 4) + 1).toNat) 0)) (y := (1 * 256 ^ (((s).size : Int) % 4).toNat)) (j := ((((s).size : Int) / 4).toNat)) (ks := [(67, .val (Lit (.int .u32 (1 * 256 ^ (((s).size : Int) % 4).toNat)))), (928, .val (Sz m28)), (6, .box 25 2 (IsIb m28 (byteV (bytesI s)))), (4, .val (Lit (.int .i64 ((s).size : Int)))), (902, .val (Sz m2)), (2, .box 25 2 (Zero2)), (0, .val (Lit (.string s)))]) (l' := [(7, .val (IsApp g31 m28 78 .u32 (List.set (List.replicate (((((s).size : Int) / 4) + 1).toNat) 0) ((((s).size : Int) / 4).toNat) (1 * 256 ^ (((s).size : Int) % 4).toNat)))), (67, .val (Lit (.int .u32 (1 * 256 ^ (((s).size : Int) % 4).toNat)))), (928, .val (Sz m28)), (6, .box 25 2 (IsIb m28 (byteV (bytesI s)))), (4, .val (Lit (.int .i64 ((s).size : Int)))), (902, .val (Sz m2)), (2, .box 25 2 (Zero2)), (0, .val (Lit (.string s)))]) 1 2 [7] [0, 3, 4, 5, 7, 8, 9] H32 hm28 rfl size32 rfl (.tmp 0 rfl) rfl (by first | omega | (simp; omega)) rfl (.cons (kept_lit) (.cons (kept_sz) (.cons (kept_box (kept_ib (Nat.le_refl _))) (.cons (kept_lit) (.cons (kept_sz) (.cons (kept_box (kept_lit)) (.cons (kept_lit) (.nil)))))))) (by simp) rfl ?_
      clear H32 w32
      intro w33 H33
      refine ops_done ?_
      refine then_normal ?_
      refine flow_region (dsts := [some 69, some 70, some 71, some 72]) (refs := [[.pre 3], [.pre 0], [.res 1], [.res 0, .res 2]]) (outs := [.res 3, .pre 2, .pre 3, .pre 4, .pre 5, .pre 6, .pre 7]) (als := [false, false, false, false]) (posts := [.val (IsIb m28 (byteV (bytesI s))), .val (IsApp g31 m28 78 .u32 (List.set (List.replicate (((((s).size : Int) / 4) + 1).toNat) 0) ((((s).size : Int) / 4).toNat) (1 * 256 ^ (((s).size : Int) % 4).toNat))), .val (IsN (256 ^ (((s).size : Int)).toNat)), .val (IsI ((byteV (bytesI s)) - (256 ^ (((s).size : Int)).toNat)))])
        (out := [(72, .val (IsI ((byteV (bytesI s)) - (256 ^ (((s).size : Int)).toNat)))), (928, .val (Sz m28)), (6, .box 25 2 (IsIb m28 (byteV (bytesI s)))), (4, .val (Lit (.int .i64 ((s).size : Int)))), (902, .val (Sz m2)), (2, .box 25 2 (Zero2)), (0, .val (Lit (.string s)))]) (nb := []) H33 4 [4] rfl (by kernel_rfl) rfl rfl ?_ ?_
      · refine .cons (.plain rfl (ok_load tyI (.tmp 0 rfl))) ?_
        refine .cons (.plain rfl (ok_move (.tmp 0 rfl))) ?_
        refine .cons (.plain rfl (ok_buildN1 (.weak (.tmp 0 rfl) (weakAppM hw2 hw1 (by simp; omega))))) ?_
        refine .cons (.plain rfl (ok_call (con_r3sub (byteV (bytesI s)) (256 ^ (((s).size : Int)).toNat) hfV hfP (by omega)) (.cons (.weak (.weak (.tmp 0 rfl) weakIbI) weakIN) (.cons (.tmp 1 rfl) (.nil))))) ?_
        exact .nil
      clear H33 a32 w33 B32
      intro a34 w34 B34 H34
      refine ops_one ?_
      refine store_op (l' := [(72, .val (IsI ((byteV (bytesI s)) - (256 ^ (((s).size : Int)).toNat)))), (928, .val (Sz m28)), (6, .box 25 2 (IsI ((byteV (bytesI s)) - (256 ^ (((s).size : Int)).toNat)))), (4, .val (Lit (.int .i64 ((s).size : Int)))), (902, .val (Sz m2)), (2, .box 25 2 (Zero2)), (0, .val (Lit (.string s)))]) 2 H34 rfl tyI rfl (.tmp 0 rfl) shape_Ib shape_I rfl rfl ?_
      clear H34 w34
      intro w35 H35
      refine ops_done ?_
      refine then_normal ?_
      refine wp_seq ?_
      refine flow_region (dsts := [some 73]) (refs := [[.pre 2]]) (outs := [.res 0, .pre 1, .pre 3, .pre 4, .pre 5, .pre 6]) (als := [false]) (posts := [.val (IsI ((byteV (bytesI s)) - (256 ^ (((s).size : Int)).toNat)))])
        (out := [(73, .val (IsI ((byteV (bytesI s)) - (256 ^ (((s).size : Int)).toNat)))), (928, .val (Sz m28)), (4, .val (Lit (.int .i64 ((s).size : Int)))), (902, .val (Sz m2)), (2, .box 25 2 (Zero2)), (0, .val (Lit (.string s)))]) (nb := []) H35 1 [1] rfl (by kernel_rfl) rfl rfl ?_ ?_
      · refine .cons (.plain rfl (ok_load tyI (.tmp 0 rfl))) ?_
        exact .nil
      clear H35 a34 w35 B34
      intro a36 w36 B36 H36
      refine ops_one ?_
      refine store_op (l' := [(73, .val (IsI ((byteV (bytesI s)) - (256 ^ (((s).size : Int)).toNat)))), (928, .val (Sz m28)), (4, .val (Lit (.int .i64 ((s).size : Int)))), (902, .val (Sz m2)), (2, .box 25 2 (IsI ((byteV (bytesI s)) - (256 ^ (((s).size : Int)).toNat)))), (0, .val (Lit (.string s)))]) 4 H36 rfl tyI rfl (.tmp 0 rfl) shape_Z shape_I rfl rfl ?_
      clear H36 w36
      intro w37 H37
      refine ops_done ?_
      refine then_normal ?_
      refine wp_ret ?_
      exact f_retC H37 tyI rfl 4 rfl (fun v w B h => by exact isI_eq hN h)
    · have hN : byteV (bytesI s) = twosNum (bytesI s) := by unfold twosNum; rw [if_neg c1]
      refine flow_region (dsts := [some 46, some 47, some 48, some 49, some 50, some 51, some 52, some 53]) (refs := [[.pre 6], [.res 0], [.res 1], [.res 2], [.res 3, .pre 6], [.res 3, .res 4], [.res 3, .res 5], [.res 3, .res 6]]) (outs := [.res 7, .pre 1, .pre 2, .pre 3, .pre 4, .pre 5, .pre 6]) (als := [false, false, false, false, false, false, false, false]) (posts := [.val (Lit (.string s)), .val (Lit (.int .i64 ((s).size : Int))), .val (IsB true), .val (IsB true), .val (Lit (.string s)), .val (Lit (.int .u8 ((bytesI s)[0]?.getD 0))), .val (IsB false), .val (IsB false)])
        (out := [(53, .val (IsB false)), (6, .box 25 2 (IsI (byteV (bytesI s)))), (4, .val (Lit (.int .i64 ((s).size : Int)))), (3, .val (IsApp g m2 78 .u32 X)), (902, .val (Sz m2)), (2, .box 25 2 (Zero2)), (0, .val (Lit (.string s)))]) (nb := []) H23 8 [] rfl (by kernel_rfl) rfl rfl ?_ ?_
      · refine .cons (.plain rfl (ok_move (.tmp 0 rfl))) ?_
        refine .cons (.plain rfl (ok_lenS Try.underlying9 (.tmp 0 rfl))) ?_
        refine .cons (.plain rfl (ok_cmp (b := true) (.tmp 0 rfl) (.lit) ((decide_eq_true (c0)).symm))) ?_
        refine .cons (.plain rfl (ok_move (.tmp 0 rfl))) ?_
        refine .cons (.wanted 3 true rfl rfl rfl 0 rfl (ok_move (.tmp 1 rfl))) ?_
        refine .cons (.wanted 3 true rfl rfl rfl 0 rfl (ok_indexS (n := 0) (c := ((bytesI s)[0]?.getD 0)) Try.underlying9 (.tmp 1 rfl) (.lit) (rfl) (bytes_at s 0 (by omega)))) ?_
        refine .cons (.wanted 3 true rfl rfl rfl 0 rfl (ok_cmp (b := false) (.tmp 1 rfl) (.lit) ((decide_eq_false (c1)).symm))) ?_
        refine .cons (.plain rfl (ok_pickT (.tmp 0 rfl) (.tmp 1 rfl))) ?_
        exact .nil
      clear H23 a22 w23 B22
      intro a38 w38 B38 H38
      refine ops_done ?_
      refine then_normal ?_
      refine f_condF H38 (.tmp 0 rfl) ?_
      refine wp_skip ?_
      refine then_normal ?_
      refine wp_seq ?_
      refine flow_region (dsts := [some 73]) (refs := [[.pre 1]]) (outs := [.res 0, .pre 2, .pre 3, .pre 4, .pre 5, .pre 6]) (als := [false]) (posts := [.val (IsI (byteV (bytesI s)))])
        (out := [(73, .val (IsI (byteV (bytesI s)))), (4, .val (Lit (.int .i64 ((s).size : Int)))), (3, .val (IsApp g m2 78 .u32 X)), (902, .val (Sz m2)), (2, .box 25 2 (Zero2)), (0, .val (Lit (.string s)))]) (nb := []) H38 1 [1] rfl (by kernel_rfl) rfl rfl ?_ ?_
      · refine .cons (.plain rfl (ok_load tyI (.tmp 0 rfl))) ?_
        exact .nil
      clear H38 a38 w38 B38
      intro a39 w39 B39 H39
      refine ops_one ?_
      refine store_op (l' := [(73, .val (IsI (byteV (bytesI s)))), (4, .val (Lit (.int .i64 ((s).size : Int)))), (3, .val (IsApp g m2 78 .u32 X)), (902, .val (Sz m2)), (2, .box 25 2 (IsI (byteV (bytesI s)))), (0, .val (Lit (.string s)))]) 4 H39 rfl tyI rfl (.tmp 0 rfl) shape_Z shape_I rfl rfl ?_
      clear H39 w39
      intro w40 H40
      refine ops_done ?_
      refine then_normal ?_
      refine wp_ret ?_
      exact f_retC H40 tyI rfl 4 rfl (fun v w B h => by exact isI_eq hN h)
end Go.Proofs.Ytgnophflogmmaaa
