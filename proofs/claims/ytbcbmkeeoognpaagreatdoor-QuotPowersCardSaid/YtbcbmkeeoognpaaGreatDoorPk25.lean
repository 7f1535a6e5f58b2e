/- Contracts of functions, and plain facts, part 25. -/
import Derived.Test.YtbcbmkeeoognpaaGreatDoorPk20
import Derived.Test.YtbcbmkeeoognpaaGreatDoorPk24
set_option linter.unusedVariables false
set_option linter.unusedSimpArgs false
/- R2fits. (Printed by flowfn.py.) -/
namespace Go.Proofs.YtbcbmkeeoognpaaGreatDoor
open Go Go.RowKit

set_option maxRecDepth 20000 in
set_option maxHeartbeats 2000000 in
theorem con_limb (xs : List Int) (hd : Dig 4294967296 xs) (i : Int) (hi : 0 ≤ i) : Con Tryz.prog 238 [IsL .u32 xs, Lit (.int .i64 i)] (Lit (.int .u64 (xs[i.toNat]?.getD 0))) := by
  refine f_enter (N := 14) Tryz.ntmps238 (fun _ _ => by go_simp) Tryz.func238 rfl (by simp) ?_
  intro a0 w0 B0 H0
  replace H0 : St 14 w0 B0 a0 w0 B0 [(0, .val (IsL .u32 xs)), (1, .val (Lit (.int .i64 i)))] [] := H0
  have hb := hd.get (by omega) i.toNat
  refine wp_seq ?_
  refine flow_region (dsts := [some 4]) (refs := [[]]) (outs := [.res 0, .pre 0, .pre 1]) (als := [false]) (posts := [.val (Lit (.int .u64 0))])
    (out := [(4, .val (Lit (.int .u64 0))), (0, .val (IsL .u32 xs)), (1, .val (Lit (.int .i64 i)))]) (nb := []) H0 1 [] rfl (by kernel_rfl) rfl rfl ?_ ?_
  · refine .cons (.plain rfl (ok_assign (.lit))) ?_
    exact .nil
  clear H0
  intro a1 w1 B1 H1
  refine ops_done ?_
  refine then_normal ?_
  refine wp_seq ?_
  refine wp_seq ?_
  refine flow_region (dsts := [some 5, some 6, some 7, some 8]) (refs := [[.pre 2], [.pre 1], [.res 1], [.res 0, .res 2]]) (outs := [.res 3, .pre 0, .pre 1, .pre 2]) (als := [false, false, false, false]) (posts := [.val (Lit (.int .i64 i)), .val (IsL .u32 xs), .val (Lit (.int .i64 (List.length xs : Int))), .val (IsB (decide (i < (List.length xs : Int))))])
    (out := [(8, .val (IsB (decide (i < (List.length xs : Int))))), (4, .val (Lit (.int .u64 0))), (0, .val (IsL .u32 xs)), (1, .val (Lit (.int .i64 i)))]) (nb := []) H1 4 [] rfl (by kernel_rfl) rfl rfl ?_ ?_
  · refine .cons (.plain rfl (ok_move (.tmp 0 rfl))) ?_
    refine .cons (.plain rfl (ok_move (.tmp 0 rfl))) ?_
    refine .cons (.plain rfl (ok_lenL Tryz.underlying23 (.tmp 0 rfl))) ?_
    refine .cons (.plain rfl (ok_cmp (.tmp 0 rfl) (.tmp 1 rfl) rfl)) ?_
    exact .nil
  clear H1 a1 w1 B1
  intro a2 w2 B2 H2
  refine ops_done ?_
  refine then_normal ?_
  refine f_cond H2 (.tmp 0 rfl) ?_ ?_
  · intro hc3
    replace hc3 := of_decide_eq_true hc3
    refine wp_seq ?_
    refine flow_region (dsts := [some 9, some 10, some 11, some 12, some 13, some 4]) (refs := [[.pre 2], [.pre 3], [.res 0, .res 1], [.res 2], [.res 3], [.res 4]]) (outs := [.res 5]) (als := [false, false, false, false, false, false]) (posts := [.val (IsL .u32 xs), .val (Lit (.int .i64 i)), .val (IsCell .u32 (xs[i.toNat]?.getD 0)), .val (Lit (.int .u32 (xs[i.toNat]?.getD 0))), .val (Lit (.int .u64 (xs[i.toNat]?.getD 0))), .val (Lit (.int .u64 (xs[i.toNat]?.getD 0)))])
      (out := [(4, .val (Lit (.int .u64 (xs[i.toNat]?.getD 0))))]) (nb := []) H2 6 [] rfl (by kernel_rfl) rfl rfl ?_ ?_
    · refine .cons (.plain rfl (ok_move (.tmp 0 rfl))) ?_
      refine .cons (.plain rfl (ok_move (.tmp 0 rfl))) ?_
      refine .cons (.plain rfl (ok_idxL (xs := xs) i.toNat Tryz.underlying23 size32 (.tmp 0 rfl) (.tmp 1 rfl) (by omega) (by omega))) ?_
      refine .cons (.plain rfl (ok_loadCell aggU32 (.tmp 0 rfl))) ?_
      refine .cons (.plain rfl (ok_conv Tryz.underlying44 Tryz.underlying49 (r := (xs[i.toNat]?.getD 0)) (.tmp 0 rfl) (w_u64 (by omega)))) ?_
      refine .cons (.plain rfl (ok_assign (.tmp 0 rfl))) ?_
      exact .nil
    clear H2 a2 w2 B2
    intro a4 w4 B4 H4
    refine ops_done ?_
    refine then_normal ?_
    refine wp_ret ?_
    refine then_ret ?_
    exact f_ret H4 rfl 0 rfl (fun _ _ _ h => h)
  · intro hc3
    replace hc3 := of_decide_eq_false hc3
    refine wp_skip ?_
    refine then_normal ?_
    refine wp_seq ?_
    refine flow_region (dsts := [some 4]) (refs := [[]]) (outs := [.res 0]) (als := [false]) (posts := [.val (Lit (.int .u64 0))])
      (out := [(4, .val (Lit (.int .u64 0)))]) (nb := []) H2 1 [] rfl (by kernel_rfl) rfl rfl ?_ ?_
    · refine .cons (.plain rfl (ok_assign (.lit))) ?_
      exact .nil
    clear H2 a2 w2 B2
    intro a5 w5 B5 H5
    refine ops_done ?_
    refine then_normal ?_
    refine wp_ret ?_
    exact f_ret H5 rfl 0 rfl (fun v w B h => by refine lit_int ?_ h; first | rfl | (rw [List.getElem?_eq_none (by omega)]; rfl))

/-- The lower i limbs. -/
def low (xs : List Int) (i : Nat) : Int := val 4294967296 (xs.take i)
theorem low_succ (xs : List Int) (i : Nat) : low xs (i + 1) = low xs i + 4294967296 ^ i * xs[i]?.getD 0 := val_take_succ' _ _ _
theorem low_all (xs : List Int) (i : Nat) (h : xs.length ≤ i) : low xs i = val 4294967296 xs := by unfold low; rw [List.take_of_length_le h]
theorem low_lt (xs : List Int) (d : Dig 4294967296 xs) (i : Nat) : 0 ≤ low xs i ∧ low xs i < 4294967296 ^ i := by
  refine ⟨val_nonneg (by omega) (d.take i), ?_⟩
  have h := val_lt (b := 4294967296) (by omega) (d.take i)
  have h2 : (4294967296 : Int) ^ (xs.take i).length ≤ 4294967296 ^ i := pow_le (by omega) (by rw [List.length_take]; omega)
  unfold low
  omega
/-- The first i limbs of q * ys against those of xs. -/
structure FitI (xs ys : List Int) (q : Int) (i : Nat) (c s : Int) : Prop where
  cb : 0 ≤ c ∧ c < 4294967296
  sg : s = -1 ∨ s = 0 ∨ s = 1
  eq : ∃ d : Int, q * low ys i = low xs i + d + 4294967296 ^ i * c ∧ (s = -1 ↔ d < 0) ∧ (s = 1 ↔ 0 < d) ∧ -(4294967296 ^ i) < d ∧ d < 4294967296 ^ i
theorem fit_start (xs ys : List Int) (q : Int) : FitI xs ys q 0 0 0 := ⟨by omega, by omega, 0, by simp [low, val], by omega, by omega, by simp, by simp⟩
theorem fit_step {xs ys : List Int} (dx : Dig 4294967296 xs) (dy : Dig 4294967296 ys) {q : Int} (hq : 0 ≤ q ∧ q < 4294967296) {i : Nat} {c s : Int} (h : FitI xs ys q i c s) :
    FitI xs ys q (i + 1) ((ys[i]?.getD 0 * q + c) / 4294967296) (if (ys[i]?.getD 0 * q + c) % 4294967296 = xs[i]?.getD 0 then s else if (ys[i]?.getD 0 * q + c) % 4294967296 < xs[i]?.getD 0 then -1 else 1) := by
  obtain ⟨hc, hs, d, he, h1, h2, h3, h4⟩ := h
  have hy := dy.get (by omega) i
  have hx := dx.get (by omega) i
  have hp : (0 : Int) < 4294967296 ^ i := Int.pow_pos (by omega)
  have hm : ys[i]?.getD 0 * q ≤ 4294967295 * 4294967295 := Int.mul_le_mul (by omega) (by omega) hq.1 (by omega)
  have hm0 : 0 ≤ ys[i]?.getD 0 * q := Int.mul_nonneg hy.1 hq.1
  have ht : ys[i]?.getD 0 * q + c = 4294967296 * ((ys[i]?.getD 0 * q + c) / 4294967296) + (ys[i]?.getD 0 * q + c) % 4294967296 := (Int.mul_ediv_add_emod _ _).symm
  generalize hT : ys[i]?.getD 0 * q + c = T at *
  obtain ⟨u, hu⟩ : ∃ u, T % 4294967296 = u := ⟨_, rfl⟩
  obtain ⟨cc, hcc⟩ : ∃ cc, T / 4294967296 = cc := ⟨_, rfl⟩
  have hub : 0 ≤ u ∧ u < 4294967296 := by omega
  have hcb : 0 ≤ cc ∧ cc < 4294967296 := by omega
  rw [hu, hcc] at ht ⊢
  refine ⟨hcb, by split <;> (try split) <;> omega, d + 4294967296 ^ i * (u - xs[i]?.getD 0), ?_, ?_⟩
  · rw [low_succ, low_succ, Int.mul_add, he, Int.pow_succ]
    have e : q * (4294967296 ^ i * ys[i]?.getD 0) = 4294967296 ^ i * (T - c) := by rw [← hT]; grind
    rw [e, ht]
    grind
  · rw [Int.pow_succ]
    generalize xs[i]?.getD 0 = x at *
    generalize (4294967296 : Int) ^ i = P at *
    have b1 : P * (u - x) ≤ P * 4294967295 := Int.mul_le_mul_of_nonneg_left (by omega) (by omega)
    have b2 : P * (-4294967295) ≤ P * (u - x) := Int.mul_le_mul_of_nonneg_left (by omega) (by omega)
    by_cases e : u = x
    · subst e
      rw [if_pos rfl, Int.sub_self, Int.mul_zero, Int.add_zero]
      omega
    · rw [if_neg e]
      by_cases g : u < x
      · have b3 : P * (u - x) ≤ P * (-1) := Int.mul_le_mul_of_nonneg_left (by omega) (by omega)
        rw [if_pos g]
        generalize P * (u - x) = Z at *
        omega
      · have b3 : P * 1 ≤ P * (u - x) := Int.mul_le_mul_of_nonneg_left (by omega) (by omega)
        rw [if_neg g]
        generalize P * (u - x) = Z at *
        omega
theorem fit_end {xs ys : List Int} (dx : Dig 4294967296 xs) {q : Int} {i : Nat} {s : Int} (h : FitI xs ys q i 0 s) (h1 : xs.length ≤ i) (h2 : ys.length ≤ i) : (s ≤ 0) ↔ q * val 4294967296 ys ≤ val 4294967296 xs := by
  obtain ⟨hc, hs, d, he, g1, g2, g3, g4⟩ := h
  rw [low_all _ _ h1, low_all _ _ h2, Int.mul_zero, Int.add_zero] at he
  omega

set_option maxRecDepth 20000 in
set_option maxHeartbeats 2000000 in
theorem con_fits (xs ys : List Int) (dx : Dig 4294967296 xs) (dy : Dig 4294967296 ys) (hx : xs.length ≤ 1099511627776) (hy : ys.length ≤ 1099511627776) (q : Int) (hq : 0 ≤ q ∧ q < 4294967296) : Con Tryz.prog 239 [IsL .u32 xs, IsL .u32 ys, Lit (.int .u32 q)] (IsB (decide (q * val 4294967296 ys ≤ val 4294967296 xs))) := by
  refine f_enter (N := 51) Tryz.ntmps239 (fun _ _ => by go_simp) Tryz.func239 rfl (by simp) ?_
  intro a0 w0 B0 H0
  replace H0 : St 51 w0 B0 a0 w0 B0 [(0, .val (IsL .u32 xs)), (1, .val (IsL .u32 ys)), (2, .val (Lit (.int .u32 q)))] [] := H0
  refine wp_seq ?_
  refine flow_region (dsts := [some 6]) (refs := [[]]) (outs := [.res 0, .pre 0, .pre 1, .pre 2]) (als := [false]) (posts := [.val (IsB false)])
    (out := [(6, .val (IsB false)), (0, .val (IsL .u32 xs)), (1, .val (IsL .u32 ys)), (2, .val (Lit (.int .u32 q)))]) (nb := []) H0 1 [] rfl (by kernel_rfl) rfl rfl ?_ ?_
  · refine .cons (.plain rfl (ok_assign (.lit))) ?_
    exact .nil
  clear H0
  intro a1 w1 B1 H1
  refine ops_done ?_
  refine then_normal ?_
  refine wp_seq ?_
  refine flow_region (dsts := [some 7]) (refs := [[]]) (outs := [.res 0, .pre 0, .pre 1, .pre 2, .pre 3]) (als := [false]) (posts := [.val (Lit (.int .i64 0))])
    (out := [(7, .val (Lit (.int .i64 0))), (6, .val (IsB false)), (0, .val (IsL .u32 xs)), (1, .val (IsL .u32 ys)), (2, .val (Lit (.int .u32 q)))]) (nb := []) H1 1 [] rfl (by kernel_rfl) rfl rfl ?_ ?_
  · refine .cons (.plain rfl (ok_assign (.lit))) ?_
    exact .nil
  clear H1 a1 w1 B1
  intro a2 w2 B2 H2
  refine ops_done ?_
  refine then_normal ?_
  refine wp_seq ?_
  refine flow_region (dsts := [some 8]) (refs := [[]]) (outs := [.res 0, .pre 0, .pre 1, .pre 2, .pre 3, .pre 4]) (als := [false]) (posts := [.val (Lit (.int .u64 0))])
    (out := [(8, .val (Lit (.int .u64 0))), (7, .val (Lit (.int .i64 0))), (6, .val (IsB false)), (0, .val (IsL .u32 xs)), (1, .val (IsL .u32 ys)), (2, .val (Lit (.int .u32 q)))]) (nb := []) H2 1 [] rfl (by kernel_rfl) rfl rfl ?_ ?_
  · refine .cons (.plain rfl (ok_assign (.lit))) ?_
    exact .nil
  clear H2 a2 w2 B2
  intro a3 w3 B3 H3
  refine ops_done ?_
  refine then_normal ?_
  refine wp_seq ?_
  refine wp_seq ?_
  refine flow_region (dsts := [some 9]) (refs := [[]]) (outs := [.res 0, .pre 0, .pre 1, .pre 2, .pre 3, .pre 4, .pre 5]) (als := [false]) (posts := [.val (Lit (.int .i64 0))])
    (out := [(9, .val (Lit (.int .i64 0))), (8, .val (Lit (.int .u64 0))), (7, .val (Lit (.int .i64 0))), (6, .val (IsB false)), (0, .val (IsL .u32 xs)), (1, .val (IsL .u32 ys)), (2, .val (Lit (.int .u32 q)))]) (nb := []) H3 1 [] rfl (by kernel_rfl) rfl rfl ?_ ?_
  · refine .cons (.plain rfl (ok_assign (.lit))) ?_
    exact .nil
  clear H3 a3 w3 B3
  intro a4 w4 B4 H4
  refine ops_done ?_
  refine then_normal ?_
  refine wp_block ?_
  refine f_loop (fun (⟨i, c, g⟩ : Int × Int × Int) => [(9, .val (Lit (.int .i64 i))), (8, .val (Lit (.int .u64 c))), (7, .val (Lit (.int .i64 g))), (6, .val (IsB false)), (0, .val (IsL .u32 xs)), (1, .val (IsL .u32 ys)), (2, .val (Lit (.int .u32 q)))]) (fun (⟨i, c, g⟩ : Int × Int × Int) => (0 ≤ i ∧ i ≤ (xs.length : Int) + (ys.length : Int) + 1) ∧ FitI xs ys q i.toNat c g ∧ ((xs.length : Int) < i → (ys.length : Int) < i → c = 0)) (fun (⟨i, c, g⟩ : Int × Int × Int) => ((xs.length : Int) + (ys.length : Int) + 2 - i).toNat) (⟨0, 0, 0⟩) (St.pick H4 [0, 1, 2, 3, 4, 5, 6] rfl) (by exact ⟨by omega, fit_start _ _ _, fun h => by omega⟩) ?_
  clear H4 a4 w4 B4
  rintro ⟨i, c, g⟩ a5 w5 B5 hI5 H5
  replace hI5 : (0 ≤ i ∧ i ≤ (xs.length : Int) + (ys.length : Int) + 1) ∧ FitI xs ys q i.toNat c g ∧ ((xs.length : Int) < i → (ys.length : Int) < i → c = 0) := hI5
  replace H5 : St 51 w0 B0 a5 w5 B5 [(9, .val (Lit (.int .i64 i))), (8, .val (Lit (.int .u64 c))), (7, .val (Lit (.int .i64 g))), (6, .val (IsB false)), (0, .val (IsL .u32 xs)), (1, .val (IsL .u32 ys)), (2, .val (Lit (.int .u32 q)))] [] := H5
  obtain ⟨hi, hF, hz⟩ := hI5
  have hcb := hF.cb
  have hyb := dy.get (by omega) i.toNat
  have hxb := dx.get (by omega) i.toNat
  have hmul : 0 ≤ ys[i.toNat]?.getD 0 * q ∧ ys[i.toNat]?.getD 0 * q ≤ 4294967295 * 4294967295 := ⟨Int.mul_nonneg hyb.1 hq.1, Int.mul_le_mul (by omega) (by omega) hq.1 (by omega)⟩
  refine wp_seq ?_
  refine wp_seq ?_
  refine flow_region (dsts := [some 12, some 13, some 14, some 15, some 16, some 17, some 18, some 19, some 20, some 21, some 22, some 23, some 24, some 25]) (refs := [[.pre 0], [.pre 5], [.res 1], [.res 0, .res 2], [.res 3], [.res 4, .pre 0], [.res 4, .pre 4], [.res 4, .res 6], [.res 4, .res 5, .res 7], [.res 4, .res 8], [.res 9], [.res 10, .pre 1], [.res 10, .res 11], [.res 10, .res 12]]) (outs := [.res 13, .pre 0, .pre 1, .pre 2, .pre 3, .pre 4, .pre 5, .pre 6]) (als := [false, false, false, false, false, false, false, false, false, false, false, false, false, false]) (posts := [.val (Lit (.int .i64 i)), .val (IsL .u32 ys), .val (Lit (.int .i64 (List.length ys : Int))), .val (IsB (decide (i < (List.length ys : Int)))), .val (IsB (decide (i < (List.length ys : Int)))), .val (Grd ((decide (i < (List.length ys : Int))) == false) (Lit (.int .i64 i))), .val (Grd ((decide (i < (List.length ys : Int))) == false) (IsL .u32 xs)), .val (Grd ((decide (i < (List.length ys : Int))) == false) (Lit (.int .i64 (List.length xs : Int)))), .val (Grd ((decide (i < (List.length ys : Int))) == false) (IsB (decide (i < (List.length xs : Int))))), .val (IsB ((decide (i < (List.length ys : Int))) || (decide (i < (List.length xs : Int))))), .val (IsB ((decide (i < (List.length ys : Int))) || (decide (i < (List.length xs : Int))))), .val (Grd (((decide (i < (List.length ys : Int))) || (decide (i < (List.length xs : Int)))) == false) (Lit (.int .u64 c))), .val (Grd (((decide (i < (List.length ys : Int))) || (decide (i < (List.length xs : Int)))) == false) (IsB (decide (0 < c)))), .val (IsB (((decide (i < (List.length ys : Int))) || (decide (i < (List.length xs : Int)))) || (decide (0 < c))))])
    (out := [(25, .val (IsB (((decide (i < (List.length ys : Int))) || (decide (i < (List.length xs : Int)))) || (decide (0 < c))))), (9, .val (Lit (.int .i64 i))), (8, .val (Lit (.int .u64 c))), (7, .val (Lit (.int .i64 g))), (6, .val (IsB false)), (0, .val (IsL .u32 xs)), (1, .val (IsL .u32 ys)), (2, .val (Lit (.int .u32 q)))]) (nb := []) H5 14 [] rfl (by kernel_rfl) rfl rfl ?_ ?_
  · refine .cons (.plain rfl (ok_move (.tmp 0 rfl))) ?_
    refine .cons (.plain rfl (ok_move (.tmp 0 rfl))) ?_
    refine .cons (.plain rfl (ok_lenL Tryz.underlying23 (.tmp 0 rfl))) ?_
    refine .cons (.plain rfl (ok_cmp (.tmp 0 rfl) (.tmp 1 rfl) rfl)) ?_
    refine .cons (.plain rfl (ok_move (.tmp 0 rfl))) ?_
    refine .cons (.sym 4 false (decide (i < (List.length ys : Int))) ((decide (i < (List.length ys : Int))) == false) rfl rfl rfl 0 (need' := [(16, .val (IsB (decide (i < (List.length ys : Int))))), (9, .val (Lit (.int .i64 i)))]) rfl rfl (fun a w B e h => ⟨h.1, h.2.1, trivial⟩) (fun e => ok_move (.tmp 1 rfl))) ?_
    refine .cons (.sym 4 false (decide (i < (List.length ys : Int))) ((decide (i < (List.length ys : Int))) == false) rfl rfl rfl 0 (need' := [(16, .val (IsB (decide (i < (List.length ys : Int))))), (0, .val (IsL .u32 xs))]) rfl rfl (fun a w B e h => ⟨h.1, h.2.1, trivial⟩) (fun e => ok_move (.tmp 1 rfl))) ?_
    refine .cons (.sym 4 false (decide (i < (List.length ys : Int))) ((decide (i < (List.length ys : Int))) == false) rfl rfl rfl 0 (need' := [(16, .val (IsB (decide (i < (List.length ys : Int))))), (18, .val (IsL .u32 xs))]) rfl rfl (fun a w B e h => ⟨h.1, h.2.1.1 (e), trivial⟩) (fun e => ok_lenL Tryz.underlying23 (.tmp 1 rfl))) ?_
    refine .cons (.sym 4 false (decide (i < (List.length ys : Int))) ((decide (i < (List.length ys : Int))) == false) rfl rfl rfl 0 (need' := [(16, .val (IsB (decide (i < (List.length ys : Int))))), (17, .val (Lit (.int .i64 i))), (19, .val (Lit (.int .i64 (List.length xs : Int))))]) rfl rfl (fun a w B e h => ⟨h.1, h.2.1.1 (e), h.2.2.1.1 (e), trivial⟩) (fun e => ok_cmp (.tmp 1 rfl) (.tmp 2 rfl) rfl)) ?_
    refine .cons (.plain rfl (ok_pickS (decide (i < (List.length ys : Int))) (.tmp 0 rfl) (fun e => Opd.eqB (.lit) (by rw [e]; rfl)) (fun e => Opd.eqB (Opd.grd (.tmp 1 rfl) (by first | (rw [e]; rfl) | (simp only [e]; rfl) | (simp [*] at *; done))) (by rw [e]; rfl)))) ?_
    refine .cons (.plain rfl (ok_move (.tmp 0 rfl))) ?_
    refine .cons (.sym 10 false ((decide (i < (List.length ys : Int))) || (decide (i < (List.length xs : Int)))) (((decide (i < (List.length ys : Int))) || (decide (i < (List.length xs : Int)))) == false) rfl rfl rfl 0 (need' := [(22, .val (IsB ((decide (i < (List.length ys : Int))) || (decide (i < (List.length xs : Int)))))), (8, .val (Lit (.int .u64 c)))]) rfl rfl (fun a w B e h => ⟨h.1, h.2.1, trivial⟩) (fun e => ok_move (.tmp 1 rfl))) ?_
    refine .cons (.sym 10 false ((decide (i < (List.length ys : Int))) || (decide (i < (List.length xs : Int)))) (((decide (i < (List.length ys : Int))) || (decide (i < (List.length xs : Int)))) == false) rfl rfl rfl 0 (need' := [(22, .val (IsB ((decide (i < (List.length ys : Int))) || (decide (i < (List.length xs : Int)))))), (23, .val (Lit (.int .u64 c)))]) rfl rfl (fun a w B e h => ⟨h.1, h.2.1.1 (e), trivial⟩) (fun e => ok_cmp (.tmp 1 rfl) (.lit) rfl)) ?_
    refine .cons (.plain rfl (ok_pickS ((decide (i < (List.length ys : Int))) || (decide (i < (List.length xs : Int)))) (.tmp 0 rfl) (fun e => Opd.eqB (.lit) (by rw [e]; rfl)) (fun e => Opd.eqB (Opd.grd (.tmp 1 rfl) (by first | (rw [e]; rfl) | (simp only [e]; rfl) | (simp [*] at *; done))) (by rw [e]; rfl)))) ?_
    exact .nil
  clear H5 a5 w5 B5
  intro a6 w6 B6 H6
  refine ops_done ?_
  refine then_normal ?_
  refine f_cond H6 (.tmp 0 rfl) ?_ ?_
  · intro hc7
    rw [Bool.or_eq_true, Bool.or_eq_true, decide_eq_true_eq, decide_eq_true_eq, decide_eq_true_eq] at hc7
    have hi3 : i ≤ (xs.length : Int) + (ys.length : Int) := by
      rcases hc7 with (h | h) | h
      · omega
      · omega
      · rcases Int.lt_or_le (xs.length : Int) i with g1 | g1
        · rcases Int.lt_or_le (ys.length : Int) i with g2 | g2
          · have := hz g1 g2; omega
          · omega
        · omega
    refine wp_skip ?_
    refine then_normal ?_
    refine wp_seq ?_
    refine wp_block ?_
    refine wp_seq ?_
    refine flow_region (dsts := [some 28, some 29, some 30, some 31, some 32, some 33, some 34, some 35, some 10]) (refs := [[.pre 6], [.pre 1], [.res 0, .res 1], [.pre 7], [.res 3], [.res 2, .res 4], [.pre 2], [.res 5, .res 6], [.res 7]]) (outs := [.res 8, .pre 1, .pre 2, .pre 3, .pre 4, .pre 5, .pre 6, .pre 7]) (als := [false, false, false, false, false, false, false, false, false]) (posts := [.val (IsL .u32 ys), .val (Lit (.int .i64 i)), .val (Lit (.int .u64 (ys[i.toNat]?.getD 0))), .val (Lit (.int .u32 q)), .val (Lit (.int .u64 q)), .val (Lit (.int .u64 ((ys[i.toNat]?.getD 0) * q))), .val (Lit (.int .u64 c)), .val (Lit (.int .u64 (((ys[i.toNat]?.getD 0) * q) + c))), .val (Lit (.int .u64 (((ys[i.toNat]?.getD 0) * q) + c)))])
      (out := [(10, .val (Lit (.int .u64 (((ys[i.toNat]?.getD 0) * q) + c)))), (9, .val (Lit (.int .i64 i))), (8, .val (Lit (.int .u64 c))), (7, .val (Lit (.int .i64 g))), (6, .val (IsB false)), (0, .val (IsL .u32 xs)), (1, .val (IsL .u32 ys)), (2, .val (Lit (.int .u32 q)))]) (nb := []) H6 9 [] rfl (by kernel_rfl) rfl rfl ?_ ?_
    · refine .cons (.plain rfl (ok_move (.tmp 0 rfl))) ?_
      refine .cons (.plain rfl (ok_move (.tmp 0 rfl))) ?_
      refine .cons (.plain rfl (ok_call ((con_limb ys dy i (by omega)).weak (fun v w B h => lit_int (by rw [show (i).toNat = i.toNat by omega]) h)) (.cons (.tmp 0 rfl) (.cons (.tmp 1 rfl) (.nil))))) ?_
      refine .cons (.plain rfl (ok_move (.tmp 0 rfl))) ?_
      refine .cons (.plain rfl (ok_conv Tryz.underlying44 Tryz.underlying49 (r := q) (.tmp 0 rfl) (w_u64 (by omega)))) ?_
      refine .cons (.plain rfl (ok_mul (r := ((ys[i.toNat]?.getD 0) * q)) (.tmp 0 rfl) (.tmp 1 rfl) (w_u64 (by omega)))) ?_
      refine .cons (.plain rfl (ok_move (.tmp 0 rfl))) ?_
      refine .cons (.plain rfl (ok_add (r := (((ys[i.toNat]?.getD 0) * q) + c)) (.tmp 0 rfl) (.tmp 1 rfl) (w_u64 (by omega)))) ?_
      refine .cons (.plain rfl (ok_assign (.tmp 0 rfl))) ?_
      exact .nil
    clear H6 a6 w6 B6
    intro a8 w8 B8 H8
    refine ops_done ?_
    refine then_normal ?_
    refine wp_seq ?_
    refine flow_region (dsts := [some 36, some 37, some 8]) (refs := [[.pre 0], [.res 0], [.res 1]]) (outs := [.res 2, .pre 0, .pre 1, .pre 3, .pre 4, .pre 5, .pre 6, .pre 7]) (als := [false, false, false]) (posts := [.val (Lit (.int .u64 (((ys[i.toNat]?.getD 0) * q) + c))), .val (Lit (.int .u64 ((((ys[i.toNat]?.getD 0) * q) + c) / 4294967296))), .val (Lit (.int .u64 ((((ys[i.toNat]?.getD 0) * q) + c) / 4294967296)))])
      (out := [(8, .val (Lit (.int .u64 ((((ys[i.toNat]?.getD 0) * q) + c) / 4294967296)))), (10, .val (Lit (.int .u64 (((ys[i.toNat]?.getD 0) * q) + c)))), (9, .val (Lit (.int .i64 i))), (7, .val (Lit (.int .i64 g))), (6, .val (IsB false)), (0, .val (IsL .u32 xs)), (1, .val (IsL .u32 ys)), (2, .val (Lit (.int .u32 q)))]) (nb := []) H8 3 [] rfl (by kernel_rfl) rfl rfl ?_ ?_
    · refine .cons (.plain rfl (ok_move (.tmp 0 rfl))) ?_
      refine .cons (.plain rfl (ok_quo (r := ((((ys[i.toNat]?.getD 0) * q) + c) / 4294967296)) (.tmp 0 rfl) (.lit) (by omega) (by rw [Int.tdiv_eq_ediv_of_nonneg (by omega)]; exact w_u64 (by omega)))) ?_
      refine .cons (.plain rfl (ok_assign (.tmp 0 rfl))) ?_
      exact .nil
    clear H8 a8 w8 B8
    intro a9 w9 B9 H9
    refine ops_done ?_
    refine then_normal ?_
    refine wp_seq ?_
    refine flow_region (dsts := [some 38, some 39]) (refs := [[.pre 1], [.res 0]]) (outs := [.res 1, .pre 0, .pre 1, .pre 2, .pre 3, .pre 4, .pre 5, .pre 6, .pre 7]) (als := [false, false]) (posts := [.val (Lit (.int .u64 (((ys[i.toNat]?.getD 0) * q) + c))), .val (Lit (.int .u64 ((((ys[i.toNat]?.getD 0) * q) + c) % 4294967296)))])
      (out := [(39, .val (Lit (.int .u64 ((((ys[i.toNat]?.getD 0) * q) + c) % 4294967296)))), (8, .val (Lit (.int .u64 ((((ys[i.toNat]?.getD 0) * q) + c) / 4294967296)))), (10, .val (Lit (.int .u64 (((ys[i.toNat]?.getD 0) * q) + c)))), (9, .val (Lit (.int .i64 i))), (7, .val (Lit (.int .i64 g))), (6, .val (IsB false)), (0, .val (IsL .u32 xs)), (1, .val (IsL .u32 ys)), (2, .val (Lit (.int .u32 q)))]) (nb := []) H9 2 [2] rfl (by kernel_rfl) rfl rfl ?_ ?_
    · refine .cons (.plain rfl (ok_move (.tmp 0 rfl))) ?_
      refine .cons (.plain rfl (ok_rem (r := ((((ys[i.toNat]?.getD 0) * q) + c) % 4294967296)) (.tmp 0 rfl) (.lit) (by omega) (Int.tmod_eq_emod_of_nonneg (by omega)))) ?_
      exact .nil
    clear H9 a9 w9 B9
    intro a10 w10 B10 H10
    refine ops_one ?_
    refine tail_op (D := .val (Lit (.int .u64 ((((ys[i.toNat]?.getD 0) * q) + c) % 4294967296)))) (l' := [(10, .val (Lit (.int .u64 ((((ys[i.toNat]?.getD 0) * q) + c) % 4294967296)))), (39, .val (Lit (.int .u64 ((((ys[i.toNat]?.getD 0) * q) + c) % 4294967296)))), (8, .val (Lit (.int .u64 ((((ys[i.toNat]?.getD 0) * q) + c) / 4294967296)))), (9, .val (Lit (.int .i64 i))), (7, .val (Lit (.int .i64 g))), (6, .val (IsB false)), (0, .val (IsL .u32 xs)), (1, .val (IsL .u32 ys)), (2, .val (Lit (.int .u32 q)))]) H10 rfl rfl rfl (.plain rfl (ok_assign (.tmp 0 rfl))) rfl rfl ?_
    clear H10 a10 w10 B10
    intro a11 w11 B11 H11
    refine ops_done ?_
    refine then_normal ?_
    refine wp_seq ?_
    refine flow_region (dsts := [some 40, some 41, some 42, some 11]) (refs := [[.pre 6], [.pre 3], [.res 0, .res 1], [.res 2]]) (outs := [.res 3, .pre 0, .pre 2, .pre 3, .pre 4, .pre 5, .pre 6, .pre 7, .pre 8]) (als := [false, false, false, false]) (posts := [.val (IsL .u32 xs), .val (Lit (.int .i64 i)), .val (Lit (.int .u64 (xs[i.toNat]?.getD 0))), .val (Lit (.int .u64 (xs[i.toNat]?.getD 0)))])
      (out := [(11, .val (Lit (.int .u64 (xs[i.toNat]?.getD 0)))), (10, .val (Lit (.int .u64 ((((ys[i.toNat]?.getD 0) * q) + c) % 4294967296)))), (8, .val (Lit (.int .u64 ((((ys[i.toNat]?.getD 0) * q) + c) / 4294967296)))), (9, .val (Lit (.int .i64 i))), (7, .val (Lit (.int .i64 g))), (6, .val (IsB false)), (0, .val (IsL .u32 xs)), (1, .val (IsL .u32 ys)), (2, .val (Lit (.int .u32 q)))]) (nb := []) H11 4 [] rfl (by kernel_rfl) rfl rfl ?_ ?_
    · refine .cons (.plain rfl (ok_move (.tmp 0 rfl))) ?_
      refine .cons (.plain rfl (ok_move (.tmp 0 rfl))) ?_
      refine .cons (.plain rfl (ok_call ((con_limb xs dx i (by omega)).weak (fun v w B h => lit_int (by rw [show (i).toNat = i.toNat by omega]) h)) (.cons (.tmp 0 rfl) (.cons (.tmp 1 rfl) (.nil))))) ?_
      refine .cons (.plain rfl (ok_assign (.tmp 0 rfl))) ?_
      exact .nil
    clear H11 a11 w11 B11
    intro a12 w12 B12 H12
    refine ops_done ?_
    refine then_normal ?_
    refine wp_seq ?_
    refine flow_region (dsts := [some 43, some 44, some 45]) (refs := [[.pre 1], [.pre 0], [.res 0, .res 1]]) (outs := [.res 2, .pre 0, .pre 1, .pre 2, .pre 3, .pre 4, .pre 5, .pre 6, .pre 7, .pre 8]) (als := [false, false, false]) (posts := [.val (Lit (.int .u64 ((((ys[i.toNat]?.getD 0) * q) + c) % 4294967296))), .val (Lit (.int .u64 (xs[i.toNat]?.getD 0))), .val (IsB (decide ((((ys[i.toNat]?.getD 0) * q) + c) % 4294967296 ≠ xs[i.toNat]?.getD 0)))])
      (out := [(45, .val (IsB (decide ((((ys[i.toNat]?.getD 0) * q) + c) % 4294967296 ≠ xs[i.toNat]?.getD 0)))), (11, .val (Lit (.int .u64 (xs[i.toNat]?.getD 0)))), (10, .val (Lit (.int .u64 ((((ys[i.toNat]?.getD 0) * q) + c) % 4294967296)))), (8, .val (Lit (.int .u64 ((((ys[i.toNat]?.getD 0) * q) + c) / 4294967296)))), (9, .val (Lit (.int .i64 i))), (7, .val (Lit (.int .i64 g))), (6, .val (IsB false)), (0, .val (IsL .u32 xs)), (1, .val (IsL .u32 ys)), (2, .val (Lit (.int .u32 q)))]) (nb := []) H12 3 [] rfl (by kernel_rfl) rfl rfl ?_ ?_
    · refine .cons (.plain rfl (ok_move (.tmp 0 rfl))) ?_
      refine .cons (.plain rfl (ok_move (.tmp 0 rfl))) ?_
      refine .cons (.plain rfl (ok_cmp (.tmp 0 rfl) (.tmp 1 rfl) rfl)) ?_
      exact .nil
    clear H12 a12 w12 B12
    intro a13 w13 B13 H13
    refine ops_done ?_
    refine then_normal ?_
    refine f_cond H13 (.tmp 0 rfl) ?_ ?_
    · intro hc14
      replace hc14 := of_decide_eq_true hc14
      refine wp_seq ?_
      refine flow_region (dsts := [some 7]) (refs := [[]]) (outs := [.res 0, .pre 1, .pre 2, .pre 3, .pre 4, .pre 6, .pre 7, .pre 8, .pre 9]) (als := [false]) (posts := [.val (Lit (.int .i64 1))])
        (out := [(7, .val (Lit (.int .i64 1))), (11, .val (Lit (.int .u64 (xs[i.toNat]?.getD 0)))), (10, .val (Lit (.int .u64 ((((ys[i.toNat]?.getD 0) * q) + c) % 4294967296)))), (8, .val (Lit (.int .u64 ((((ys[i.toNat]?.getD 0) * q) + c) / 4294967296)))), (9, .val (Lit (.int .i64 i))), (6, .val (IsB false)), (0, .val (IsL .u32 xs)), (1, .val (IsL .u32 ys)), (2, .val (Lit (.int .u32 q)))]) (nb := []) H13 1 [] rfl (by kernel_rfl) rfl rfl ?_ ?_
      · refine .cons (.plain rfl (ok_assign (.lit))) ?_
        exact .nil
      clear H13 a13 w13 B13
      intro a15 w15 B15 H15
      refine ops_done ?_
      refine then_normal ?_
      refine wp_seq ?_
      refine flow_region (dsts := [some 46, some 47, some 48]) (refs := [[.pre 2], [.pre 1], [.res 0, .res 1]]) (outs := [.res 2, .pre 0, .pre 3, .pre 4, .pre 5, .pre 6, .pre 7, .pre 8]) (als := [false, false, false]) (posts := [.val (Lit (.int .u64 ((((ys[i.toNat]?.getD 0) * q) + c) % 4294967296))), .val (Lit (.int .u64 (xs[i.toNat]?.getD 0))), .val (IsB (decide ((((ys[i.toNat]?.getD 0) * q) + c) % 4294967296 < xs[i.toNat]?.getD 0)))])
        (out := [(48, .val (IsB (decide ((((ys[i.toNat]?.getD 0) * q) + c) % 4294967296 < xs[i.toNat]?.getD 0)))), (7, .val (Lit (.int .i64 1))), (8, .val (Lit (.int .u64 ((((ys[i.toNat]?.getD 0) * q) + c) / 4294967296)))), (9, .val (Lit (.int .i64 i))), (6, .val (IsB false)), (0, .val (IsL .u32 xs)), (1, .val (IsL .u32 ys)), (2, .val (Lit (.int .u32 q)))]) (nb := []) H15 3 [] rfl (by kernel_rfl) rfl rfl ?_ ?_
      · refine .cons (.plain rfl (ok_move (.tmp 0 rfl))) ?_
        refine .cons (.plain rfl (ok_move (.tmp 0 rfl))) ?_
        refine .cons (.plain rfl (ok_cmp (.tmp 0 rfl) (.tmp 1 rfl) rfl)) ?_
        exact .nil
      clear H15 a15 w15 B15
      intro a16 w16 B16 H16
      refine ops_done ?_
      refine then_normal ?_
      refine f_cond H16 (.tmp 0 rfl) ?_ ?_
      · intro hc17
        replace hc17 := of_decide_eq_true hc17
        refine flow_region (dsts := [some 7]) (refs := [[]]) (outs := [.res 0, .pre 2, .pre 3, .pre 4, .pre 5, .pre 6, .pre 7]) (als := [false]) (posts := [.val (Lit (.int .i64 (-1)))])
          (out := [(7, .val (Lit (.int .i64 (-1)))), (8, .val (Lit (.int .u64 ((((ys[i.toNat]?.getD 0) * q) + c) / 4294967296)))), (9, .val (Lit (.int .i64 i))), (6, .val (IsB false)), (0, .val (IsL .u32 xs)), (1, .val (IsL .u32 ys)), (2, .val (Lit (.int .u32 q)))]) (nb := []) H16 1 [] rfl (by kernel_rfl) rfl rfl ?_ ?_
        · refine .cons (.plain rfl (ok_assign (.lit))) ?_
          exact .nil
        clear H16 a16 w16 B16
        intro a18 w18 B18 H18
        refine ops_done ?_
        refine block_normal ?_
        refine then_normal ?_
        have hN : FitI xs ys q (i + 1).toNat ((((ys[i.toNat]?.getD 0) * q) + c) / 4294967296) (-1) := by
          have := fit_step dx dy hq hF
          rw [show (i + 1).toNat = i.toNat + 1 by omega]
          first | (rw [if_pos (by omega)] at this; exact this) | (rw [if_neg (by omega), if_pos (by omega)] at this; exact this) | (rw [if_neg (by omega), if_neg (by omega)] at this; exact this)
        have hz2 : (xs.length : Int) < i + 1 → (ys.length : Int) < i + 1 → (((ys[i.toNat]?.getD 0) * q) + c) / 4294967296 = 0 := fun h1 h2 => by
          have e : ys[i.toNat]?.getD 0 = 0 := by rw [List.getElem?_eq_none (by omega)]; rfl
          rw [e]; omega
        refine flow_region (dsts := [some 26, some 27]) (refs := [[.pre 2], [.res 0]]) (outs := [.res 1, .pre 0, .pre 1, .pre 2, .pre 3, .pre 4, .pre 5, .pre 6]) (als := [false, false]) (posts := [.val (Lit (.int .i64 i)), .val (Lit (.int .i64 (i + 1)))])
          (out := [(27, .val (Lit (.int .i64 (i + 1)))), (7, .val (Lit (.int .i64 (-1)))), (8, .val (Lit (.int .u64 ((((ys[i.toNat]?.getD 0) * q) + c) / 4294967296)))), (9, .val (Lit (.int .i64 i))), (6, .val (IsB false)), (0, .val (IsL .u32 xs)), (1, .val (IsL .u32 ys)), (2, .val (Lit (.int .u32 q)))]) (nb := []) H18 2 [2] rfl (by kernel_rfl) rfl rfl ?_ ?_
        · refine .cons (.plain rfl (ok_move (.tmp 0 rfl))) ?_
          refine .cons (.plain rfl (ok_add (r := (i + 1)) (.tmp 0 rfl) (.lit) (w_i64 (by omega)))) ?_
          exact .nil
        clear H18 a18 w18 B18
        intro a19 w19 B19 H19
        refine ops_one ?_
        refine tail_op (D := .val (Lit (.int .i64 (i + 1)))) (l' := [(9, .val (Lit (.int .i64 (i + 1)))), (27, .val (Lit (.int .i64 (i + 1)))), (7, .val (Lit (.int .i64 (-1)))), (8, .val (Lit (.int .u64 ((((ys[i.toNat]?.getD 0) * q) + c) / 4294967296)))), (6, .val (IsB false)), (0, .val (IsL .u32 xs)), (1, .val (IsL .u32 ys)), (2, .val (Lit (.int .u32 q)))]) H19 rfl rfl rfl (.plain rfl (ok_assign (.tmp 0 rfl))) rfl rfl ?_
        clear H19 a19 w19 B19
        intro a20 w20 B20 H20
        refine ops_done ?_
        exact ⟨⟨i + 1, (((ys[i.toNat]?.getD 0) * q) + c) / 4294967296, -1⟩, B20, by exact ⟨by omega, hN, hz2⟩, St.pick H20 [0, 3, 2, 4, 5, 6, 7] rfl, by show ((xs.length : Int) + (ys.length : Int) + 2 - (i + 1)).toNat < ((xs.length : Int) + (ys.length : Int) + 2 - i).toNat; omega⟩
      · intro hc17
        replace hc17 := of_decide_eq_false hc17
        refine wp_skip ?_
        refine block_normal ?_
        refine then_normal ?_
        have hN : FitI xs ys q (i + 1).toNat ((((ys[i.toNat]?.getD 0) * q) + c) / 4294967296) (1) := by
          have := fit_step dx dy hq hF
          rw [show (i + 1).toNat = i.toNat + 1 by omega]
          first | (rw [if_pos (by omega)] at this; exact this) | (rw [if_neg (by omega), if_pos (by omega)] at this; exact this) | (rw [if_neg (by omega), if_neg (by omega)] at this; exact this)
        have hz2 : (xs.length : Int) < i + 1 → (ys.length : Int) < i + 1 → (((ys[i.toNat]?.getD 0) * q) + c) / 4294967296 = 0 := fun h1 h2 => by
          have e : ys[i.toNat]?.getD 0 = 0 := by rw [List.getElem?_eq_none (by omega)]; rfl
          rw [e]; omega
        refine flow_region (dsts := [some 26, some 27]) (refs := [[.pre 3], [.res 0]]) (outs := [.res 1, .pre 1, .pre 2, .pre 3, .pre 4, .pre 5, .pre 6, .pre 7]) (als := [false, false]) (posts := [.val (Lit (.int .i64 i)), .val (Lit (.int .i64 (i + 1)))])
          (out := [(27, .val (Lit (.int .i64 (i + 1)))), (7, .val (Lit (.int .i64 1))), (8, .val (Lit (.int .u64 ((((ys[i.toNat]?.getD 0) * q) + c) / 4294967296)))), (9, .val (Lit (.int .i64 i))), (6, .val (IsB false)), (0, .val (IsL .u32 xs)), (1, .val (IsL .u32 ys)), (2, .val (Lit (.int .u32 q)))]) (nb := []) H16 2 [2] rfl (by kernel_rfl) rfl rfl ?_ ?_
        · refine .cons (.plain rfl (ok_move (.tmp 0 rfl))) ?_
          refine .cons (.plain rfl (ok_add (r := (i + 1)) (.tmp 0 rfl) (.lit) (w_i64 (by omega)))) ?_
          exact .nil
        clear H16 a16 w16 B16
        intro a21 w21 B21 H21
        refine ops_one ?_
        refine tail_op (D := .val (Lit (.int .i64 (i + 1)))) (l' := [(9, .val (Lit (.int .i64 (i + 1)))), (27, .val (Lit (.int .i64 (i + 1)))), (7, .val (Lit (.int .i64 1))), (8, .val (Lit (.int .u64 ((((ys[i.toNat]?.getD 0) * q) + c) / 4294967296)))), (6, .val (IsB false)), (0, .val (IsL .u32 xs)), (1, .val (IsL .u32 ys)), (2, .val (Lit (.int .u32 q)))]) H21 rfl rfl rfl (.plain rfl (ok_assign (.tmp 0 rfl))) rfl rfl ?_
        clear H21 a21 w21 B21
        intro a22 w22 B22 H22
        refine ops_done ?_
        exact ⟨⟨i + 1, (((ys[i.toNat]?.getD 0) * q) + c) / 4294967296, 1⟩, B22, by exact ⟨by omega, hN, hz2⟩, St.pick H22 [0, 3, 2, 4, 5, 6, 7] rfl, by show ((xs.length : Int) + (ys.length : Int) + 2 - (i + 1)).toNat < ((xs.length : Int) + (ys.length : Int) + 2 - i).toNat; omega⟩
    · intro hc14
      replace hc14 := of_decide_eq_false hc14
      refine wp_skip ?_
      refine block_normal ?_
      refine then_normal ?_
      have hN : FitI xs ys q (i + 1).toNat ((((ys[i.toNat]?.getD 0) * q) + c) / 4294967296) (g) := by
        have := fit_step dx dy hq hF
        rw [show (i + 1).toNat = i.toNat + 1 by omega]
        first | (rw [if_pos (by omega)] at this; exact this) | (rw [if_neg (by omega), if_pos (by omega)] at this; exact this) | (rw [if_neg (by omega), if_neg (by omega)] at this; exact this)
      have hz2 : (xs.length : Int) < i + 1 → (ys.length : Int) < i + 1 → (((ys[i.toNat]?.getD 0) * q) + c) / 4294967296 = 0 := fun h1 h2 => by
        have e : ys[i.toNat]?.getD 0 = 0 := by rw [List.getElem?_eq_none (by omega)]; rfl
        rw [e]; omega
      refine flow_region (dsts := [some 26, some 27]) (refs := [[.pre 4], [.res 0]]) (outs := [.res 1, .pre 3, .pre 4, .pre 5, .pre 6, .pre 7, .pre 8, .pre 9]) (als := [false, false]) (posts := [.val (Lit (.int .i64 i)), .val (Lit (.int .i64 (i + 1)))])
        (out := [(27, .val (Lit (.int .i64 (i + 1)))), (8, .val (Lit (.int .u64 ((((ys[i.toNat]?.getD 0) * q) + c) / 4294967296)))), (9, .val (Lit (.int .i64 i))), (7, .val (Lit (.int .i64 g))), (6, .val (IsB false)), (0, .val (IsL .u32 xs)), (1, .val (IsL .u32 ys)), (2, .val (Lit (.int .u32 q)))]) (nb := []) H13 2 [2] rfl (by kernel_rfl) rfl rfl ?_ ?_
      · refine .cons (.plain rfl (ok_move (.tmp 0 rfl))) ?_
        refine .cons (.plain rfl (ok_add (r := (i + 1)) (.tmp 0 rfl) (.lit) (w_i64 (by omega)))) ?_
        exact .nil
      clear H13 a13 w13 B13
      intro a23 w23 B23 H23
      refine ops_one ?_
      refine tail_op (D := .val (Lit (.int .i64 (i + 1)))) (l' := [(9, .val (Lit (.int .i64 (i + 1)))), (27, .val (Lit (.int .i64 (i + 1)))), (8, .val (Lit (.int .u64 ((((ys[i.toNat]?.getD 0) * q) + c) / 4294967296)))), (7, .val (Lit (.int .i64 g))), (6, .val (IsB false)), (0, .val (IsL .u32 xs)), (1, .val (IsL .u32 ys)), (2, .val (Lit (.int .u32 q)))]) H23 rfl rfl rfl (.plain rfl (ok_assign (.tmp 0 rfl))) rfl rfl ?_
      clear H23 a23 w23 B23
      intro a24 w24 B24 H24
      refine ops_done ?_
      exact ⟨⟨i + 1, (((ys[i.toNat]?.getD 0) * q) + c) / 4294967296, g⟩, B24, by exact ⟨by omega, hN, hz2⟩, St.pick H24 [0, 2, 3, 4, 5, 6, 7] rfl, by show ((xs.length : Int) + (ys.length : Int) + 2 - (i + 1)).toNat < ((xs.length : Int) + (ys.length : Int) + 2 - i).toNat; omega⟩
  · intro hc7
    rw [Bool.or_eq_false_iff, Bool.or_eq_false_iff, decide_eq_false_iff_not, decide_eq_false_iff_not, decide_eq_false_iff_not] at hc7
    obtain rfl : c = 0 := by omega
    have hE := fit_end dx hF (by omega) (by omega)
    refine wp_exit ?_
    refine then_exit ?_
    refine then_exit ?_
    refine block_exit ?_
    refine then_normal ?_
    refine wp_seq ?_
    refine flow_region (dsts := [some 49, some 50, some 6]) (refs := [[.pre 3], [.res 0], [.res 1]]) (outs := [.res 2, .pre 1, .pre 2, .pre 3, .pre 5, .pre 6, .pre 7]) (als := [false, false, false]) (posts := [.val (Lit (.int .i64 g)), .val (IsB (decide (g ≤ 0))), .val (IsB (decide (g ≤ 0)))])
      (out := [(6, .val (IsB (decide (g ≤ 0)))), (9, .val (Lit (.int .i64 i))), (8, .val (Lit (.int .u64 0))), (7, .val (Lit (.int .i64 g))), (0, .val (IsL .u32 xs)), (1, .val (IsL .u32 ys)), (2, .val (Lit (.int .u32 q)))]) (nb := []) H6 3 [] rfl (by kernel_rfl) rfl rfl ?_ ?_
    · refine .cons (.plain rfl (ok_move (.tmp 0 rfl))) ?_
      refine .cons (.plain rfl (ok_cmp (.tmp 0 rfl) (.lit) rfl)) ?_
      refine .cons (.plain rfl (ok_assign (.tmp 0 rfl))) ?_
      exact .nil
    clear H6 a6 w6 B6
    intro a25 w25 B25 H25
    refine ops_done ?_
    refine then_normal ?_
    refine wp_ret ?_
    exact f_ret H25 rfl 0 rfl (fun v w B h => by exact isB_eq (decide_eq_decide.2 hE) h)

theorem ok_min {P : Program} {need : List (Tmp × FD)} {d : Option Tmp} {ty : TypeId} {pos : String} {af : Array Edge} {g : Option (Nat × Bool)} {x y : Operand} {k : IntKind} {i j : Int} {ts : Array TypeId} (h : Opd need x (.val (Lit (.int k i)))) (h' : Opd need y (.val (Lit (.int k j)))) : OpOk P ⟨d, .call { callee := .builtin .min, args := #[x, y], argTypes := ts }, ty, pos, af, g⟩ need (.val (Lit (.int k (if j < i then j else i)))) false :=
  ok_lit2 h h' fun ρ w e1 e2 => by
    simp [execOp, e1, e2, resolve, invoke, builtin]
    simp [Builtin.min_, Builtin.min2]
/-- The top of a list: its limbs m and m - 1. -/
theorem top_two (xs : List Int) (dx : Dig 4294967296 xs) (m : Nat) (hm : 0 < m) (hl : xs.length ≤ m + 1) : val 4294967296 xs = (xs[m]?.getD 0 * 4294967296 + xs[m - 1]?.getD 0) * 4294967296 ^ (m - 1) + low xs (m - 1) := by
  rw [← low_all xs (m + 1) hl, low_succ]
  obtain ⟨p, rfl⟩ : ∃ p, m = p + 1 := ⟨m - 1, by omega⟩
  rw [low_succ, Nat.add_sub_cancel, Int.pow_succ]
  generalize (4294967296 : Int) ^ p = P
  generalize low xs p = z
  grind
theorem top_one (ys : List Int) (dy : Dig 4294967296 ys) (m : Nat) (hm : 0 < m) (hl : ys.length = m) : val 4294967296 ys = ys[m - 1]?.getD 0 * 4294967296 ^ (m - 1) + low ys (m - 1) := by
  rw [← low_all ys m (by omega)]
  obtain ⟨p, rfl⟩ : ∃ p, m = p + 1 := ⟨m - 1, by omega⟩
  rw [low_succ, Nat.add_sub_cancel]
  generalize (4294967296 : Int) ^ p = P
  generalize low ys p = z
  grind
theorem digit_est (T y1 P lx ly V U : Int) (hP : 0 < P) (hT : 0 ≤ T) (hy1 : 0 < y1) (hlx : 0 ≤ lx ∧ lx < P) (hly : 0 ≤ ly ∧ ly < P) (hV : V = T * P + lx) (hU : U = y1 * P + ly) : T / (y1 + 1) ≤ V / U ∧ V / U ≤ T / y1 := by
  have hy : 0 < y1 * P := Int.mul_pos hy1 hP
  have hU0 : 0 < U := by omega
  have hV0 : 0 ≤ V := by have := Int.mul_nonneg hT (Int.le_of_lt hP); omega
  constructor
  · refine (Int.le_ediv_iff_mul_le hU0).2 ?_
    have h1 : T / (y1 + 1) * (y1 + 1) ≤ T := Int.ediv_mul_le T (by omega)
    have h0 : 0 ≤ T / (y1 + 1) := Int.ediv_nonneg hT (by omega)
    have h2 : T / (y1 + 1) * U ≤ T / (y1 + 1) * ((y1 + 1) * P) := Int.mul_le_mul_of_nonneg_left (by rw [Int.add_mul, Int.one_mul]; omega) h0
    have h3 : T / (y1 + 1) * (y1 + 1) * P ≤ T * P := Int.mul_le_mul_of_nonneg_right h1 (Int.le_of_lt hP)
    rw [← Int.mul_assoc] at h2
    omega
  · refine (Int.le_ediv_iff_mul_le hy1).2 ?_
    have h0 : 0 ≤ V / U := Int.ediv_nonneg hV0 (by omega)
    have h1 : V / U * U ≤ V := Int.ediv_mul_le V (by omega)
    have h2 : V / U * (y1 * P) ≤ V / U * U := Int.mul_le_mul_of_nonneg_left (by omega) h0
    have h3 : V / U * y1 * P < (T + 1) * P := by rw [Int.mul_assoc, Int.add_mul, Int.one_mul]; omega
    have h4 := Int.lt_of_mul_lt_mul_right h3 (Int.le_of_lt hP)
    omega
end Go.Proofs.YtbcbmkeeoognpaaGreatDoor

