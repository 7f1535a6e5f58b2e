/- The law NatParts: its walk out of the contracts of what it calls. (Printed by law.py.) -/
import Derived.Test.YtemllpbpnndgeaaNum
import Derived.Test.YtemllpbpnndgeaaRow
import Derived.Test.YtemllpbpnndgeaaNAdd
import Derived.Test.YtemllpbpnndgeaaNMul
import Derived.Test.YtemllpbpnndgeaaNSmall
import Derived.Test.YtemllpbpnndgeaaNUint
import Derived.Test.YtemllpbpnndgeaaNNLen
import Derived.Test.YtemllpbpnndgeaaNNCmp
import Derived.Test.YtemllpbpnndgeaaNNorm
import Derived.Test.YtemllpbpnndgeaaFrom
import Derived.Test.YtemllpbpnndgeaaLives
import Derived.Test.YtemllpbpnndgeaaListed
import Derived.Test.YtemllpbpnndgeaaAppend
set_option linter.unusedVariables false
set_option linter.unusedSimpArgs false
namespace Go.Proofs.Ytemllpbpnndgeaa
open Go.RowKit

/-- A list and noughts behind it are worth the same. -/
theorem App.noughts {B : Nat} {w : World} {ad : Option Addr} {n c m : Nat} {xs : List Int} (h : App B w 28 .u32 ad (n + m) c (xs ++ List.replicate m 0)) (dx : Dig 4294967296 xs) : Num w ad (n + m) c (val 4294967296 xs) :=
  ⟨h.own.le, _, h.rds, dx.append (Dig.replicate _ (by omega) _), by rw [val_append, val_replicate]; simp⟩

theorem blen_le_iff (n k : Nat) : blen n ≤ k ↔ n < 2 ^ k := by
  by_cases h0 : n = 0
  · subst h0
    simp [blen_zero, Nat.two_pow_pos]
  · constructor
    · intro h
      exact Nat.lt_of_lt_of_le (blen_lt n) (Nat.pow_le_pow_right (by omega) h)
    · intro h
      have h1 := Nat.lt_of_le_of_lt (blen_ge n h0) h
      have h2 := (Nat.pow_lt_pow_iff_right (by omega : 1 < 2)).1 h1
      omega

theorem fits_bits (V : Int) (hV : 0 ≤ V) : fits64 V = decide (bitsOf V ≤ 64) := by
  obtain ⟨n, rfl⟩ := Int.eq_ofNat_of_zero_le hV
  have h := blen_le_iff n 64
  unfold fits64 bitsOf
  rw [Bool.eq_iff_iff]
  simp only [decide_eq_true_eq, Int.toNat_natCast]
  omega

set_option maxHeartbeats 2000000 in
theorem walk_NatParts (w : World) (ada : Option Addr) (na ca : Nat) (hza : ada = none → ca = 0) (xa : List Int) (hnca : na ≤ ca) (hna : na * 4 ≤ 140737488351232) (hra : Rds w .u32 ada na xa) (dxa : Dig 4294967296 xa) (d : Int) (hd : 0 ≤ d ∧ d < 4294967296) (m : Int) (hm : 0 ≤ m ∧ m < 256) :
    Calls Try.prog 10 #[.slice ada na ca, .int .u32 d, .int .u8 m] w (LawTrue w) := by
  obtain ⟨M, rfl⟩ := Int.eq_ofNat_of_zero_le hm.1
  have hm256 : M < 256 := by omega
  have HM0 := Lib.hid hm
  clear hm
  have hB := Lib.hid (beyond_calls w.heap.size 1 1 [na] (fun j => (ada, ca)) (w.alloc (.cells #[.slice ada na ca] 23)) rfl (by omega)
    (fun j => by rcases j with _ | j <;> simp <;> omega)
    (fun j hj => by rw [World.cell?_alloc_at _ _ _ _ rfl]; rcases j with _ | j <;> simp; omega))
  go_enter Try.func10, Try.ntmps10
  go_wp2_with fail
  refine (hB.out).mono ?_
  rintro e w' ⟨r, rfl, rfl, hp⟩
  have HP := Lib.hid hp
  clear hp hB
  have b0 : Below w.heap.size w (w.alloc (.cells #[.slice ada na ca] 23)) := (Below.refl _ _).alloc (Nat.le_refl _) _
  generalize w.alloc (.cells #[.slice ada na ca] 23) = w0 at *
  cases r
  · have hp : parts [na] ≤ 1048576 := HP.out rfl
    have hnm : na ≤ 1048575 := by simp [parts] at hp; omega
    clear hp HP
    have fa : Arg w0 ada na ca xa := Arg.below ⟨hnca, hra, dxa⟩ b0 (Nat.le_refl _)
    clear hra dxa
    have Za := Lib.hid fa.nonneg
    have Ta := Lib.hid fa.lt
    have la : na ≤ na := Nat.le_refl _
    have h := Lib.hid (lives_calls w0)
    go_wp2_with fail
    refine (h.out).mono ?_
    rintro e w1 ⟨rfl, b⟩
    clear h
    replace fa := fa.below b (Nat.le_refl _)
    replace b0 := below_trans b0 b
    clear b
    obtain ⟨bb, hbb⟩ : ∃ bb, bitsOf (val 4294967296 xa) = bb := ⟨_, rfl⟩
    have HB := Lib.hid hbb
    have hb0 : 0 ≤ bb := by rw [← hbb]; unfold bitsOf; omega
    clear hbb
    by_cases hd0 : d = 0
    · subst hd0
      by_cases hbit : bb ≤ 64
      · have HF := Lib.hid (show fits64 (val 4294967296 xa) = true by rw [fits_bits _ Za.out, HB.out]; simpa using hbit)
        have hfit : (val 4294967296 xa) < 18446744073709551616 := of_decide_eq_true HF.out
        have HL := Lib.hid (show low64 (val 4294967296 xa) = (val 4294967296 xa) by unfold low64; rw [if_pos hfit])
        have h := Lib.hid (small_none ada na ca w1)
        go_wp2_with fail
        refine (h.out).mono ?_
        rintro e w' ⟨rfl, rfl⟩
        clear h
        go_wp2_with (first | (at_builtin; refine app_list (w0 := w1) w1.heap.size rfl (.const (.slice none 0 0)) (.tmp 55) 23 28 .u32 4 rfl Try.underlying23 info_limbL (by omega) none 0 0 [] ada na ca xa rfl rfl hza hnca (App.nil _ _ _ _) fa.rds (Below.refl _ _) (Nat.le_refl _) (by omega) ?_; intro ad1 c1 v1 k1 b1 k2; simp only [Nat.zero_add, List.nil_append] at k1 ⊢) | (at_builtin; go_loud (refine app_zeros (w0 := w1) w1.heap.size rfl (.tmp 56) (.tmp 58) 23 3 28 .u32 .i64 .i64 4 rfl Try.underlying23 Try.underlying3 info_limbL (by omega) ad1 na c1 xa M rfl _ rfl rfl k1 b1 k2 (by omega) ?_); intro adl cl vl k3 b k4))
        have fl := App.noughts k3 fa.dig
        clear k1 b1 k2 k3 k4
        replace fa := fa.below b (Nat.le_refl _)
        replace b0 := below_trans b0 b
        clear b
        have h := Lib.hid (small_none adl (na + M) cl vl)
        go_wp2_with fail
        refine (h.out).mono ?_
        rintro e w' ⟨rfl, rfl⟩
        clear h
        have hS := num_uint _ _ _ _ vl fa.num (by omega)
        rw [HF.out] at hS
        try rw [HL.out] at hS
        have h := Lib.hid (hS)
        go_wp2_with fail
        refine (h.out).mono ?_
        rintro e w' ⟨rfl, rfl⟩
        clear h
        clear hS
        have fz : Can vl none 0 0 0 := ⟨Nat.le_refl _, by rw [dg_zero]; exact Rds.nil _ _ _⟩
        have h := Lib.hid (num_same_true _ _ _ _ _ _ _ _ vl fz fz rfl (by omega) (by omega))
        go_wp2_with fail
        refine (h.out).mono ?_
        rintro e w' ⟨rfl, q, rfl⟩
        have b := below_drewN (Below.refl vl.heap.size vl) q
        generalize vl.drewN q = w5 at *
        clear h
        replace fa := fa.below b (Nat.le_refl _)
        replace fl := fl.below b (Nat.le_refl _)
        replace b0 := below_trans b0 b
        clear b
        have hC := num_cmp _ _ _ _ _ _ _ _ w5 fl fa.num (by omega) (by omega)
        rw [cmpI_eq rfl] at hC
        have h := Lib.hid (hC)
        go_wp2_with fail
        refine (h.out).mono ?_
        rintro e w' ⟨rfl, q, rfl⟩
        have b := below_drewN (Below.refl w5.heap.size w5) q
        generalize w5.drewN q = w6 at *
        clear h
        replace fa := fa.below b (Nat.le_refl _)
        replace fl := fl.below b (Nat.le_refl _)
        replace b0 := below_trans b0 b
        clear b
        clear hC
        have hC := num_len _ _ _ _ w6 fl (by omega)
        rw [HB.out] at hC
        have h := Lib.hid (hC)
        go_wp2_with fail
        refine (h.out).mono ?_
        rintro e w' ⟨rfl, rfl⟩
        clear h
        clear hC
        have hC := num_len _ _ _ _ w6 fa.num (by omega)
        rw [HB.out] at hC
        have h := Lib.hid (hC)
        go_wp2_with fail
        refine (h.out).mono ?_
        rintro e w' ⟨rfl, rfl⟩
        clear h
        clear hC
        have hC := num_len _ _ _ _ w6 fa.num (by omega)
        rw [HB.out] at hC
        have h := Lib.hid (hC)
        go_wp2_with fail
        refine (h.out).mono ?_
        rintro e w' ⟨rfl, rfl⟩
        clear h
        clear hC
        have h := Lib.hid (num_norm _ _ _ _ w6 fl (by omega))
        go_wp2_with fail
        refine (h.out).mono ?_
        rintro e w10 ⟨adx, nx, cx, rfl, fx, b⟩
        clear h
        replace fa := fa.below b (Nat.le_refl _)
        replace fl := fl.below b (Nat.le_refl _)
        replace b0 := below_trans b0 b
        clear b
        have Zx := Lib.hid (Za.out)
        have Tx := Lib.hid (Ta.out)
        have lx : nx ≤ na := fx.len_le (na) Tx.out
        have h := Lib.hid (num_norm _ _ _ _ w10 fa.num (by omega))
        go_wp2_with fail
        refine (h.out).mono ?_
        rintro e w11 ⟨ady, ny, cy, rfl, fy, b⟩
        clear h
        replace fa := fa.below b (Nat.le_refl _)
        replace fl := fl.below b (Nat.le_refl _)
        replace fx := fx.below b (Nat.le_refl _)
        replace b0 := below_trans b0 b
        clear b
        have Zy := Lib.hid (Za.out)
        have Ty := Lib.hid (Ta.out)
        have ly : ny ≤ na := fy.len_le (na) Ty.out
        have h := Lib.hid (num_same_true _ _ _ _ _ _ _ _ w11 fx fy (rfl) (by omega) (by omega))
        go_wp2_with fail
        refine (h.out).mono ?_
        rintro e w' ⟨rfl, q, rfl⟩
        have b := below_drewN (Below.refl w11.heap.size w11) q
        generalize w11.drewN q = w12 at *
        clear h
        replace fa := fa.below b (Nat.le_refl _)
        replace fl := fl.below b (Nat.le_refl _)
        replace fx := fx.below b (Nat.le_refl _)
        replace fy := fy.below b (Nat.le_refl _)
        replace b0 := below_trans b0 b
        clear b
        clear fx fy
        clear Zx Tx Zy Ty
        have h := Lib.hid (num_norm _ _ _ _ w12 fa.num (by omega))
        go_wp2_with fail
        refine (h.out).mono ?_
        rintro e w13 ⟨adx, nx, cx, rfl, fx, b⟩
        clear h
        replace fa := fa.below b (Nat.le_refl _)
        replace fl := fl.below b (Nat.le_refl _)
        replace b0 := below_trans b0 b
        clear b
        have Zx := Lib.hid (Za.out)
        have Tx := Lib.hid (Ta.out)
        have lx : nx ≤ na := fx.len_le (na) Tx.out
        have h := Lib.hid (listed_calls _ _ _ _ w13 fx (by omega))
        go_wp2_with fail
        refine (h.out).mono ?_
        rintro e w' ⟨rfl, rfl⟩
        clear h
        clear fx
        clear Zx Tx
        have h := Lib.hid ((from_calls _ w13 Za.out hfit).mono fun e w' q => q.can)
        go_wp2_with fail
        refine (h.out).mono ?_
        rintro e w15 ⟨adx, nx, cx, rfl, fx, b⟩
        clear h
        replace fa := fa.below b (Nat.le_refl _)
        replace fl := fl.below b (Nat.le_refl _)
        replace b0 := below_trans b0 b
        clear b
        have Zx := Lib.hid (Za.out)
        have Tx := Lib.hid (show (val 4294967296 xa) < 4294967296 ^ 2 from hfit)
        have lx : nx ≤ 2 := fx.len_le (2) Tx.out
        have h := Lib.hid (num_norm _ _ _ _ w15 fa.num (by omega))
        go_wp2_with fail
        refine (h.out).mono ?_
        rintro e w16 ⟨ady, ny, cy, rfl, fy, b⟩
        clear h
        replace fa := fa.below b (Nat.le_refl _)
        replace fl := fl.below b (Nat.le_refl _)
        replace fx := fx.below b (Nat.le_refl _)
        replace b0 := below_trans b0 b
        clear b
        have Zy := Lib.hid (Za.out)
        have Ty := Lib.hid (Ta.out)
        have ly : ny ≤ na := fy.len_le (na) Ty.out
        have h := Lib.hid (num_same_true _ _ _ _ _ _ _ _ w16 fx fy (rfl) (by omega) (by omega))
        go_wp2_with fail
        refine (h.out).mono ?_
        rintro e w' ⟨rfl, q, rfl⟩
        have b := below_drewN (Below.refl w16.heap.size w16) q
        generalize w16.drewN q = w17 at *
        clear h
        replace fa := fa.below b (Nat.le_refl _)
        replace fl := fl.below b (Nat.le_refl _)
        replace fx := fx.below b (Nat.le_refl _)
        replace fy := fy.below b (Nat.le_refl _)
        replace b0 := below_trans b0 b
        clear b
        go_wp2_with fail
        go_ret
        exact ⟨rfl, b0⟩
      · have HF := Lib.hid (show fits64 (val 4294967296 xa) = false by rw [fits_bits _ Za.out, HB.out]; simpa using hbit)
        have h := Lib.hid (small_none ada na ca w1)
        go_wp2_with fail
        refine (h.out).mono ?_
        rintro e w' ⟨rfl, rfl⟩
        clear h
        go_wp2_with (first | (at_builtin; refine app_list (w0 := w1) w1.heap.size rfl (.const (.slice none 0 0)) (.tmp 55) 23 28 .u32 4 rfl Try.underlying23 info_limbL (by omega) none 0 0 [] ada na ca xa rfl rfl hza hnca (App.nil _ _ _ _) fa.rds (Below.refl _ _) (Nat.le_refl _) (by omega) ?_; intro ad1 c1 v1 k1 b1 k2; simp only [Nat.zero_add, List.nil_append] at k1 ⊢) | (at_builtin; go_loud (refine app_zeros (w0 := w1) w1.heap.size rfl (.tmp 56) (.tmp 58) 23 3 28 .u32 .i64 .i64 4 rfl Try.underlying23 Try.underlying3 info_limbL (by omega) ad1 na c1 xa M rfl _ rfl rfl k1 b1 k2 (by omega) ?_); intro adl cl vl k3 b k4))
        have fl := App.noughts k3 fa.dig
        clear k1 b1 k2 k3 k4
        replace fa := fa.below b (Nat.le_refl _)
        replace b0 := below_trans b0 b
        clear b
        have h := Lib.hid (small_none adl (na + M) cl vl)
        go_wp2_with fail
        refine (h.out).mono ?_
        rintro e w' ⟨rfl, rfl⟩
        clear h
        have hS := num_uint _ _ _ _ vl fa.num (by omega)
        rw [HF.out] at hS
        try rw [HL.out] at hS
        have h := Lib.hid (hS)
        go_wp2_with fail
        refine (h.out).mono ?_
        rintro e w' ⟨rfl, rfl⟩
        clear h
        clear hS
        have fz : Can vl none 0 0 0 := ⟨Nat.le_refl _, by rw [dg_zero]; exact Rds.nil _ _ _⟩
        have h := Lib.hid (num_same_true _ _ _ _ _ _ _ _ vl fz fz rfl (by omega) (by omega))
        go_wp2_with fail
        refine (h.out).mono ?_
        rintro e w' ⟨rfl, q, rfl⟩
        have b := below_drewN (Below.refl vl.heap.size vl) q
        generalize vl.drewN q = w5 at *
        clear h
        replace fa := fa.below b (Nat.le_refl _)
        replace fl := fl.below b (Nat.le_refl _)
        replace b0 := below_trans b0 b
        clear b
        have hC := num_cmp _ _ _ _ _ _ _ _ w5 fl fa.num (by omega) (by omega)
        rw [cmpI_eq rfl] at hC
        have h := Lib.hid (hC)
        go_wp2_with fail
        refine (h.out).mono ?_
        rintro e w' ⟨rfl, q, rfl⟩
        have b := below_drewN (Below.refl w5.heap.size w5) q
        generalize w5.drewN q = w6 at *
        clear h
        replace fa := fa.below b (Nat.le_refl _)
        replace fl := fl.below b (Nat.le_refl _)
        replace b0 := below_trans b0 b
        clear b
        clear hC
        have hC := num_len _ _ _ _ w6 fl (by omega)
        rw [HB.out] at hC
        have h := Lib.hid (hC)
        go_wp2_with fail
        refine (h.out).mono ?_
        rintro e w' ⟨rfl, rfl⟩
        clear h
        clear hC
        have hC := num_len _ _ _ _ w6 fa.num (by omega)
        rw [HB.out] at hC
        have h := Lib.hid (hC)
        go_wp2_with fail
        refine (h.out).mono ?_
        rintro e w' ⟨rfl, rfl⟩
        clear h
        clear hC
        have hC := num_len _ _ _ _ w6 fa.num (by omega)
        rw [HB.out] at hC
        have h := Lib.hid (hC)
        go_wp2_with fail
        refine (h.out).mono ?_
        rintro e w' ⟨rfl, rfl⟩
        clear h
        clear hC
        have h := Lib.hid (num_norm _ _ _ _ w6 fl (by omega))
        go_wp2_with fail
        refine (h.out).mono ?_
        rintro e w10 ⟨adx, nx, cx, rfl, fx, b⟩
        clear h
        replace fa := fa.below b (Nat.le_refl _)
        replace fl := fl.below b (Nat.le_refl _)
        replace b0 := below_trans b0 b
        clear b
        have Zx := Lib.hid (Za.out)
        have Tx := Lib.hid (Ta.out)
        have lx : nx ≤ na := fx.len_le (na) Tx.out
        have h := Lib.hid (num_norm _ _ _ _ w10 fa.num (by omega))
        go_wp2_with fail
        refine (h.out).mono ?_
        rintro e w11 ⟨ady, ny, cy, rfl, fy, b⟩
        clear h
        replace fa := fa.below b (Nat.le_refl _)
        replace fl := fl.below b (Nat.le_refl _)
        replace fx := fx.below b (Nat.le_refl _)
        replace b0 := below_trans b0 b
        clear b
        have Zy := Lib.hid (Za.out)
        have Ty := Lib.hid (Ta.out)
        have ly : ny ≤ na := fy.len_le (na) Ty.out
        have h := Lib.hid (num_same_true _ _ _ _ _ _ _ _ w11 fx fy (rfl) (by omega) (by omega))
        go_wp2_with fail
        refine (h.out).mono ?_
        rintro e w' ⟨rfl, q, rfl⟩
        have b := below_drewN (Below.refl w11.heap.size w11) q
        generalize w11.drewN q = w12 at *
        clear h
        replace fa := fa.below b (Nat.le_refl _)
        replace fl := fl.below b (Nat.le_refl _)
        replace fx := fx.below b (Nat.le_refl _)
        replace fy := fy.below b (Nat.le_refl _)
        replace b0 := below_trans b0 b
        clear b
        clear fx fy
        clear Zx Tx Zy Ty
        have h := Lib.hid (num_norm _ _ _ _ w12 fa.num (by omega))
        go_wp2_with fail
        refine (h.out).mono ?_
        rintro e w13 ⟨adx, nx, cx, rfl, fx, b⟩
        clear h
        replace fa := fa.below b (Nat.le_refl _)
        replace fl := fl.below b (Nat.le_refl _)
        replace b0 := below_trans b0 b
        clear b
        have Zx := Lib.hid (Za.out)
        have Tx := Lib.hid (Ta.out)
        have lx : nx ≤ na := fx.len_le (na) Tx.out
        have h := Lib.hid (listed_calls _ _ _ _ w13 fx (by omega))
        go_wp2_with fail
        refine (h.out).mono ?_
        rintro e w' ⟨rfl, rfl⟩
        clear h
        clear fx
        clear Zx Tx
        go_wp2_with fail
        go_ret
        exact ⟨rfl, b0⟩
    · have hd1 : 0 < d ∧ d < 4294967296 := by omega
      have hdn : (d != 0) = true := by simpa using hd0
      clear hd0 hd
      obtain ⟨r, hr⟩ : ∃ r, (val 4294967296 xa) % d = r := ⟨_, rfl⟩
      have hr1 : 0 ≤ r := by rw [← hr]; exact Int.emod_nonneg _ (by omega)
      have hr2 : r < d := by rw [← hr]; exact Int.emod_lt_of_pos _ hd1.1
      have hdr : ¬ d ≤ r := by omega
      have HR := Lib.hid hr
      clear hr
      by_cases hr0 : 0 < r
      · skip
        by_cases hbit : bb ≤ 64
        · have HF := Lib.hid (show fits64 (val 4294967296 xa) = true by rw [fits_bits _ Za.out, HB.out]; simpa using hbit)
          have hfit : (val 4294967296 xa) < 18446744073709551616 := of_decide_eq_true HF.out
          have HL := Lib.hid (show low64 (val 4294967296 xa) = (val 4294967296 xa) by unfold low64; rw [if_pos hfit])
          have hS := num_small _ _ _ _ d w1 fa.num (by omega) hd1
          rw [HR.out] at hS
          have h := Lib.hid (hS)
          go_wp2_with fail
          refine (h.out).mono ?_
          rintro e w2 ⟨adq, nq, cq, rfl, fq, b⟩
          clear h
          replace fa := fa.below b (Nat.le_refl _)
          replace b0 := below_trans b0 b
          clear b
          have Zq := Lib.hid (Int.ediv_nonneg Za.out (Int.le_of_lt hd1.1))
          have Tq := Lib.hid (Int.lt_of_le_of_lt (Int.ediv_le_self d Za.out) Ta.out)
          have lq : nq ≤ na := fq.len_le (na) Tq.out
          clear hS
          have n1 := num_one w2 d (by omega)
          have b9 : Below w2.heap.size w2 (w2.alloc (.cells #[.int .u32 d] 28)) := (Below.refl _ _).alloc (Nat.le_refl _) _
          have hS := num_mul _ _ _ _ _ _ _ _ (w2.alloc (.cells #[.int .u32 d] 28)) ((fq.num Zq.out).below b9 (Nat.le_refl _)) n1 (by omega) (by omega)
          clear n1
          have h := Lib.hid hS
          clear hS
          go_wp2_with fail
          refine (h.out).mono ?_
          rintro e w3 ⟨adx, nx, cx, rfl, fx, b⟩
          clear h
          replace b := below_trans b9 b
          clear b9
          replace fa := fa.below b (Nat.le_refl _)
          replace fq := fq.below b (Nat.le_refl _)
          replace b0 := below_trans b0 b
          clear b
          have Zx := Lib.hid (Int.mul_nonneg Zq.out (Int.le_of_lt hd1.1))
          have Tx := Lib.hid (pow_mul_lt _ _ _ _ Zq.out (Int.le_of_lt hd1.1) Tq.out (show d < 4294967296 ^ 1 by omega))
          have lx : nx ≤ (na + 1) := fx.len_le (na + 1) Tx.out
          have n1 := num_one w3 r (by omega)
          have b9 : Below w3.heap.size w3 (w3.alloc (.cells #[.int .u32 r] 28)) := (Below.refl _ _).alloc (Nat.le_refl _) _
          have hS := num_add _ _ _ _ _ _ _ _ (w3.alloc (.cells #[.int .u32 r] 28)) ((fx.num Zx.out).below b9 (Nat.le_refl _)) n1 (by omega) (by omega)
          clear n1
          have h := Lib.hid hS
          clear hS
          go_wp2_with fail
          refine (h.out).mono ?_
          rintro e w4 ⟨ady, ny, cy, rfl, fy, b⟩
          clear h
          replace b := below_trans b9 b
          clear b9
          replace fa := fa.below b (Nat.le_refl _)
          replace fq := fq.below b (Nat.le_refl _)
          replace fx := fx.below b (Nat.le_refl _)
          replace b0 := below_trans b0 b
          clear b
          have Zy := Lib.hid (Int.add_nonneg Zx.out hr1)
          have Ty := Lib.hid (pow_add_lt _ _ _ _ Tx.out (show r < 4294967296 ^ 1 by omega))
          have ly : ny ≤ (na + 1 + 1 + 1) := fy.len_le (na + 1 + 1 + 1) Ty.out
          have h := Lib.hid (num_norm _ _ _ _ w4 fa.num (by omega))
          go_wp2_with fail
          refine (h.out).mono ?_
          rintro e w5 ⟨adz, nz, cz, rfl, fz, b⟩
          clear h
          replace fa := fa.below b (Nat.le_refl _)
          replace fq := fq.below b (Nat.le_refl _)
          replace fx := fx.below b (Nat.le_refl _)
          replace fy := fy.below b (Nat.le_refl _)
          replace b0 := below_trans b0 b
          clear b
          have Zz := Lib.hid (Za.out)
          have Tz := Lib.hid (Ta.out)
          have lz : nz ≤ na := fz.len_le (na) Tz.out
          have h := Lib.hid (num_same_true _ _ _ _ _ _ _ _ w5 fy fz (by rw [← HR.out, Int.mul_comm, Int.add_comm]; exact Int.emod_add_mul_ediv _ _) (by omega) (by omega))
          go_wp2_with fail
          refine (h.out).mono ?_
          rintro e w' ⟨rfl, q, rfl⟩
          have b := below_drewN (Below.refl w5.heap.size w5) q
          generalize w5.drewN q = w6 at *
          clear h
          replace fa := fa.below b (Nat.le_refl _)
          replace fq := fq.below b (Nat.le_refl _)
          replace fx := fx.below b (Nat.le_refl _)
          replace fy := fy.below b (Nat.le_refl _)
          replace fz := fz.below b (Nat.le_refl _)
          replace b0 := below_trans b0 b
          clear b
          clear fx fy fz
          clear Zx Tx Zy Ty Zz Tz
          go_wp2_with (first | (at_builtin; refine app_list (w0 := w6) w6.heap.size rfl (.const (.slice none 0 0)) (.tmp 55) 23 28 .u32 4 rfl Try.underlying23 info_limbL (by omega) none 0 0 [] ada na ca xa rfl rfl hza hnca (App.nil _ _ _ _) fa.rds (Below.refl _ _) (Nat.le_refl _) (by omega) ?_; intro ad1 c1 v1 k1 b1 k2; simp only [Nat.zero_add, List.nil_append] at k1 ⊢) | (at_builtin; go_loud (refine app_zeros (w0 := w6) w6.heap.size rfl (.tmp 56) (.tmp 58) 23 3 28 .u32 .i64 .i64 4 rfl Try.underlying23 Try.underlying3 info_limbL (by omega) ad1 na c1 xa M rfl _ rfl rfl k1 b1 k2 (by omega) ?_); intro adl cl vl k3 b k4))
          have fl := App.noughts k3 fa.dig
          clear k1 b1 k2 k3 k4
          replace fa := fa.below b (Nat.le_refl _)
          replace fq := fq.below b (Nat.le_refl _)
          replace b0 := below_trans b0 b
          clear b
          have hS := num_small _ _ _ _ d vl fl (by omega) hd1
          rw [HR.out] at hS
          have h := Lib.hid (hS)
          go_wp2_with fail
          refine (h.out).mono ?_
          rintro e w7 ⟨adp, np, cp, rfl, fp, b⟩
          clear h
          replace fa := fa.below b (Nat.le_refl _)
          replace fq := fq.below b (Nat.le_refl _)
          replace fl := fl.below b (Nat.le_refl _)
          replace b0 := below_trans b0 b
          clear b
          have Zp := Lib.hid (Zq.out)
          have Tp := Lib.hid (Tq.out)
          have lp : np ≤ na := fp.len_le (na) Tp.out
          clear hS
          have hS := num_uint _ _ _ _ w7 fa.num (by omega)
          rw [HF.out] at hS
          try rw [HL.out] at hS
          have h := Lib.hid (hS)
          go_wp2_with fail
          refine (h.out).mono ?_
          rintro e w' ⟨rfl, rfl⟩
          clear h
          clear hS
          have h := Lib.hid (num_same_true _ _ _ _ _ _ _ _ w7 fp fq (rfl) (by omega) (by omega))
          go_wp2_with fail
          refine (h.out).mono ?_
          rintro e w' ⟨rfl, q, rfl⟩
          have b := below_drewN (Below.refl w7.heap.size w7) q
          generalize w7.drewN q = w9 at *
          clear h
          replace fa := fa.below b (Nat.le_refl _)
          replace fq := fq.below b (Nat.le_refl _)
          replace fl := fl.below b (Nat.le_refl _)
          replace fp := fp.below b (Nat.le_refl _)
          replace b0 := below_trans b0 b
          clear b
          clear fp fq
          clear Zp Tp Zq Tq
          have hC := num_cmp _ _ _ _ _ _ _ _ w9 fl fa.num (by omega) (by omega)
          rw [cmpI_eq rfl] at hC
          have h := Lib.hid (hC)
          go_wp2_with fail
          refine (h.out).mono ?_
          rintro e w' ⟨rfl, q, rfl⟩
          have b := below_drewN (Below.refl w9.heap.size w9) q
          generalize w9.drewN q = w10 at *
          clear h
          replace fa := fa.below b (Nat.le_refl _)
          replace fl := fl.below b (Nat.le_refl _)
          replace b0 := below_trans b0 b
          clear b
          clear hC
          have hC := num_len _ _ _ _ w10 fl (by omega)
          rw [HB.out] at hC
          have h := Lib.hid (hC)
          go_wp2_with fail
          refine (h.out).mono ?_
          rintro e w' ⟨rfl, rfl⟩
          clear h
          clear hC
          have hC := num_len _ _ _ _ w10 fa.num (by omega)
          rw [HB.out] at hC
          have h := Lib.hid (hC)
          go_wp2_with fail
          refine (h.out).mono ?_
          rintro e w' ⟨rfl, rfl⟩
          clear h
          clear hC
          have hC := num_len _ _ _ _ w10 fa.num (by omega)
          rw [HB.out] at hC
          have h := Lib.hid (hC)
          go_wp2_with fail
          refine (h.out).mono ?_
          rintro e w' ⟨rfl, rfl⟩
          clear h
          clear hC
          have h := Lib.hid (num_norm _ _ _ _ w10 fl (by omega))
          go_wp2_with fail
          refine (h.out).mono ?_
          rintro e w14 ⟨adx, nx, cx, rfl, fx, b⟩
          clear h
          replace fa := fa.below b (Nat.le_refl _)
          replace fl := fl.below b (Nat.le_refl _)
          replace b0 := below_trans b0 b
          clear b
          have Zx := Lib.hid (Za.out)
          have Tx := Lib.hid (Ta.out)
          have lx : nx ≤ na := fx.len_le (na) Tx.out
          have h := Lib.hid (num_norm _ _ _ _ w14 fa.num (by omega))
          go_wp2_with fail
          refine (h.out).mono ?_
          rintro e w15 ⟨ady, ny, cy, rfl, fy, b⟩
          clear h
          replace fa := fa.below b (Nat.le_refl _)
          replace fl := fl.below b (Nat.le_refl _)
          replace fx := fx.below b (Nat.le_refl _)
          replace b0 := below_trans b0 b
          clear b
          have Zy := Lib.hid (Za.out)
          have Ty := Lib.hid (Ta.out)
          have ly : ny ≤ na := fy.len_le (na) Ty.out
          have h := Lib.hid (num_same_true _ _ _ _ _ _ _ _ w15 fx fy (rfl) (by omega) (by omega))
          go_wp2_with fail
          refine (h.out).mono ?_
          rintro e w' ⟨rfl, q, rfl⟩
          have b := below_drewN (Below.refl w15.heap.size w15) q
          generalize w15.drewN q = w16 at *
          clear h
          replace fa := fa.below b (Nat.le_refl _)
          replace fl := fl.below b (Nat.le_refl _)
          replace fx := fx.below b (Nat.le_refl _)
          replace fy := fy.below b (Nat.le_refl _)
          replace b0 := below_trans b0 b
          clear b
          clear fx fy
          clear Zx Tx Zy Ty
          have h := Lib.hid (num_norm _ _ _ _ w16 fa.num (by omega))
          go_wp2_with fail
          refine (h.out).mono ?_
          rintro e w17 ⟨adx, nx, cx, rfl, fx, b⟩
          clear h
          replace fa := fa.below b (Nat.le_refl _)
          replace fl := fl.below b (Nat.le_refl _)
          replace b0 := below_trans b0 b
          clear b
          have Zx := Lib.hid (Za.out)
          have Tx := Lib.hid (Ta.out)
          have lx : nx ≤ na := fx.len_le (na) Tx.out
          have h := Lib.hid (listed_calls _ _ _ _ w17 fx (by omega))
          go_wp2_with fail
          refine (h.out).mono ?_
          rintro e w' ⟨rfl, rfl⟩
          clear h
          clear fx
          clear Zx Tx
          have h := Lib.hid ((from_calls _ w17 Za.out hfit).mono fun e w' q => q.can)
          go_wp2_with fail
          refine (h.out).mono ?_
          rintro e w19 ⟨adx, nx, cx, rfl, fx, b⟩
          clear h
          replace fa := fa.below b (Nat.le_refl _)
          replace fl := fl.below b (Nat.le_refl _)
          replace b0 := below_trans b0 b
          clear b
          have Zx := Lib.hid (Za.out)
          have Tx := Lib.hid (show (val 4294967296 xa) < 4294967296 ^ 2 from hfit)
          have lx : nx ≤ 2 := fx.len_le (2) Tx.out
          have h := Lib.hid (num_norm _ _ _ _ w19 fa.num (by omega))
          go_wp2_with fail
          refine (h.out).mono ?_
          rintro e w20 ⟨ady, ny, cy, rfl, fy, b⟩
          clear h
          replace fa := fa.below b (Nat.le_refl _)
          replace fl := fl.below b (Nat.le_refl _)
          replace fx := fx.below b (Nat.le_refl _)
          replace b0 := below_trans b0 b
          clear b
          have Zy := Lib.hid (Za.out)
          have Ty := Lib.hid (Ta.out)
          have ly : ny ≤ na := fy.len_le (na) Ty.out
          have h := Lib.hid (num_same_true _ _ _ _ _ _ _ _ w20 fx fy (rfl) (by omega) (by omega))
          go_wp2_with fail
          refine (h.out).mono ?_
          rintro e w' ⟨rfl, q, rfl⟩
          have b := below_drewN (Below.refl w20.heap.size w20) q
          generalize w20.drewN q = w21 at *
          clear h
          replace fa := fa.below b (Nat.le_refl _)
          replace fl := fl.below b (Nat.le_refl _)
          replace fx := fx.below b (Nat.le_refl _)
          replace fy := fy.below b (Nat.le_refl _)
          replace b0 := below_trans b0 b
          clear b
          go_wp2_with fail
          go_ret
          exact ⟨rfl, b0⟩
        · have HF := Lib.hid (show fits64 (val 4294967296 xa) = false by rw [fits_bits _ Za.out, HB.out]; simpa using hbit)
          have hS := num_small _ _ _ _ d w1 fa.num (by omega) hd1
          rw [HR.out] at hS
          have h := Lib.hid (hS)
          go_wp2_with fail
          refine (h.out).mono ?_
          rintro e w2 ⟨adq, nq, cq, rfl, fq, b⟩
          clear h
          replace fa := fa.below b (Nat.le_refl _)
          replace b0 := below_trans b0 b
          clear b
          have Zq := Lib.hid (Int.ediv_nonneg Za.out (Int.le_of_lt hd1.1))
          have Tq := Lib.hid (Int.lt_of_le_of_lt (Int.ediv_le_self d Za.out) Ta.out)
          have lq : nq ≤ na := fq.len_le (na) Tq.out
          clear hS
          have n1 := num_one w2 d (by omega)
          have b9 : Below w2.heap.size w2 (w2.alloc (.cells #[.int .u32 d] 28)) := (Below.refl _ _).alloc (Nat.le_refl _) _
          have hS := num_mul _ _ _ _ _ _ _ _ (w2.alloc (.cells #[.int .u32 d] 28)) ((fq.num Zq.out).below b9 (Nat.le_refl _)) n1 (by omega) (by omega)
          clear n1
          have h := Lib.hid hS
          clear hS
          go_wp2_with fail
          refine (h.out).mono ?_
          rintro e w3 ⟨adx, nx, cx, rfl, fx, b⟩
          clear h
          replace b := below_trans b9 b
          clear b9
          replace fa := fa.below b (Nat.le_refl _)
          replace fq := fq.below b (Nat.le_refl _)
          replace b0 := below_trans b0 b
          clear b
          have Zx := Lib.hid (Int.mul_nonneg Zq.out (Int.le_of_lt hd1.1))
          have Tx := Lib.hid (pow_mul_lt _ _ _ _ Zq.out (Int.le_of_lt hd1.1) Tq.out (show d < 4294967296 ^ 1 by omega))
          have lx : nx ≤ (na + 1) := fx.len_le (na + 1) Tx.out
          have n1 := num_one w3 r (by omega)
          have b9 : Below w3.heap.size w3 (w3.alloc (.cells #[.int .u32 r] 28)) := (Below.refl _ _).alloc (Nat.le_refl _) _
          have hS := num_add _ _ _ _ _ _ _ _ (w3.alloc (.cells #[.int .u32 r] 28)) ((fx.num Zx.out).below b9 (Nat.le_refl _)) n1 (by omega) (by omega)
          clear n1
          have h := Lib.hid hS
          clear hS
          go_wp2_with fail
          refine (h.out).mono ?_
          rintro e w4 ⟨ady, ny, cy, rfl, fy, b⟩
          clear h
          replace b := below_trans b9 b
          clear b9
          replace fa := fa.below b (Nat.le_refl _)
          replace fq := fq.below b (Nat.le_refl _)
          replace fx := fx.below b (Nat.le_refl _)
          replace b0 := below_trans b0 b
          clear b
          have Zy := Lib.hid (Int.add_nonneg Zx.out hr1)
          have Ty := Lib.hid (pow_add_lt _ _ _ _ Tx.out (show r < 4294967296 ^ 1 by omega))
          have ly : ny ≤ (na + 1 + 1 + 1) := fy.len_le (na + 1 + 1 + 1) Ty.out
          have h := Lib.hid (num_norm _ _ _ _ w4 fa.num (by omega))
          go_wp2_with fail
          refine (h.out).mono ?_
          rintro e w5 ⟨adz, nz, cz, rfl, fz, b⟩
          clear h
          replace fa := fa.below b (Nat.le_refl _)
          replace fq := fq.below b (Nat.le_refl _)
          replace fx := fx.below b (Nat.le_refl _)
          replace fy := fy.below b (Nat.le_refl _)
          replace b0 := below_trans b0 b
          clear b
          have Zz := Lib.hid (Za.out)
          have Tz := Lib.hid (Ta.out)
          have lz : nz ≤ na := fz.len_le (na) Tz.out
          have h := Lib.hid (num_same_true _ _ _ _ _ _ _ _ w5 fy fz (by rw [← HR.out, Int.mul_comm, Int.add_comm]; exact Int.emod_add_mul_ediv _ _) (by omega) (by omega))
          go_wp2_with fail
          refine (h.out).mono ?_
          rintro e w' ⟨rfl, q, rfl⟩
          have b := below_drewN (Below.refl w5.heap.size w5) q
          generalize w5.drewN q = w6 at *
          clear h
          replace fa := fa.below b (Nat.le_refl _)
          replace fq := fq.below b (Nat.le_refl _)
          replace fx := fx.below b (Nat.le_refl _)
          replace fy := fy.below b (Nat.le_refl _)
          replace fz := fz.below b (Nat.le_refl _)
          replace b0 := below_trans b0 b
          clear b
          clear fx fy fz
          clear Zx Tx Zy Ty Zz Tz
          go_wp2_with (first | (at_builtin; refine app_list (w0 := w6) w6.heap.size rfl (.const (.slice none 0 0)) (.tmp 55) 23 28 .u32 4 rfl Try.underlying23 info_limbL (by omega) none 0 0 [] ada na ca xa rfl rfl hza hnca (App.nil _ _ _ _) fa.rds (Below.refl _ _) (Nat.le_refl _) (by omega) ?_; intro ad1 c1 v1 k1 b1 k2; simp only [Nat.zero_add, List.nil_append] at k1 ⊢) | (at_builtin; go_loud (refine app_zeros (w0 := w6) w6.heap.size rfl (.tmp 56) (.tmp 58) 23 3 28 .u32 .i64 .i64 4 rfl Try.underlying23 Try.underlying3 info_limbL (by omega) ad1 na c1 xa M rfl _ rfl rfl k1 b1 k2 (by omega) ?_); intro adl cl vl k3 b k4))
          have fl := App.noughts k3 fa.dig
          clear k1 b1 k2 k3 k4
          replace fa := fa.below b (Nat.le_refl _)
          replace fq := fq.below b (Nat.le_refl _)
          replace b0 := below_trans b0 b
          clear b
          have hS := num_small _ _ _ _ d vl fl (by omega) hd1
          rw [HR.out] at hS
          have h := Lib.hid (hS)
          go_wp2_with fail
          refine (h.out).mono ?_
          rintro e w7 ⟨adp, np, cp, rfl, fp, b⟩
          clear h
          replace fa := fa.below b (Nat.le_refl _)
          replace fq := fq.below b (Nat.le_refl _)
          replace fl := fl.below b (Nat.le_refl _)
          replace b0 := below_trans b0 b
          clear b
          have Zp := Lib.hid (Zq.out)
          have Tp := Lib.hid (Tq.out)
          have lp : np ≤ na := fp.len_le (na) Tp.out
          clear hS
          have hS := num_uint _ _ _ _ w7 fa.num (by omega)
          rw [HF.out] at hS
          try rw [HL.out] at hS
          have h := Lib.hid (hS)
          go_wp2_with fail
          refine (h.out).mono ?_
          rintro e w' ⟨rfl, rfl⟩
          clear h
          clear hS
          have h := Lib.hid (num_same_true _ _ _ _ _ _ _ _ w7 fp fq (rfl) (by omega) (by omega))
          go_wp2_with fail
          refine (h.out).mono ?_
          rintro e w' ⟨rfl, q, rfl⟩
          have b := below_drewN (Below.refl w7.heap.size w7) q
          generalize w7.drewN q = w9 at *
          clear h
          replace fa := fa.below b (Nat.le_refl _)
          replace fq := fq.below b (Nat.le_refl _)
          replace fl := fl.below b (Nat.le_refl _)
          replace fp := fp.below b (Nat.le_refl _)
          replace b0 := below_trans b0 b
          clear b
          clear fp fq
          clear Zp Tp Zq Tq
          have hC := num_cmp _ _ _ _ _ _ _ _ w9 fl fa.num (by omega) (by omega)
          rw [cmpI_eq rfl] at hC
          have h := Lib.hid (hC)
          go_wp2_with fail
          refine (h.out).mono ?_
          rintro e w' ⟨rfl, q, rfl⟩
          have b := below_drewN (Below.refl w9.heap.size w9) q
          generalize w9.drewN q = w10 at *
          clear h
          replace fa := fa.below b (Nat.le_refl _)
          replace fl := fl.below b (Nat.le_refl _)
          replace b0 := below_trans b0 b
          clear b
          clear hC
          have hC := num_len _ _ _ _ w10 fl (by omega)
          rw [HB.out] at hC
          have h := Lib.hid (hC)
          go_wp2_with fail
          refine (h.out).mono ?_
          rintro e w' ⟨rfl, rfl⟩
          clear h
          clear hC
          have hC := num_len _ _ _ _ w10 fa.num (by omega)
          rw [HB.out] at hC
          have h := Lib.hid (hC)
          go_wp2_with fail
          refine (h.out).mono ?_
          rintro e w' ⟨rfl, rfl⟩
          clear h
          clear hC
          have hC := num_len _ _ _ _ w10 fa.num (by omega)
          rw [HB.out] at hC
          have h := Lib.hid (hC)
          go_wp2_with fail
          refine (h.out).mono ?_
          rintro e w' ⟨rfl, rfl⟩
          clear h
          clear hC
          have h := Lib.hid (num_norm _ _ _ _ w10 fl (by omega))
          go_wp2_with fail
          refine (h.out).mono ?_
          rintro e w14 ⟨adx, nx, cx, rfl, fx, b⟩
          clear h
          replace fa := fa.below b (Nat.le_refl _)
          replace fl := fl.below b (Nat.le_refl _)
          replace b0 := below_trans b0 b
          clear b
          have Zx := Lib.hid (Za.out)
          have Tx := Lib.hid (Ta.out)
          have lx : nx ≤ na := fx.len_le (na) Tx.out
          have h := Lib.hid (num_norm _ _ _ _ w14 fa.num (by omega))
          go_wp2_with fail
          refine (h.out).mono ?_
          rintro e w15 ⟨ady, ny, cy, rfl, fy, b⟩
          clear h
          replace fa := fa.below b (Nat.le_refl _)
          replace fl := fl.below b (Nat.le_refl _)
          replace fx := fx.below b (Nat.le_refl _)
          replace b0 := below_trans b0 b
          clear b
          have Zy := Lib.hid (Za.out)
          have Ty := Lib.hid (Ta.out)
          have ly : ny ≤ na := fy.len_le (na) Ty.out
          have h := Lib.hid (num_same_true _ _ _ _ _ _ _ _ w15 fx fy (rfl) (by omega) (by omega))
          go_wp2_with fail
          refine (h.out).mono ?_
          rintro e w' ⟨rfl, q, rfl⟩
          have b := below_drewN (Below.refl w15.heap.size w15) q
          generalize w15.drewN q = w16 at *
          clear h
          replace fa := fa.below b (Nat.le_refl _)
          replace fl := fl.below b (Nat.le_refl _)
          replace fx := fx.below b (Nat.le_refl _)
          replace fy := fy.below b (Nat.le_refl _)
          replace b0 := below_trans b0 b
          clear b
          clear fx fy
          clear Zx Tx Zy Ty
          have h := Lib.hid (num_norm _ _ _ _ w16 fa.num (by omega))
          go_wp2_with fail
          refine (h.out).mono ?_
          rintro e w17 ⟨adx, nx, cx, rfl, fx, b⟩
          clear h
          replace fa := fa.below b (Nat.le_refl _)
          replace fl := fl.below b (Nat.le_refl _)
          replace b0 := below_trans b0 b
          clear b
          have Zx := Lib.hid (Za.out)
          have Tx := Lib.hid (Ta.out)
          have lx : nx ≤ na := fx.len_le (na) Tx.out
          have h := Lib.hid (listed_calls _ _ _ _ w17 fx (by omega))
          go_wp2_with fail
          refine (h.out).mono ?_
          rintro e w' ⟨rfl, rfl⟩
          clear h
          clear fx
          clear Zx Tx
          go_wp2_with fail
          go_ret
          exact ⟨rfl, b0⟩
      · obtain rfl : r = 0 := by omega
        by_cases hbit : bb ≤ 64
        · have HF := Lib.hid (show fits64 (val 4294967296 xa) = true by rw [fits_bits _ Za.out, HB.out]; simpa using hbit)
          have hfit : (val 4294967296 xa) < 18446744073709551616 := of_decide_eq_true HF.out
          have HL := Lib.hid (show low64 (val 4294967296 xa) = (val 4294967296 xa) by unfold low64; rw [if_pos hfit])
          have hS := num_small _ _ _ _ d w1 fa.num (by omega) hd1
          rw [HR.out] at hS
          have h := Lib.hid (hS)
          go_wp2_with fail
          refine (h.out).mono ?_
          rintro e w2 ⟨adq, nq, cq, rfl, fq, b⟩
          clear h
          replace fa := fa.below b (Nat.le_refl _)
          replace b0 := below_trans b0 b
          clear b
          have Zq := Lib.hid (Int.ediv_nonneg Za.out (Int.le_of_lt hd1.1))
          have Tq := Lib.hid (Int.lt_of_le_of_lt (Int.ediv_le_self d Za.out) Ta.out)
          have lq : nq ≤ na := fq.len_le (na) Tq.out
          clear hS
          have n1 := num_one w2 d (by omega)
          have b9 : Below w2.heap.size w2 (w2.alloc (.cells #[.int .u32 d] 28)) := (Below.refl _ _).alloc (Nat.le_refl _) _
          have hS := num_mul _ _ _ _ _ _ _ _ (w2.alloc (.cells #[.int .u32 d] 28)) ((fq.num Zq.out).below b9 (Nat.le_refl _)) n1 (by omega) (by omega)
          clear n1
          have h := Lib.hid hS
          clear hS
          go_wp2_with fail
          refine (h.out).mono ?_
          rintro e w3 ⟨adx, nx, cx, rfl, fx, b⟩
          clear h
          replace b := below_trans b9 b
          clear b9
          replace fa := fa.below b (Nat.le_refl _)
          replace fq := fq.below b (Nat.le_refl _)
          replace b0 := below_trans b0 b
          clear b
          have Zx := Lib.hid (Int.mul_nonneg Zq.out (Int.le_of_lt hd1.1))
          have Tx := Lib.hid (pow_mul_lt _ _ _ _ Zq.out (Int.le_of_lt hd1.1) Tq.out (show d < 4294967296 ^ 1 by omega))
          have lx : nx ≤ (na + 1) := fx.len_le (na + 1) Tx.out
          have n1 := num_one w3 0 (by omega)
          have b9 : Below w3.heap.size w3 (w3.alloc (.cells #[.int .u32 0] 28)) := (Below.refl _ _).alloc (Nat.le_refl _) _
          have hS := num_add _ _ _ _ _ _ _ _ (w3.alloc (.cells #[.int .u32 0] 28)) ((fx.num Zx.out).below b9 (Nat.le_refl _)) n1 (by omega) (by omega)
          clear n1
          have h := Lib.hid hS
          clear hS
          go_wp2_with fail
          refine (h.out).mono ?_
          rintro e w4 ⟨ady, ny, cy, rfl, fy, b⟩
          clear h
          replace b := below_trans b9 b
          clear b9
          replace fa := fa.below b (Nat.le_refl _)
          replace fq := fq.below b (Nat.le_refl _)
          replace fx := fx.below b (Nat.le_refl _)
          replace b0 := below_trans b0 b
          clear b
          have Zy := Lib.hid (Int.add_nonneg Zx.out hr1)
          have Ty := Lib.hid (pow_add_lt _ _ _ _ Tx.out (show 0 < 4294967296 ^ 1 by omega))
          have ly : ny ≤ (na + 1 + 1 + 1) := fy.len_le (na + 1 + 1 + 1) Ty.out
          have h := Lib.hid (num_norm _ _ _ _ w4 fa.num (by omega))
          go_wp2_with fail
          refine (h.out).mono ?_
          rintro e w5 ⟨adz, nz, cz, rfl, fz, b⟩
          clear h
          replace fa := fa.below b (Nat.le_refl _)
          replace fq := fq.below b (Nat.le_refl _)
          replace fx := fx.below b (Nat.le_refl _)
          replace fy := fy.below b (Nat.le_refl _)
          replace b0 := below_trans b0 b
          clear b
          have Zz := Lib.hid (Za.out)
          have Tz := Lib.hid (Ta.out)
          have lz : nz ≤ na := fz.len_le (na) Tz.out
          have h := Lib.hid (num_same_true _ _ _ _ _ _ _ _ w5 fy fz (by rw [← HR.out, Int.mul_comm, Int.add_comm]; exact Int.emod_add_mul_ediv _ _) (by omega) (by omega))
          go_wp2_with fail
          refine (h.out).mono ?_
          rintro e w' ⟨rfl, q, rfl⟩
          have b := below_drewN (Below.refl w5.heap.size w5) q
          generalize w5.drewN q = w6 at *
          clear h
          replace fa := fa.below b (Nat.le_refl _)
          replace fq := fq.below b (Nat.le_refl _)
          replace fx := fx.below b (Nat.le_refl _)
          replace fy := fy.below b (Nat.le_refl _)
          replace fz := fz.below b (Nat.le_refl _)
          replace b0 := below_trans b0 b
          clear b
          clear fx fy fz
          clear Zx Tx Zy Ty Zz Tz
          go_wp2_with (first | (at_builtin; refine app_list (w0 := w6) w6.heap.size rfl (.const (.slice none 0 0)) (.tmp 55) 23 28 .u32 4 rfl Try.underlying23 info_limbL (by omega) none 0 0 [] ada na ca xa rfl rfl hza hnca (App.nil _ _ _ _) fa.rds (Below.refl _ _) (Nat.le_refl _) (by omega) ?_; intro ad1 c1 v1 k1 b1 k2; simp only [Nat.zero_add, List.nil_append] at k1 ⊢) | (at_builtin; go_loud (refine app_zeros (w0 := w6) w6.heap.size rfl (.tmp 56) (.tmp 58) 23 3 28 .u32 .i64 .i64 4 rfl Try.underlying23 Try.underlying3 info_limbL (by omega) ad1 na c1 xa M rfl _ rfl rfl k1 b1 k2 (by omega) ?_); intro adl cl vl k3 b k4))
          have fl := App.noughts k3 fa.dig
          clear k1 b1 k2 k3 k4
          replace fa := fa.below b (Nat.le_refl _)
          replace fq := fq.below b (Nat.le_refl _)
          replace b0 := below_trans b0 b
          clear b
          have hS := num_small _ _ _ _ d vl fl (by omega) hd1
          rw [HR.out] at hS
          have h := Lib.hid (hS)
          go_wp2_with fail
          refine (h.out).mono ?_
          rintro e w7 ⟨adp, np, cp, rfl, fp, b⟩
          clear h
          replace fa := fa.below b (Nat.le_refl _)
          replace fq := fq.below b (Nat.le_refl _)
          replace fl := fl.below b (Nat.le_refl _)
          replace b0 := below_trans b0 b
          clear b
          have Zp := Lib.hid (Zq.out)
          have Tp := Lib.hid (Tq.out)
          have lp : np ≤ na := fp.len_le (na) Tp.out
          clear hS
          have hS := num_uint _ _ _ _ w7 fa.num (by omega)
          rw [HF.out] at hS
          try rw [HL.out] at hS
          have h := Lib.hid (hS)
          go_wp2_with fail
          refine (h.out).mono ?_
          rintro e w' ⟨rfl, rfl⟩
          clear h
          clear hS
          have h := Lib.hid (num_same_true _ _ _ _ _ _ _ _ w7 fp fq (rfl) (by omega) (by omega))
          go_wp2_with fail
          refine (h.out).mono ?_
          rintro e w' ⟨rfl, q, rfl⟩
          have b := below_drewN (Below.refl w7.heap.size w7) q
          generalize w7.drewN q = w9 at *
          clear h
          replace fa := fa.below b (Nat.le_refl _)
          replace fq := fq.below b (Nat.le_refl _)
          replace fl := fl.below b (Nat.le_refl _)
          replace fp := fp.below b (Nat.le_refl _)
          replace b0 := below_trans b0 b
          clear b
          clear fp fq
          clear Zp Tp Zq Tq
          have hC := num_cmp _ _ _ _ _ _ _ _ w9 fl fa.num (by omega) (by omega)
          rw [cmpI_eq rfl] at hC
          have h := Lib.hid (hC)
          go_wp2_with fail
          refine (h.out).mono ?_
          rintro e w' ⟨rfl, q, rfl⟩
          have b := below_drewN (Below.refl w9.heap.size w9) q
          generalize w9.drewN q = w10 at *
          clear h
          replace fa := fa.below b (Nat.le_refl _)
          replace fl := fl.below b (Nat.le_refl _)
          replace b0 := below_trans b0 b
          clear b
          clear hC
          have hC := num_len _ _ _ _ w10 fl (by omega)
          rw [HB.out] at hC
          have h := Lib.hid (hC)
          go_wp2_with fail
          refine (h.out).mono ?_
          rintro e w' ⟨rfl, rfl⟩
          clear h
          clear hC
          have hC := num_len _ _ _ _ w10 fa.num (by omega)
          rw [HB.out] at hC
          have h := Lib.hid (hC)
          go_wp2_with fail
          refine (h.out).mono ?_
          rintro e w' ⟨rfl, rfl⟩
          clear h
          clear hC
          have hC := num_len _ _ _ _ w10 fa.num (by omega)
          rw [HB.out] at hC
          have h := Lib.hid (hC)
          go_wp2_with fail
          refine (h.out).mono ?_
          rintro e w' ⟨rfl, rfl⟩
          clear h
          clear hC
          have h := Lib.hid (num_norm _ _ _ _ w10 fl (by omega))
          go_wp2_with fail
          refine (h.out).mono ?_
          rintro e w14 ⟨adx, nx, cx, rfl, fx, b⟩
          clear h
          replace fa := fa.below b (Nat.le_refl _)
          replace fl := fl.below b (Nat.le_refl _)
          replace b0 := below_trans b0 b
          clear b
          have Zx := Lib.hid (Za.out)
          have Tx := Lib.hid (Ta.out)
          have lx : nx ≤ na := fx.len_le (na) Tx.out
          have h := Lib.hid (num_norm _ _ _ _ w14 fa.num (by omega))
          go_wp2_with fail
          refine (h.out).mono ?_
          rintro e w15 ⟨ady, ny, cy, rfl, fy, b⟩
          clear h
          replace fa := fa.below b (Nat.le_refl _)
          replace fl := fl.below b (Nat.le_refl _)
          replace fx := fx.below b (Nat.le_refl _)
          replace b0 := below_trans b0 b
          clear b
          have Zy := Lib.hid (Za.out)
          have Ty := Lib.hid (Ta.out)
          have ly : ny ≤ na := fy.len_le (na) Ty.out
          have h := Lib.hid (num_same_true _ _ _ _ _ _ _ _ w15 fx fy (rfl) (by omega) (by omega))
          go_wp2_with fail
          refine (h.out).mono ?_
          rintro e w' ⟨rfl, q, rfl⟩
          have b := below_drewN (Below.refl w15.heap.size w15) q
          generalize w15.drewN q = w16 at *
          clear h
          replace fa := fa.below b (Nat.le_refl _)
          replace fl := fl.below b (Nat.le_refl _)
          replace fx := fx.below b (Nat.le_refl _)
          replace fy := fy.below b (Nat.le_refl _)
          replace b0 := below_trans b0 b
          clear b
          clear fx fy
          clear Zx Tx Zy Ty
          have h := Lib.hid (num_norm _ _ _ _ w16 fa.num (by omega))
          go_wp2_with fail
          refine (h.out).mono ?_
          rintro e w17 ⟨adx, nx, cx, rfl, fx, b⟩
          clear h
          replace fa := fa.below b (Nat.le_refl _)
          replace fl := fl.below b (Nat.le_refl _)
          replace b0 := below_trans b0 b
          clear b
          have Zx := Lib.hid (Za.out)
          have Tx := Lib.hid (Ta.out)
          have lx : nx ≤ na := fx.len_le (na) Tx.out
          have h := Lib.hid (listed_calls _ _ _ _ w17 fx (by omega))
          go_wp2_with fail
          refine (h.out).mono ?_
          rintro e w' ⟨rfl, rfl⟩
          clear h
          clear fx
          clear Zx Tx
          have h := Lib.hid ((from_calls _ w17 Za.out hfit).mono fun e w' q => q.can)
          go_wp2_with fail
          refine (h.out).mono ?_
          rintro e w19 ⟨adx, nx, cx, rfl, fx, b⟩
          clear h
          replace fa := fa.below b (Nat.le_refl _)
          replace fl := fl.below b (Nat.le_refl _)
          replace b0 := below_trans b0 b
          clear b
          have Zx := Lib.hid (Za.out)
          have Tx := Lib.hid (show (val 4294967296 xa) < 4294967296 ^ 2 from hfit)
          have lx : nx ≤ 2 := fx.len_le (2) Tx.out
          have h := Lib.hid (num_norm _ _ _ _ w19 fa.num (by omega))
          go_wp2_with fail
          refine (h.out).mono ?_
          rintro e w20 ⟨ady, ny, cy, rfl, fy, b⟩
          clear h
          replace fa := fa.below b (Nat.le_refl _)
          replace fl := fl.below b (Nat.le_refl _)
          replace fx := fx.below b (Nat.le_refl _)
          replace b0 := below_trans b0 b
          clear b
          have Zy := Lib.hid (Za.out)
          have Ty := Lib.hid (Ta.out)
          have ly : ny ≤ na := fy.len_le (na) Ty.out
          have h := Lib.hid (num_same_true _ _ _ _ _ _ _ _ w20 fx fy (rfl) (by omega) (by omega))
          go_wp2_with fail
          refine (h.out).mono ?_
          rintro e w' ⟨rfl, q, rfl⟩
          have b := below_drewN (Below.refl w20.heap.size w20) q
          generalize w20.drewN q = w21 at *
          clear h
          replace fa := fa.below b (Nat.le_refl _)
          replace fl := fl.below b (Nat.le_refl _)
          replace fx := fx.below b (Nat.le_refl _)
          replace fy := fy.below b (Nat.le_refl _)
          replace b0 := below_trans b0 b
          clear b
          go_wp2_with fail
          go_ret
          exact ⟨rfl, b0⟩
        · have HF := Lib.hid (show fits64 (val 4294967296 xa) = false by rw [fits_bits _ Za.out, HB.out]; simpa using hbit)
          have hS := num_small _ _ _ _ d w1 fa.num (by omega) hd1
          rw [HR.out] at hS
          have h := Lib.hid (hS)
          go_wp2_with fail
          refine (h.out).mono ?_
          rintro e w2 ⟨adq, nq, cq, rfl, fq, b⟩
          clear h
          replace fa := fa.below b (Nat.le_refl _)
          replace b0 := below_trans b0 b
          clear b
          have Zq := Lib.hid (Int.ediv_nonneg Za.out (Int.le_of_lt hd1.1))
          have Tq := Lib.hid (Int.lt_of_le_of_lt (Int.ediv_le_self d Za.out) Ta.out)
          have lq : nq ≤ na := fq.len_le (na) Tq.out
          clear hS
          have n1 := num_one w2 d (by omega)
          have b9 : Below w2.heap.size w2 (w2.alloc (.cells #[.int .u32 d] 28)) := (Below.refl _ _).alloc (Nat.le_refl _) _
          have hS := num_mul _ _ _ _ _ _ _ _ (w2.alloc (.cells #[.int .u32 d] 28)) ((fq.num Zq.out).below b9 (Nat.le_refl _)) n1 (by omega) (by omega)
          clear n1
          have h := Lib.hid hS
          clear hS
          go_wp2_with fail
          refine (h.out).mono ?_
          rintro e w3 ⟨adx, nx, cx, rfl, fx, b⟩
          clear h
          replace b := below_trans b9 b
          clear b9
          replace fa := fa.below b (Nat.le_refl _)
          replace fq := fq.below b (Nat.le_refl _)
          replace b0 := below_trans b0 b
          clear b
          have Zx := Lib.hid (Int.mul_nonneg Zq.out (Int.le_of_lt hd1.1))
          have Tx := Lib.hid (pow_mul_lt _ _ _ _ Zq.out (Int.le_of_lt hd1.1) Tq.out (show d < 4294967296 ^ 1 by omega))
          have lx : nx ≤ (na + 1) := fx.len_le (na + 1) Tx.out
          have n1 := num_one w3 0 (by omega)
          have b9 : Below w3.heap.size w3 (w3.alloc (.cells #[.int .u32 0] 28)) := (Below.refl _ _).alloc (Nat.le_refl _) _
          have hS := num_add _ _ _ _ _ _ _ _ (w3.alloc (.cells #[.int .u32 0] 28)) ((fx.num Zx.out).below b9 (Nat.le_refl _)) n1 (by omega) (by omega)
          clear n1
          have h := Lib.hid hS
          clear hS
          go_wp2_with fail
          refine (h.out).mono ?_
          rintro e w4 ⟨ady, ny, cy, rfl, fy, b⟩
          clear h
          replace b := below_trans b9 b
          clear b9
          replace fa := fa.below b (Nat.le_refl _)
          replace fq := fq.below b (Nat.le_refl _)
          replace fx := fx.below b (Nat.le_refl _)
          replace b0 := below_trans b0 b
          clear b
          have Zy := Lib.hid (Int.add_nonneg Zx.out hr1)
          have Ty := Lib.hid (pow_add_lt _ _ _ _ Tx.out (show 0 < 4294967296 ^ 1 by omega))
          have ly : ny ≤ (na + 1 + 1 + 1) := fy.len_le (na + 1 + 1 + 1) Ty.out
          have h := Lib.hid (num_norm _ _ _ _ w4 fa.num (by omega))
          go_wp2_with fail
          refine (h.out).mono ?_
          rintro e w5 ⟨adz, nz, cz, rfl, fz, b⟩
          clear h
          replace fa := fa.below b (Nat.le_refl _)
          replace fq := fq.below b (Nat.le_refl _)
          replace fx := fx.below b (Nat.le_refl _)
          replace fy := fy.below b (Nat.le_refl _)
          replace b0 := below_trans b0 b
          clear b
          have Zz := Lib.hid (Za.out)
          have Tz := Lib.hid (Ta.out)
          have lz : nz ≤ na := fz.len_le (na) Tz.out
          have h := Lib.hid (num_same_true _ _ _ _ _ _ _ _ w5 fy fz (by rw [← HR.out, Int.mul_comm, Int.add_comm]; exact Int.emod_add_mul_ediv _ _) (by omega) (by omega))
          go_wp2_with fail
          refine (h.out).mono ?_
          rintro e w' ⟨rfl, q, rfl⟩
          have b := below_drewN (Below.refl w5.heap.size w5) q
          generalize w5.drewN q = w6 at *
          clear h
          replace fa := fa.below b (Nat.le_refl _)
          replace fq := fq.below b (Nat.le_refl _)
          replace fx := fx.below b (Nat.le_refl _)
          replace fy := fy.below b (Nat.le_refl _)
          replace fz := fz.below b (Nat.le_refl _)
          replace b0 := below_trans b0 b
          clear b
          clear fx fy fz
          clear Zx Tx Zy Ty Zz Tz
          go_wp2_with (first | (at_builtin; refine app_list (w0 := w6) w6.heap.size rfl (.const (.slice none 0 0)) (.tmp 55) 23 28 .u32 4 rfl Try.underlying23 info_limbL (by omega) none 0 0 [] ada na ca xa rfl rfl hza hnca (App.nil _ _ _ _) fa.rds (Below.refl _ _) (Nat.le_refl _) (by omega) ?_; intro ad1 c1 v1 k1 b1 k2; simp only [Nat.zero_add, List.nil_append] at k1 ⊢) | (at_builtin; go_loud (refine app_zeros (w0 := w6) w6.heap.size rfl (.tmp 56) (.tmp 58) 23 3 28 .u32 .i64 .i64 4 rfl Try.underlying23 Try.underlying3 info_limbL (by omega) ad1 na c1 xa M rfl _ rfl rfl k1 b1 k2 (by omega) ?_); intro adl cl vl k3 b k4))
          have fl := App.noughts k3 fa.dig
          clear k1 b1 k2 k3 k4
          replace fa := fa.below b (Nat.le_refl _)
          replace fq := fq.below b (Nat.le_refl _)
          replace b0 := below_trans b0 b
          clear b
          have hS := num_small _ _ _ _ d vl fl (by omega) hd1
          rw [HR.out] at hS
          have h := Lib.hid (hS)
          go_wp2_with fail
          refine (h.out).mono ?_
          rintro e w7 ⟨adp, np, cp, rfl, fp, b⟩
          clear h
          replace fa := fa.below b (Nat.le_refl _)
          replace fq := fq.below b (Nat.le_refl _)
          replace fl := fl.below b (Nat.le_refl _)
          replace b0 := below_trans b0 b
          clear b
          have Zp := Lib.hid (Zq.out)
          have Tp := Lib.hid (Tq.out)
          have lp : np ≤ na := fp.len_le (na) Tp.out
          clear hS
          have hS := num_uint _ _ _ _ w7 fa.num (by omega)
          rw [HF.out] at hS
          try rw [HL.out] at hS
          have h := Lib.hid (hS)
          go_wp2_with fail
          refine (h.out).mono ?_
          rintro e w' ⟨rfl, rfl⟩
          clear h
          clear hS
          have h := Lib.hid (num_same_true _ _ _ _ _ _ _ _ w7 fp fq (rfl) (by omega) (by omega))
          go_wp2_with fail
          refine (h.out).mono ?_
          rintro e w' ⟨rfl, q, rfl⟩
          have b := below_drewN (Below.refl w7.heap.size w7) q
          generalize w7.drewN q = w9 at *
          clear h
          replace fa := fa.below b (Nat.le_refl _)
          replace fq := fq.below b (Nat.le_refl _)
          replace fl := fl.below b (Nat.le_refl _)
          replace fp := fp.below b (Nat.le_refl _)
          replace b0 := below_trans b0 b
          clear b
          clear fp fq
          clear Zp Tp Zq Tq
          have hC := num_cmp _ _ _ _ _ _ _ _ w9 fl fa.num (by omega) (by omega)
          rw [cmpI_eq rfl] at hC
          have h := Lib.hid (hC)
          go_wp2_with fail
          refine (h.out).mono ?_
          rintro e w' ⟨rfl, q, rfl⟩
          have b := below_drewN (Below.refl w9.heap.size w9) q
          generalize w9.drewN q = w10 at *
          clear h
          replace fa := fa.below b (Nat.le_refl _)
          replace fl := fl.below b (Nat.le_refl _)
          replace b0 := below_trans b0 b
          clear b
          clear hC
          have hC := num_len _ _ _ _ w10 fl (by omega)
          rw [HB.out] at hC
          have h := Lib.hid (hC)
          go_wp2_with fail
          refine (h.out).mono ?_
          rintro e w' ⟨rfl, rfl⟩
          clear h
          clear hC
          have hC := num_len _ _ _ _ w10 fa.num (by omega)
          rw [HB.out] at hC
          have h := Lib.hid (hC)
          go_wp2_with fail
          refine (h.out).mono ?_
          rintro e w' ⟨rfl, rfl⟩
          clear h
          clear hC
          have hC := num_len _ _ _ _ w10 fa.num (by omega)
          rw [HB.out] at hC
          have h := Lib.hid (hC)
          go_wp2_with fail
          refine (h.out).mono ?_
          rintro e w' ⟨rfl, rfl⟩
          clear h
          clear hC
          have h := Lib.hid (num_norm _ _ _ _ w10 fl (by omega))
          go_wp2_with fail
          refine (h.out).mono ?_
          rintro e w14 ⟨adx, nx, cx, rfl, fx, b⟩
          clear h
          replace fa := fa.below b (Nat.le_refl _)
          replace fl := fl.below b (Nat.le_refl _)
          replace b0 := below_trans b0 b
          clear b
          have Zx := Lib.hid (Za.out)
          have Tx := Lib.hid (Ta.out)
          have lx : nx ≤ na := fx.len_le (na) Tx.out
          have h := Lib.hid (num_norm _ _ _ _ w14 fa.num (by omega))
          go_wp2_with fail
          refine (h.out).mono ?_
          rintro e w15 ⟨ady, ny, cy, rfl, fy, b⟩
          clear h
          replace fa := fa.below b (Nat.le_refl _)
          replace fl := fl.below b (Nat.le_refl _)
          replace fx := fx.below b (Nat.le_refl _)
          replace b0 := below_trans b0 b
          clear b
          have Zy := Lib.hid (Za.out)
          have Ty := Lib.hid (Ta.out)
          have ly : ny ≤ na := fy.len_le (na) Ty.out
          have h := Lib.hid (num_same_true _ _ _ _ _ _ _ _ w15 fx fy (rfl) (by omega) (by omega))
          go_wp2_with fail
          refine (h.out).mono ?_
          rintro e w' ⟨rfl, q, rfl⟩
          have b := below_drewN (Below.refl w15.heap.size w15) q
          generalize w15.drewN q = w16 at *
          clear h
          replace fa := fa.below b (Nat.le_refl _)
          replace fl := fl.below b (Nat.le_refl _)
          replace fx := fx.below b (Nat.le_refl _)
          replace fy := fy.below b (Nat.le_refl _)
          replace b0 := below_trans b0 b
          clear b
          clear fx fy
          clear Zx Tx Zy Ty
          have h := Lib.hid (num_norm _ _ _ _ w16 fa.num (by omega))
          go_wp2_with fail
          refine (h.out).mono ?_
          rintro e w17 ⟨adx, nx, cx, rfl, fx, b⟩
          clear h
          replace fa := fa.below b (Nat.le_refl _)
          replace fl := fl.below b (Nat.le_refl _)
          replace b0 := below_trans b0 b
          clear b
          have Zx := Lib.hid (Za.out)
          have Tx := Lib.hid (Ta.out)
          have lx : nx ≤ na := fx.len_le (na) Tx.out
          have h := Lib.hid (listed_calls _ _ _ _ w17 fx (by omega))
          go_wp2_with fail
          refine (h.out).mono ?_
          rintro e w' ⟨rfl, rfl⟩
          clear h
          clear fx
          clear Zx Tx
          go_wp2_with fail
          go_ret
          exact ⟨rfl, b0⟩
  · go_wp2
    go_ret
    exact ⟨rfl, b0⟩
end Go.Proofs.Ytemllpbpnndgeaa
