/- The law NatBits: its walk out of the contracts of what it calls. (Printed by law.py.) -/
import Derived.Test.YtemllpbpnndgeaaNum
import Derived.Test.YtemllpbpnndgeaaRow
import Derived.Test.YtemllpbpnndgeaaNAdd
import Derived.Test.YtemllpbpnndgeaaNMul
import Derived.Test.YtemllpbpnndgeaaNNSub
import Derived.Test.YtemllpbpnndgeaaNShl
import Derived.Test.YtemllpbpnndgeaaNShr
import Derived.Test.YtemllpbpnndgeaaNNLen
import Derived.Test.YtemllpbpnndgeaaNNCmp
import Derived.Test.YtemllpbpnndgeaaNNorm
import Derived.Test.YtemllpbpnndgeaaFrom
import Derived.Test.YtemllpbpnndgeaaLives
set_option linter.unusedVariables false
set_option linter.unusedSimpArgs false
namespace Go.Proofs.Ytemllpbpnndgeaa
open Go.RowKit

theorem bits_lt (V : Int) (L : Nat) (hV : 0 ≤ V) (h : V < 4294967296 ^ L) : bitsOf V ≤ 32 * L := by
  obtain ⟨v, rfl⟩ := Int.eq_ofNat_of_zero_le hV
  rw [show (4294967296 : Int) = 2 ^ 32 from rfl, ← Int.pow_mul] at h
  have h1 : v < 2 ^ (32 * L) := by
    have : ((2 ^ (32 * L) : Nat) : Int) = 2 ^ (32 * L) := by simp
    omega
  unfold bitsOf
  rw [Int.toNat_natCast]
  by_cases h0 : v = 0
  · rw [h0, blen_zero]; omega
  · have h2 := (Nat.pow_lt_pow_iff_right (by omega : 1 < 2)).1 (Nat.lt_of_le_of_lt (blen_ge v h0) h1)
    omega
theorem shl_num (V : Int) (n : Nat) (h : bitsOf V + n ≤ 8388608) : shlOk V n = true ∧ shlNum V n = V * 2 ^ n := by
  have h1 : shlOk V n = true := decide_eq_true ⟨by omega, .inr (by unfold bitsOf at h; omega)⟩
  refine ⟨h1, ?_⟩
  unfold shlNum
  rw [if_pos h1, Int.toNat_natCast]
theorem shr_num (V : Int) (n : Nat) : shrNum V n = V / 2 ^ n ∧ shrMore V n = decide (V % 2 ^ n ≠ 0) ∧ decide ((0 : Int) ≤ (n : Int)) = true := by
  unfold shrNum shrMore
  rw [if_pos (by omega), decide_eq_true (by omega), Int.toNat_natCast]
  exact ⟨rfl, rfl, rfl⟩
theorem bits_ends (V : Int) (hV : 0 < V) : ∃ k : Nat, bitsOf V = ((k + 1 : Nat) : Int) ∧ 2 ^ k ≤ V ∧ V < 2 ^ k + 2 ^ k := by
  obtain ⟨v, rfl⟩ := Int.eq_ofNat_of_zero_le (Int.le_of_lt hV)
  have h0 : v ≠ 0 := by omega
  have h1 := blen_pos v h0
  obtain ⟨k, hk⟩ : ∃ k, blen v = k + 1 := ⟨blen v - 1, by omega⟩
  have h2 := blen_lt v
  have h3 := blen_ge v h0
  rw [hk] at h2 h3
  have c : ((2 ^ k : Nat) : Int) = 2 ^ k := by simp
  rw [Nat.pow_succ] at h2
  rw [Nat.add_sub_cancel] at h3
  refine ⟨k, by unfold bitsOf; rw [Int.toNat_natCast, hk], by omega, by omega⟩
theorem shl_bits (V : Int) (n : Nat) (hV : 0 ≤ V) : bitsOf (V * 2 ^ n) ≤ bitsOf V + n := by
  obtain ⟨v, rfl⟩ := Int.eq_ofNat_of_zero_le hV
  have e : ((v : Int) * 2 ^ n).toNat = v * 2 ^ n := by
    have : ((v * 2 ^ n : Nat) : Int) = (v : Int) * 2 ^ n := by simp
    omega
  unfold bitsOf
  rw [e, Int.toNat_natCast]
  by_cases h0 : v * 2 ^ n = 0
  · rw [h0, blen_zero]; omega
  · have h1 := blen_ge _ h0
    have h2 : v * 2 ^ n < 2 ^ (blen v + n) := by
      rw [Nat.pow_add]
      exact Nat.mul_lt_mul_of_pos_right (blen_lt v) (Nat.two_pow_pos n)
    have h3 := (Nat.pow_lt_pow_iff_right (by omega : 1 < 2)).1 (Nat.lt_of_le_of_lt h1 h2)
    omega
structure Lt9 (x : Int) : Prop where
  out : x < 4294967296 ^ 9
theorem pow_two_lt (n : Nat) (h : n ≤ 256) : (2 : Int) ^ n < 4294967296 ^ 9 := Int.lt_of_le_of_lt (pow_le (by omega) h) (by decide)

set_option maxRecDepth 20000 in
set_option maxHeartbeats 4000000 in
theorem walk_NatBits (w : World) (ada : Option Addr) (na ca : Nat) (xa : List Int) (hnca : na ≤ ca) (hna : na * 4 ≤ 140737488351232) (hra : Rds w .u32 ada na xa) (dxa : Dig 4294967296 xa) (m : Int) (hm : 0 ≤ m ∧ m < 256) (n : Int) (hn : 0 ≤ n ∧ n < 256) :
    Calls Try.prog 11 #[.slice ada na ca, .int .u8 m, .int .u8 n] w (LawTrue w) := by
  obtain ⟨M, rfl⟩ := Int.eq_ofNat_of_zero_le hm.1
  have hm256 : M < 256 := by omega
  clear hm
  obtain ⟨N, rfl⟩ := Int.eq_ofNat_of_zero_le hn.1
  have hn256 : N < 256 := by omega
  clear hn
  have b0 : Below w.heap.size w w := Below.refl _ _
  have fa : Arg w ada na ca xa := ⟨hnca, hra, dxa⟩
  clear hra dxa
  by_cases hbig : 131072 < na
  · go_enter Try.func11, Try.ntmps11
    go_wp2
    go_ret
    exact ⟨rfl, b0⟩
  · skip
    have Za := Lib.hid fa.nonneg
    have Ta := Lib.hid fa.lt
    have la : na ≤ na := Nat.le_refl _
    have hbits : bitsOf (val 4294967296 xa) ≤ 4194304 := by have := bits_lt _ _ Za.out Ta.out; omega
    have P9 : Lt9 (2 ^ N) := ⟨pow_two_lt N (by omega)⟩
    have M9 : Lt9 (2 ^ M) := ⟨pow_two_lt M (by omega)⟩
    have PP := Lib.hid (show (0 : Int) < 2 ^ N from Int.pow_pos (by omega))
    have MP := Lib.hid (show (0 : Int) < 2 ^ M from Int.pow_pos (by omega))
    have ES := Lib.hid (shl_num (val 4294967296 xa) N (by omega))
    have EB := Lib.hid (shl_num (val 4294967296 xa) (M + N) (by omega))
    have ET := Lib.hid (shl_num ((val 4294967296 xa) * 2 ^ N) M (by have := shl_bits (val 4294967296 xa) N Za.out; omega))
    go_enter Try.func11, Try.ntmps11
    have h := Lib.hid (lives_calls w)
    go_wp2_with fail
    refine (h.out).mono ?_
    rintro e w1 ⟨rfl, b⟩
    clear h
    replace fa := fa.below b (Nat.le_refl _)
    replace b0 := below_trans b0 b
    clear b
    have h := Lib.hid ((from_calls 1 w1 (by omega) (by omega)).mono fun e w' q => q.can)
    go_wp2_with fail
    refine (h.out).mono ?_
    rintro e w2 ⟨adp, np, cp, rfl, fp, b⟩
    clear h
    replace fa := fa.below b (Nat.le_refl _)
    replace b0 := below_trans b0 b
    clear b
    go_wp2_with fail
    go_loopw [7, 8] (fun pv iv wr => ∃ k : Nat, ∃ ad : Option Addr, ∃ n c : Nat, k ≤ N ∧ iv = .int .i64 k ∧ pv = .slice ad n c ∧ Can wr ad n c (2 ^ k) ∧ Below w2.heap.size w2 wr) (fun _ iv _ => N - (intOf iv).toNat)
    case atStart => exact ⟨0, _, _, _, Nat.zero_le _, rfl, rfl, by simpa using fp, Below.refl _ _⟩
    case round =>
      clear fp
      obtain ⟨k, adp, np, cp, hk, rfl, rfl, fp, b⟩ := hrel
      have Zp := Lib.hid (show (0 : Int) ≤ 2 ^ k from Int.le_of_lt (Int.pow_pos (by omega)))
      have lp : np ≤ 9 := fp.len_le 9 (pow_two_lt k (by omega))
      by_cases hkN : k < N
      · have h := Lib.hid (num_add _ _ _ _ _ _ _ _ wr (fp.num Zp.out) (fp.num Zp.out) (by omega) (by omega))
        go_wp2_with fail
        refine (h.out).mono ?_
        clear h
        rintro e w' ⟨ad2, n2, c2, rfl, f2, b2⟩
        rw [show (2 : Int) ^ k + 2 ^ k = 2 ^ (k + 1) by rw [Int.pow_succ]; omega] at f2
        go_wp2
        go_roundw
        case rel => exact ⟨k + 1, _, _, _, by omega, by go_num, rfl, f2, below_trans b b2⟩
        case measure => simp [intOf]; omega
      · obtain rfl : k = N := by omega
        have Tp := P9
        replace fa := fa.below b (Nat.le_refl _)
        replace b0 := below_trans b0 b
        clear b
        have EBI := Lib.hid (show shlOk (val 4294967296 xa) ((M : Int) + k) = true ∧ shlNum (val 4294967296 xa) ((M : Int) + k) = (val 4294967296 xa) * (2 ^ M * 2 ^ k) by rw [← Int.pow_add, ← Int.natCast_add]; exact EB.out)
        have HD := Lib.hid (show (val 4294967296 xa) - (val 4294967296 xa) / 2 ^ k * 2 ^ k = (val 4294967296 xa) % 2 ^ k ∧ decide ((val 4294967296 xa) / 2 ^ k * 2 ^ k ≤ (val 4294967296 xa)) = true by
          have h1 := Int.emod_add_mul_ediv (val 4294967296 xa) (2 ^ k)
          have h2 := Int.emod_nonneg (val 4294967296 xa) (Int.ne_of_gt PP.out)
          rw [Int.mul_comm] at h1
          exact ⟨by omega, decide_eq_true (by omega)⟩)
        have hE0 := Int.emod_nonneg (val 4294967296 xa) (Int.ne_of_gt PP.out)
        have hE1 := Int.emod_lt_of_pos (val 4294967296 xa) PP.out
        by_cases hV : (val 4294967296 xa) = 0
        · have HV := Lib.hid hV
          have hE2 : (val 4294967296 xa) % 2 ^ k = 0 := by rw [hV]; simp
          have HE := Lib.hid (And.intro hE0 (And.intro hE1 hE2))
          have HR := Lib.hid (show decide ((val 4294967296 xa) % 2 ^ k ≠ 0) = false by rw [hE2]; simp)
          have HB := Lib.hid (show bitsOf (val 4294967296 xa) = 0 by rw [hV]; rfl)
          clear hV hE0 hE1 hE2
          have hS := num_shl _ _ _ _ (k : Int) wr fa.num (by omega) (by omega)
          rw [ES.out.1, ES.out.2] at hS
          have h := Lib.hid (hS)
          go_wp2_with fail
          refine (h.out).mono ?_
          rintro e w3 ⟨ads, ns, cs, rfl, fs, b⟩
          clear h
          replace fa := fa.below b (Nat.le_refl _)
          replace fp := fp.below b (Nat.le_refl _)
          replace b0 := below_trans b0 b
          clear b
          have Zs := Lib.hid (Int.mul_nonneg Za.out Zp.out)
          have Ts := Lib.hid (pow_mul_lt _ _ _ _ Za.out Zp.out Ta.out Tp.out)
          have ls : ns ≤ (na + 9) := fs.len_le ((na + 9)) Ts.out
          clear hS
          have hS := num_shr _ _ _ _ (k : Int) w3 (fs.num Zs.out) (by omega) (by omega)
          rw [(shr_num _ k).1, (shr_num _ k).2.1, (shr_num 0 k).2.2, Int.mul_ediv_cancel _ (Int.ne_of_gt PP.out), Int.mul_emod_left, decide_eq_false (by simp)] at hS
          have h := Lib.hid (hS)
          go_wp2_with fail
          refine (h.out).mono ?_
          rintro e w4 ⟨adk, nk, ck, rfl, fk, b⟩
          clear h
          replace fa := fa.below b (Nat.le_refl _)
          replace fp := fp.below b (Nat.le_refl _)
          replace fs := fs.below b (Nat.le_refl _)
          replace b0 := below_trans b0 b
          clear b
          have Zk := Lib.hid (Za.out)
          have Tk := Lib.hid (Ta.out)
          have lk : nk ≤ na := fk.len_le (na) Tk.out
          clear hS
          have hS := num_shr _ _ _ _ (k : Int) w4 fa.num (by omega) (by omega)
          rw [(shr_num _ k).1, (shr_num _ k).2.1, (shr_num 0 k).2.2, HR.out] at hS
          have h := Lib.hid (hS)
          go_wp2_with fail
          refine (h.out).mono ?_
          rintro e w5 ⟨adq, nq, cq, rfl, fq, b⟩
          clear h
          replace fa := fa.below b (Nat.le_refl _)
          replace fp := fp.below b (Nat.le_refl _)
          replace fs := fs.below b (Nat.le_refl _)
          replace fk := fk.below b (Nat.le_refl _)
          replace b0 := below_trans b0 b
          clear b
          have Zq := Lib.hid (Int.ediv_nonneg Za.out Zp.out)
          have Tq := Lib.hid (Int.lt_of_le_of_lt (Int.ediv_le_self (2 ^ k) Za.out) Ta.out)
          have lq : nq ≤ na := fq.len_le (na) Tq.out
          clear hS
          have h := Lib.hid (num_mul _ _ _ _ _ _ _ _ w5 fa.num (fp.num Zp.out) (by omega) (by omega))
          go_wp2_with fail
          refine (h.out).mono ?_
          rintro e w6 ⟨adx, nx, cx, rfl, fx, b⟩
          clear h
          replace fa := fa.below b (Nat.le_refl _)
          replace fp := fp.below b (Nat.le_refl _)
          replace fs := fs.below b (Nat.le_refl _)
          replace fk := fk.below b (Nat.le_refl _)
          replace fq := fq.below b (Nat.le_refl _)
          replace b0 := below_trans b0 b
          clear b
          have Zx := Lib.hid (Int.mul_nonneg Za.out Zp.out)
          have Tx := Lib.hid (pow_mul_lt _ _ _ _ Za.out Zp.out Ta.out Tp.out)
          have lx : nx ≤ (na + 9) := fx.len_le ((na + 9)) Tx.out
          have h := Lib.hid (num_same_true _ _ _ _ _ _ _ _ w6 fs fx (rfl) (by omega) (by omega))
          go_wp2_with fail
          refine (h.out).mono ?_
          rintro e w' ⟨rfl, q, rfl⟩
          have b := below_drewN (Below.refl w6.heap.size w6) q
          generalize w6.drewN q = w7 at *
          clear h
          replace fa := fa.below b (Nat.le_refl _)
          replace fp := fp.below b (Nat.le_refl _)
          replace fs := fs.below b (Nat.le_refl _)
          replace fk := fk.below b (Nat.le_refl _)
          replace fq := fq.below b (Nat.le_refl _)
          replace fx := fx.below b (Nat.le_refl _)
          replace b0 := below_trans b0 b
          clear b
          clear fx
          clear Zx Tx
          have h := Lib.hid (num_norm _ _ _ _ w7 fa.num (by omega))
          go_wp2_with fail
          refine (h.out).mono ?_
          rintro e w8 ⟨adx, nx, cx, rfl, fx, b⟩
          clear h
          replace fa := fa.below b (Nat.le_refl _)
          replace fp := fp.below b (Nat.le_refl _)
          replace fs := fs.below b (Nat.le_refl _)
          replace fk := fk.below b (Nat.le_refl _)
          replace fq := fq.below b (Nat.le_refl _)
          replace b0 := below_trans b0 b
          clear b
          have Zx := Lib.hid (Za.out)
          have Tx := Lib.hid (Ta.out)
          have lx : nx ≤ na := fx.len_le (na) Tx.out
          have h := Lib.hid (num_same_true _ _ _ _ _ _ _ _ w8 fk fx (rfl) (by omega) (by omega))
          go_wp2_with fail
          refine (h.out).mono ?_
          rintro e w' ⟨rfl, q, rfl⟩
          have b := below_drewN (Below.refl w8.heap.size w8) q
          generalize w8.drewN q = w9 at *
          clear h
          replace fa := fa.below b (Nat.le_refl _)
          replace fp := fp.below b (Nat.le_refl _)
          replace fs := fs.below b (Nat.le_refl _)
          replace fk := fk.below b (Nat.le_refl _)
          replace fq := fq.below b (Nat.le_refl _)
          replace fx := fx.below b (Nat.le_refl _)
          replace b0 := below_trans b0 b
          clear b
          clear fx fk
          clear Zx Tx Zk Tk
          have h := Lib.hid (num_mul _ _ _ _ _ _ _ _ w9 (fq.num Zq.out) (fp.num Zp.out) (by omega) (by omega))
          go_wp2_with fail
          refine (h.out).mono ?_
          rintro e w10 ⟨adx, nx, cx, rfl, fx, b⟩
          clear h
          replace fa := fa.below b (Nat.le_refl _)
          replace fp := fp.below b (Nat.le_refl _)
          replace fs := fs.below b (Nat.le_refl _)
          replace fq := fq.below b (Nat.le_refl _)
          replace b0 := below_trans b0 b
          clear b
          have Zx := Lib.hid (Int.mul_nonneg Zq.out Zp.out)
          have Tx := Lib.hid (pow_mul_lt _ _ _ _ Zq.out Zp.out Tq.out Tp.out)
          have lx : nx ≤ (na + 9) := fx.len_le ((na + 9)) Tx.out
          have hS := num_sub _ _ _ _ _ _ _ _ w10 fa.num (fx.num Zx.out) (by omega) (by omega)
          rw [HD.out.1, HD.out.2] at hS
          have h := Lib.hid (hS)
          go_wp2_with fail
          refine (h.out).mono ?_
          rintro e w11 ⟨adr, nr, cr, rfl, fr, b⟩
          clear h
          replace fa := fa.below b (Nat.le_refl _)
          replace fp := fp.below b (Nat.le_refl _)
          replace fs := fs.below b (Nat.le_refl _)
          replace fq := fq.below b (Nat.le_refl _)
          replace fx := fx.below b (Nat.le_refl _)
          replace b0 := below_trans b0 b
          clear b
          clear hS
          clear fx fq
          clear Zx Tx Zq Tq
          have hnr := fr.zero_iff HE.out.1
          obtain rfl : nr = 0 := hnr.2 HE.out.2.2
          clear hnr
          have Zr := Lib.hid HE.out.1
          have Tr : Lt9 ((val 4294967296 xa) % 2 ^ k) := ⟨Int.lt_trans HE.out.2.1 Tp.out⟩
          have lr := fr.len_le 9 Tr.out
          have hC := num_cmp _ _ _ _ _ _ _ _ w11 (fr.num Zr.out) (fp.num Zp.out) (by omega) (by omega)
          rw [cmpI_lt HE.out.2.1] at hC
          have h := Lib.hid (hC)
          go_wp2_with fail
          refine (h.out).mono ?_
          rintro e w' ⟨rfl, q, rfl⟩
          have b := below_drewN (Below.refl w11.heap.size w11) q
          generalize w11.drewN q = w12 at *
          clear h
          replace fa := fa.below b (Nat.le_refl _)
          replace fp := fp.below b (Nat.le_refl _)
          replace fs := fs.below b (Nat.le_refl _)
          replace fr := fr.below b (Nat.le_refl _)
          replace b0 := below_trans b0 b
          clear b
          clear hC
          clear fr
          clear Zr Tr
          have hS := num_shl _ _ _ _ ((M : Int) + k) w12 fa.num (by omega) (by omega)
          rw [EBI.out.1, EBI.out.2] at hS
          have h := Lib.hid (hS)
          go_wp2_with fail
          refine (h.out).mono ?_
          rintro e w13 ⟨adx, nx, cx, rfl, fx, b⟩
          clear h
          replace fa := fa.below b (Nat.le_refl _)
          replace fp := fp.below b (Nat.le_refl _)
          replace fs := fs.below b (Nat.le_refl _)
          replace b0 := below_trans b0 b
          clear b
          have Zx := Lib.hid (Int.mul_nonneg Za.out (Int.mul_nonneg (Int.le_of_lt MP.out) Zp.out))
          have Tx := Lib.hid (pow_mul_lt _ _ _ _ Za.out (Int.mul_nonneg (Int.le_of_lt MP.out) Zp.out) Ta.out (pow_mul_lt _ _ _ _ (Int.le_of_lt MP.out) Zp.out M9.out Tp.out))
          have lx : nx ≤ (na + (9 + 9)) := fx.len_le ((na + (9 + 9))) Tx.out
          clear hS
          have hS := num_shl _ _ _ _ (M : Int) w13 (fs.num Zs.out) (by omega) (by omega)
          rw [ET.out.1, ET.out.2] at hS
          have h := Lib.hid (hS)
          go_wp2_with fail
          refine (h.out).mono ?_
          rintro e w14 ⟨ady, ny, cy, rfl, fy, b⟩
          clear h
          replace fa := fa.below b (Nat.le_refl _)
          replace fp := fp.below b (Nat.le_refl _)
          replace fs := fs.below b (Nat.le_refl _)
          replace fx := fx.below b (Nat.le_refl _)
          replace b0 := below_trans b0 b
          clear b
          have Zy := Lib.hid (Int.mul_nonneg Zs.out (Int.le_of_lt MP.out))
          have Ty := Lib.hid (pow_mul_lt _ _ _ _ Zs.out (Int.le_of_lt MP.out) Ts.out M9.out)
          have ly : ny ≤ (na + 9 + 9) := fy.len_le ((na + 9 + 9)) Ty.out
          clear hS
          have h := Lib.hid (num_same_true _ _ _ _ _ _ _ _ w14 fx fy (by rw [Int.mul_assoc, Int.mul_comm (2 ^ M)]) (by omega) (by omega))
          go_wp2_with fail
          refine (h.out).mono ?_
          rintro e w' ⟨rfl, q, rfl⟩
          have b := below_drewN (Below.refl w14.heap.size w14) q
          generalize w14.drewN q = w15 at *
          clear h
          replace fa := fa.below b (Nat.le_refl _)
          replace fp := fp.below b (Nat.le_refl _)
          replace fs := fs.below b (Nat.le_refl _)
          replace fx := fx.below b (Nat.le_refl _)
          replace fy := fy.below b (Nat.le_refl _)
          replace b0 := below_trans b0 b
          clear b
          clear fx fy fs fp
          clear Zx Tx Zy Ty Zs Ts Zp Tp
          have hC := num_len _ _ _ _ w15 fa.num (by omega)
          rw [HB.out] at hC
          have h := Lib.hid (hC)
          go_wp2_with fail
          refine (h.out).mono ?_
          rintro e w' ⟨rfl, rfl⟩
          clear h
          clear hC
          have hM := num_norm _ _ _ _ w15 fa.num (by omega)
          rw [HV.out] at hM
          have h := Lib.hid (hM)
          go_wp2_with fail
          refine (h.out).mono ?_
          rintro e w17 ⟨adx, nx, cx, rfl, fx, b⟩
          clear h
          replace fa := fa.below b (Nat.le_refl _)
          replace b0 := below_trans b0 b
          clear b
          obtain rfl := fx.zero
          clear hM
          clear fx
          go_wp2_with fail
          go_ret
          exact ⟨rfl, b0⟩
        · obtain ⟨j, hj1, hj2, hj3⟩ := bits_ends (val 4294967296 xa) (by have := Za.out; omega)
          have HB := Lib.hid hj1
          have HJ := Lib.hid (And.intro hj2 hj3)
          have hj : j ≤ 4194304 := by omega
          have EJ := Lib.hid (shl_num 1 j (by rw [show bitsOf 1 = 1 from by decide]; omega))
          have hkk : (((j + 1 : Nat) : Int) == 0) = false := by simp; omega
          clear hV hj1 hj2 hj3 hbits
          by_cases hE2 : (val 4294967296 xa) % 2 ^ k = 0
          · have HE := Lib.hid (And.intro hE0 (And.intro hE1 hE2))
            have HR := Lib.hid (show decide ((val 4294967296 xa) % 2 ^ k ≠ 0) = false by rw [hE2]; simp)
            clear hE0 hE1 hE2
            have hS := num_shl _ _ _ _ (k : Int) wr fa.num (by omega) (by omega)
            rw [ES.out.1, ES.out.2] at hS
            have h := Lib.hid (hS)
            go_wp2_with fail
            refine (h.out).mono ?_
            rintro e w3 ⟨ads, ns, cs, rfl, fs, b⟩
            clear h
            replace fa := fa.below b (Nat.le_refl _)
            replace fp := fp.below b (Nat.le_refl _)
            replace b0 := below_trans b0 b
            clear b
            have Zs := Lib.hid (Int.mul_nonneg Za.out Zp.out)
            have Ts := Lib.hid (pow_mul_lt _ _ _ _ Za.out Zp.out Ta.out Tp.out)
            have ls : ns ≤ (na + 9) := fs.len_le ((na + 9)) Ts.out
            clear hS
            have hS := num_shr _ _ _ _ (k : Int) w3 (fs.num Zs.out) (by omega) (by omega)
            rw [(shr_num _ k).1, (shr_num _ k).2.1, (shr_num 0 k).2.2, Int.mul_ediv_cancel _ (Int.ne_of_gt PP.out), Int.mul_emod_left, decide_eq_false (by simp)] at hS
            have h := Lib.hid (hS)
            go_wp2_with fail
            refine (h.out).mono ?_
            rintro e w4 ⟨adk, nk, ck, rfl, fk, b⟩
            clear h
            replace fa := fa.below b (Nat.le_refl _)
            replace fp := fp.below b (Nat.le_refl _)
            replace fs := fs.below b (Nat.le_refl _)
            replace b0 := below_trans b0 b
            clear b
            have Zk := Lib.hid (Za.out)
            have Tk := Lib.hid (Ta.out)
            have lk : nk ≤ na := fk.len_le (na) Tk.out
            clear hS
            have hS := num_shr _ _ _ _ (k : Int) w4 fa.num (by omega) (by omega)
            rw [(shr_num _ k).1, (shr_num _ k).2.1, (shr_num 0 k).2.2, HR.out] at hS
            have h := Lib.hid (hS)
            go_wp2_with fail
            refine (h.out).mono ?_
            rintro e w5 ⟨adq, nq, cq, rfl, fq, b⟩
            clear h
            replace fa := fa.below b (Nat.le_refl _)
            replace fp := fp.below b (Nat.le_refl _)
            replace fs := fs.below b (Nat.le_refl _)
            replace fk := fk.below b (Nat.le_refl _)
            replace b0 := below_trans b0 b
            clear b
            have Zq := Lib.hid (Int.ediv_nonneg Za.out Zp.out)
            have Tq := Lib.hid (Int.lt_of_le_of_lt (Int.ediv_le_self (2 ^ k) Za.out) Ta.out)
            have lq : nq ≤ na := fq.len_le (na) Tq.out
            clear hS
            have h := Lib.hid (num_mul _ _ _ _ _ _ _ _ w5 fa.num (fp.num Zp.out) (by omega) (by omega))
            go_wp2_with fail
            refine (h.out).mono ?_
            rintro e w6 ⟨adx, nx, cx, rfl, fx, b⟩
            clear h
            replace fa := fa.below b (Nat.le_refl _)
            replace fp := fp.below b (Nat.le_refl _)
            replace fs := fs.below b (Nat.le_refl _)
            replace fk := fk.below b (Nat.le_refl _)
            replace fq := fq.below b (Nat.le_refl _)
            replace b0 := below_trans b0 b
            clear b
            have Zx := Lib.hid (Int.mul_nonneg Za.out Zp.out)
            have Tx := Lib.hid (pow_mul_lt _ _ _ _ Za.out Zp.out Ta.out Tp.out)
            have lx : nx ≤ (na + 9) := fx.len_le ((na + 9)) Tx.out
            have h := Lib.hid (num_same_true _ _ _ _ _ _ _ _ w6 fs fx (rfl) (by omega) (by omega))
            go_wp2_with fail
            refine (h.out).mono ?_
            rintro e w' ⟨rfl, q, rfl⟩
            have b := below_drewN (Below.refl w6.heap.size w6) q
            generalize w6.drewN q = w7 at *
            clear h
            replace fa := fa.below b (Nat.le_refl _)
            replace fp := fp.below b (Nat.le_refl _)
            replace fs := fs.below b (Nat.le_refl _)
            replace fk := fk.below b (Nat.le_refl _)
            replace fq := fq.below b (Nat.le_refl _)
            replace fx := fx.below b (Nat.le_refl _)
            replace b0 := below_trans b0 b
            clear b
            clear fx
            clear Zx Tx
            have h := Lib.hid (num_norm _ _ _ _ w7 fa.num (by omega))
            go_wp2_with fail
            refine (h.out).mono ?_
            rintro e w8 ⟨adx, nx, cx, rfl, fx, b⟩
            clear h
            replace fa := fa.below b (Nat.le_refl _)
            replace fp := fp.below b (Nat.le_refl _)
            replace fs := fs.below b (Nat.le_refl _)
            replace fk := fk.below b (Nat.le_refl _)
            replace fq := fq.below b (Nat.le_refl _)
            replace b0 := below_trans b0 b
            clear b
            have Zx := Lib.hid (Za.out)
            have Tx := Lib.hid (Ta.out)
            have lx : nx ≤ na := fx.len_le (na) Tx.out
            have h := Lib.hid (num_same_true _ _ _ _ _ _ _ _ w8 fk fx (rfl) (by omega) (by omega))
            go_wp2_with fail
            refine (h.out).mono ?_
            rintro e w' ⟨rfl, q, rfl⟩
            have b := below_drewN (Below.refl w8.heap.size w8) q
            generalize w8.drewN q = w9 at *
            clear h
            replace fa := fa.below b (Nat.le_refl _)
            replace fp := fp.below b (Nat.le_refl _)
            replace fs := fs.below b (Nat.le_refl _)
            replace fk := fk.below b (Nat.le_refl _)
            replace fq := fq.below b (Nat.le_refl _)
            replace fx := fx.below b (Nat.le_refl _)
            replace b0 := below_trans b0 b
            clear b
            clear fx fk
            clear Zx Tx Zk Tk
            have h := Lib.hid (num_mul _ _ _ _ _ _ _ _ w9 (fq.num Zq.out) (fp.num Zp.out) (by omega) (by omega))
            go_wp2_with fail
            refine (h.out).mono ?_
            rintro e w10 ⟨adx, nx, cx, rfl, fx, b⟩
            clear h
            replace fa := fa.below b (Nat.le_refl _)
            replace fp := fp.below b (Nat.le_refl _)
            replace fs := fs.below b (Nat.le_refl _)
            replace fq := fq.below b (Nat.le_refl _)
            replace b0 := below_trans b0 b
            clear b
            have Zx := Lib.hid (Int.mul_nonneg Zq.out Zp.out)
            have Tx := Lib.hid (pow_mul_lt _ _ _ _ Zq.out Zp.out Tq.out Tp.out)
            have lx : nx ≤ (na + 9) := fx.len_le ((na + 9)) Tx.out
            have hS := num_sub _ _ _ _ _ _ _ _ w10 fa.num (fx.num Zx.out) (by omega) (by omega)
            rw [HD.out.1, HD.out.2] at hS
            have h := Lib.hid (hS)
            go_wp2_with fail
            refine (h.out).mono ?_
            rintro e w11 ⟨adr, nr, cr, rfl, fr, b⟩
            clear h
            replace fa := fa.below b (Nat.le_refl _)
            replace fp := fp.below b (Nat.le_refl _)
            replace fs := fs.below b (Nat.le_refl _)
            replace fq := fq.below b (Nat.le_refl _)
            replace fx := fx.below b (Nat.le_refl _)
            replace b0 := below_trans b0 b
            clear b
            clear hS
            clear fx fq
            clear Zx Tx Zq Tq
            have hnr := fr.zero_iff HE.out.1
            obtain rfl : nr = 0 := hnr.2 HE.out.2.2
            clear hnr
            have Zr := Lib.hid HE.out.1
            have Tr : Lt9 ((val 4294967296 xa) % 2 ^ k) := ⟨Int.lt_trans HE.out.2.1 Tp.out⟩
            have lr := fr.len_le 9 Tr.out
            have hC := num_cmp _ _ _ _ _ _ _ _ w11 (fr.num Zr.out) (fp.num Zp.out) (by omega) (by omega)
            rw [cmpI_lt HE.out.2.1] at hC
            have h := Lib.hid (hC)
            go_wp2_with fail
            refine (h.out).mono ?_
            rintro e w' ⟨rfl, q, rfl⟩
            have b := below_drewN (Below.refl w11.heap.size w11) q
            generalize w11.drewN q = w12 at *
            clear h
            replace fa := fa.below b (Nat.le_refl _)
            replace fp := fp.below b (Nat.le_refl _)
            replace fs := fs.below b (Nat.le_refl _)
            replace fr := fr.below b (Nat.le_refl _)
            replace b0 := below_trans b0 b
            clear b
            clear hC
            clear fr
            clear Zr Tr
            have hS := num_shl _ _ _ _ ((M : Int) + k) w12 fa.num (by omega) (by omega)
            rw [EBI.out.1, EBI.out.2] at hS
            have h := Lib.hid (hS)
            go_wp2_with fail
            refine (h.out).mono ?_
            rintro e w13 ⟨adx, nx, cx, rfl, fx, b⟩
            clear h
            replace fa := fa.below b (Nat.le_refl _)
            replace fp := fp.below b (Nat.le_refl _)
            replace fs := fs.below b (Nat.le_refl _)
            replace b0 := below_trans b0 b
            clear b
            have Zx := Lib.hid (Int.mul_nonneg Za.out (Int.mul_nonneg (Int.le_of_lt MP.out) Zp.out))
            have Tx := Lib.hid (pow_mul_lt _ _ _ _ Za.out (Int.mul_nonneg (Int.le_of_lt MP.out) Zp.out) Ta.out (pow_mul_lt _ _ _ _ (Int.le_of_lt MP.out) Zp.out M9.out Tp.out))
            have lx : nx ≤ (na + (9 + 9)) := fx.len_le ((na + (9 + 9))) Tx.out
            clear hS
            have hS := num_shl _ _ _ _ (M : Int) w13 (fs.num Zs.out) (by omega) (by omega)
            rw [ET.out.1, ET.out.2] at hS
            have h := Lib.hid (hS)
            go_wp2_with fail
            refine (h.out).mono ?_
            rintro e w14 ⟨ady, ny, cy, rfl, fy, b⟩
            clear h
            replace fa := fa.below b (Nat.le_refl _)
            replace fp := fp.below b (Nat.le_refl _)
            replace fs := fs.below b (Nat.le_refl _)
            replace fx := fx.below b (Nat.le_refl _)
            replace b0 := below_trans b0 b
            clear b
            have Zy := Lib.hid (Int.mul_nonneg Zs.out (Int.le_of_lt MP.out))
            have Ty := Lib.hid (pow_mul_lt _ _ _ _ Zs.out (Int.le_of_lt MP.out) Ts.out M9.out)
            have ly : ny ≤ (na + 9 + 9) := fy.len_le ((na + 9 + 9)) Ty.out
            clear hS
            have h := Lib.hid (num_same_true _ _ _ _ _ _ _ _ w14 fx fy (by rw [Int.mul_assoc, Int.mul_comm (2 ^ M)]) (by omega) (by omega))
            go_wp2_with fail
            refine (h.out).mono ?_
            rintro e w' ⟨rfl, q, rfl⟩
            have b := below_drewN (Below.refl w14.heap.size w14) q
            generalize w14.drewN q = w15 at *
            clear h
            replace fa := fa.below b (Nat.le_refl _)
            replace fp := fp.below b (Nat.le_refl _)
            replace fs := fs.below b (Nat.le_refl _)
            replace fx := fx.below b (Nat.le_refl _)
            replace fy := fy.below b (Nat.le_refl _)
            replace b0 := below_trans b0 b
            clear b
            clear fx fy fs fp
            clear Zx Tx Zy Ty Zs Ts Zp Tp
            have hC := num_len _ _ _ _ w15 fa.num (by omega)
            rw [HB.out] at hC
            have h := Lib.hid (hC)
            go_wp2_with fail
            refine (h.out).mono ?_
            rintro e w' ⟨rfl, rfl⟩
            clear h
            clear hC
            have h := Lib.hid ((from_calls 1 w15 (by omega) (by omega)).mono fun e w' q => q.can)
            go_wp2_with fail
            refine (h.out).mono ?_
            rintro e w17 ⟨adx, nx, cx, rfl, fx, b⟩
            clear h
            replace fa := fa.below b (Nat.le_refl _)
            replace b0 := below_trans b0 b
            clear b
            have Zx := Lib.hid (show (0 : Int) ≤ 1 by decide)
            have Tx := Lib.hid (show (1 : Int) < 4294967296 ^ 1 by decide)
            have lx : nx ≤ 1 := fx.len_le (1) Tx.out
            have hS := num_shl _ _ _ _ (j : Int) w17 (fx.num Zx.out) (by omega) (by omega)
            rw [EJ.out.1, EJ.out.2, Int.one_mul] at hS
            have h := Lib.hid (hS)
            go_wp2_with fail
            refine (h.out).mono ?_
            rintro e w18 ⟨ady, ny, cy, rfl, fy, b⟩
            clear h
            replace fa := fa.below b (Nat.le_refl _)
            replace fx := fx.below b (Nat.le_refl _)
            replace b0 := below_trans b0 b
            clear b
            have Zy := Lib.hid (show (0 : Int) ≤ 2 ^ j from Int.le_of_lt (Int.pow_pos (by omega)))
            have Ty := Lib.hid (Int.lt_of_le_of_lt HJ.out.1 Ta.out)
            have ly : ny ≤ na := fy.len_le (na) Ty.out
            clear hS
            have hC := num_cmp _ _ _ _ _ _ _ _ w18 fa.num (fy.num Zy.out) (by omega) (by omega)
            obtain ⟨z, hz⟩ : ∃ z, cmpI (val 4294967296 xa) (2 ^ j) = z := ⟨_, rfl⟩
            rw [hz] at hC
            have hz1 : 0 ≤ z := by rw [← hz]; exact cmpI_ge HJ.out.1
            clear hz
            have h := Lib.hid (hC)
            go_wp2_with fail
            refine (h.out).mono ?_
            rintro e w' ⟨rfl, q, rfl⟩
            have b := below_drewN (Below.refl w18.heap.size w18) q
            generalize w18.drewN q = w19 at *
            clear h
            replace fa := fa.below b (Nat.le_refl _)
            replace fx := fx.below b (Nat.le_refl _)
            replace fy := fy.below b (Nat.le_refl _)
            replace b0 := below_trans b0 b
            clear b
            clear hC
            have h := Lib.hid (num_add _ _ _ _ _ _ _ _ w19 (fy.num Zy.out) (fy.num Zy.out) (by omega) (by omega))
            go_wp2_with fail
            refine (h.out).mono ?_
            rintro e w20 ⟨adv, nv, cv, rfl, fv, b⟩
            clear h
            replace fa := fa.below b (Nat.le_refl _)
            replace fx := fx.below b (Nat.le_refl _)
            replace fy := fy.below b (Nat.le_refl _)
            replace b0 := below_trans b0 b
            clear b
            have Zv := Lib.hid (Int.add_nonneg Zy.out Zy.out)
            have Tv := Lib.hid (pow_add_lt _ _ _ _ Ty.out Ty.out)
            have lv : nv ≤ (na + na + 1) := fv.len_le ((na + na + 1)) Tv.out
            have hC := num_cmp _ _ _ _ _ _ _ _ w20 fa.num (fv.num Zv.out) (by omega) (by omega)
            rw [cmpI_lt HJ.out.2] at hC
            have h := Lib.hid (hC)
            go_wp2_with fail
            refine (h.out).mono ?_
            rintro e w' ⟨rfl, q, rfl⟩
            have b := below_drewN (Below.refl w20.heap.size w20) q
            generalize w20.drewN q = w21 at *
            clear h
            replace fa := fa.below b (Nat.le_refl _)
            replace fx := fx.below b (Nat.le_refl _)
            replace fy := fy.below b (Nat.le_refl _)
            replace fv := fv.below b (Nat.le_refl _)
            replace b0 := below_trans b0 b
            clear b
            clear hC
            go_wp2_with fail
            go_ret
            exact ⟨rfl, b0⟩
          · have HE := Lib.hid (And.intro hE0 (And.intro hE1 hE2))
            have HR := Lib.hid (decide_eq_true hE2)
            clear hE0 hE1 hE2
            have hS := num_shl _ _ _ _ (k : Int) wr fa.num (by omega) (by omega)
            rw [ES.out.1, ES.out.2] at hS
            have h := Lib.hid (hS)
            go_wp2_with fail
            refine (h.out).mono ?_
            rintro e w3 ⟨ads, ns, cs, rfl, fs, b⟩
            clear h
            replace fa := fa.below b (Nat.le_refl _)
            replace fp := fp.below b (Nat.le_refl _)
            replace b0 := below_trans b0 b
            clear b
            have Zs := Lib.hid (Int.mul_nonneg Za.out Zp.out)
            have Ts := Lib.hid (pow_mul_lt _ _ _ _ Za.out Zp.out Ta.out Tp.out)
            have ls : ns ≤ (na + 9) := fs.len_le ((na + 9)) Ts.out
            clear hS
            have hS := num_shr _ _ _ _ (k : Int) w3 (fs.num Zs.out) (by omega) (by omega)
            rw [(shr_num _ k).1, (shr_num _ k).2.1, (shr_num 0 k).2.2, Int.mul_ediv_cancel _ (Int.ne_of_gt PP.out), Int.mul_emod_left, decide_eq_false (by simp)] at hS
            have h := Lib.hid (hS)
            go_wp2_with fail
            refine (h.out).mono ?_
            rintro e w4 ⟨adk, nk, ck, rfl, fk, b⟩
            clear h
            replace fa := fa.below b (Nat.le_refl _)
            replace fp := fp.below b (Nat.le_refl _)
            replace fs := fs.below b (Nat.le_refl _)
            replace b0 := below_trans b0 b
            clear b
            have Zk := Lib.hid (Za.out)
            have Tk := Lib.hid (Ta.out)
            have lk : nk ≤ na := fk.len_le (na) Tk.out
            clear hS
            have hS := num_shr _ _ _ _ (k : Int) w4 fa.num (by omega) (by omega)
            rw [(shr_num _ k).1, (shr_num _ k).2.1, (shr_num 0 k).2.2, HR.out] at hS
            have h := Lib.hid (hS)
            go_wp2_with fail
            refine (h.out).mono ?_
            rintro e w5 ⟨adq, nq, cq, rfl, fq, b⟩
            clear h
            replace fa := fa.below b (Nat.le_refl _)
            replace fp := fp.below b (Nat.le_refl _)
            replace fs := fs.below b (Nat.le_refl _)
            replace fk := fk.below b (Nat.le_refl _)
            replace b0 := below_trans b0 b
            clear b
            have Zq := Lib.hid (Int.ediv_nonneg Za.out Zp.out)
            have Tq := Lib.hid (Int.lt_of_le_of_lt (Int.ediv_le_self (2 ^ k) Za.out) Ta.out)
            have lq : nq ≤ na := fq.len_le (na) Tq.out
            clear hS
            have h := Lib.hid (num_mul _ _ _ _ _ _ _ _ w5 fa.num (fp.num Zp.out) (by omega) (by omega))
            go_wp2_with fail
            refine (h.out).mono ?_
            rintro e w6 ⟨adx, nx, cx, rfl, fx, b⟩
            clear h
            replace fa := fa.below b (Nat.le_refl _)
            replace fp := fp.below b (Nat.le_refl _)
            replace fs := fs.below b (Nat.le_refl _)
            replace fk := fk.below b (Nat.le_refl _)
            replace fq := fq.below b (Nat.le_refl _)
            replace b0 := below_trans b0 b
            clear b
            have Zx := Lib.hid (Int.mul_nonneg Za.out Zp.out)
            have Tx := Lib.hid (pow_mul_lt _ _ _ _ Za.out Zp.out Ta.out Tp.out)
            have lx : nx ≤ (na + 9) := fx.len_le ((na + 9)) Tx.out
            have h := Lib.hid (num_same_true _ _ _ _ _ _ _ _ w6 fs fx (rfl) (by omega) (by omega))
            go_wp2_with fail
            refine (h.out).mono ?_
            rintro e w' ⟨rfl, q, rfl⟩
            have b := below_drewN (Below.refl w6.heap.size w6) q
            generalize w6.drewN q = w7 at *
            clear h
            replace fa := fa.below b (Nat.le_refl _)
            replace fp := fp.below b (Nat.le_refl _)
            replace fs := fs.below b (Nat.le_refl _)
            replace fk := fk.below b (Nat.le_refl _)
            replace fq := fq.below b (Nat.le_refl _)
            replace fx := fx.below b (Nat.le_refl _)
            replace b0 := below_trans b0 b
            clear b
            clear fx
            clear Zx Tx
            have h := Lib.hid (num_norm _ _ _ _ w7 fa.num (by omega))
            go_wp2_with fail
            refine (h.out).mono ?_
            rintro e w8 ⟨adx, nx, cx, rfl, fx, b⟩
            clear h
            replace fa := fa.below b (Nat.le_refl _)
            replace fp := fp.below b (Nat.le_refl _)
            replace fs := fs.below b (Nat.le_refl _)
            replace fk := fk.below b (Nat.le_refl _)
            replace fq := fq.below b (Nat.le_refl _)
            replace b0 := below_trans b0 b
            clear b
            have Zx := Lib.hid (Za.out)
            have Tx := Lib.hid (Ta.out)
            have lx : nx ≤ na := fx.len_le (na) Tx.out
            have h := Lib.hid (num_same_true _ _ _ _ _ _ _ _ w8 fk fx (rfl) (by omega) (by omega))
            go_wp2_with fail
            refine (h.out).mono ?_
            rintro e w' ⟨rfl, q, rfl⟩
            have b := below_drewN (Below.refl w8.heap.size w8) q
            generalize w8.drewN q = w9 at *
            clear h
            replace fa := fa.below b (Nat.le_refl _)
            replace fp := fp.below b (Nat.le_refl _)
            replace fs := fs.below b (Nat.le_refl _)
            replace fk := fk.below b (Nat.le_refl _)
            replace fq := fq.below b (Nat.le_refl _)
            replace fx := fx.below b (Nat.le_refl _)
            replace b0 := below_trans b0 b
            clear b
            clear fx fk
            clear Zx Tx Zk Tk
            have h := Lib.hid (num_mul _ _ _ _ _ _ _ _ w9 (fq.num Zq.out) (fp.num Zp.out) (by omega) (by omega))
            go_wp2_with fail
            refine (h.out).mono ?_
            rintro e w10 ⟨adx, nx, cx, rfl, fx, b⟩
            clear h
            replace fa := fa.below b (Nat.le_refl _)
            replace fp := fp.below b (Nat.le_refl _)
            replace fs := fs.below b (Nat.le_refl _)
            replace fq := fq.below b (Nat.le_refl _)
            replace b0 := below_trans b0 b
            clear b
            have Zx := Lib.hid (Int.mul_nonneg Zq.out Zp.out)
            have Tx := Lib.hid (pow_mul_lt _ _ _ _ Zq.out Zp.out Tq.out Tp.out)
            have lx : nx ≤ (na + 9) := fx.len_le ((na + 9)) Tx.out
            have hS := num_sub _ _ _ _ _ _ _ _ w10 fa.num (fx.num Zx.out) (by omega) (by omega)
            rw [HD.out.1, HD.out.2] at hS
            have h := Lib.hid (hS)
            go_wp2_with fail
            refine (h.out).mono ?_
            rintro e w11 ⟨adr, nr, cr, rfl, fr, b⟩
            clear h
            replace fa := fa.below b (Nat.le_refl _)
            replace fp := fp.below b (Nat.le_refl _)
            replace fs := fs.below b (Nat.le_refl _)
            replace fq := fq.below b (Nat.le_refl _)
            replace fx := fx.below b (Nat.le_refl _)
            replace b0 := below_trans b0 b
            clear b
            clear hS
            clear fx fq
            clear Zx Tx Zq Tq
            have hnr := fr.zero_iff HE.out.1
            have hnr0 : 0 < nr := by have := HE.out.2.2; omega
            clear hnr
            have Zr := Lib.hid HE.out.1
            have Tr : Lt9 ((val 4294967296 xa) % 2 ^ k) := ⟨Int.lt_trans HE.out.2.1 Tp.out⟩
            have lr := fr.len_le 9 Tr.out
            have hC := num_cmp _ _ _ _ _ _ _ _ w11 (fr.num Zr.out) (fp.num Zp.out) (by omega) (by omega)
            rw [cmpI_lt HE.out.2.1] at hC
            have h := Lib.hid (hC)
            go_wp2_with fail
            refine (h.out).mono ?_
            rintro e w' ⟨rfl, q, rfl⟩
            have b := below_drewN (Below.refl w11.heap.size w11) q
            generalize w11.drewN q = w12 at *
            clear h
            replace fa := fa.below b (Nat.le_refl _)
            replace fp := fp.below b (Nat.le_refl _)
            replace fs := fs.below b (Nat.le_refl _)
            replace fr := fr.below b (Nat.le_refl _)
            replace b0 := below_trans b0 b
            clear b
            clear hC
            clear fr
            clear Zr Tr
            have hS := num_shl _ _ _ _ ((M : Int) + k) w12 fa.num (by omega) (by omega)
            rw [EBI.out.1, EBI.out.2] at hS
            have h := Lib.hid (hS)
            go_wp2_with fail
            refine (h.out).mono ?_
            rintro e w13 ⟨adx, nx, cx, rfl, fx, b⟩
            clear h
            replace fa := fa.below b (Nat.le_refl _)
            replace fp := fp.below b (Nat.le_refl _)
            replace fs := fs.below b (Nat.le_refl _)
            replace b0 := below_trans b0 b
            clear b
            have Zx := Lib.hid (Int.mul_nonneg Za.out (Int.mul_nonneg (Int.le_of_lt MP.out) Zp.out))
            have Tx := Lib.hid (pow_mul_lt _ _ _ _ Za.out (Int.mul_nonneg (Int.le_of_lt MP.out) Zp.out) Ta.out (pow_mul_lt _ _ _ _ (Int.le_of_lt MP.out) Zp.out M9.out Tp.out))
            have lx : nx ≤ (na + (9 + 9)) := fx.len_le ((na + (9 + 9))) Tx.out
            clear hS
            have hS := num_shl _ _ _ _ (M : Int) w13 (fs.num Zs.out) (by omega) (by omega)
            rw [ET.out.1, ET.out.2] at hS
            have h := Lib.hid (hS)
            go_wp2_with fail
            refine (h.out).mono ?_
            rintro e w14 ⟨ady, ny, cy, rfl, fy, b⟩
            clear h
            replace fa := fa.below b (Nat.le_refl _)
            replace fp := fp.below b (Nat.le_refl _)
            replace fs := fs.below b (Nat.le_refl _)
            replace fx := fx.below b (Nat.le_refl _)
            replace b0 := below_trans b0 b
            clear b
            have Zy := Lib.hid (Int.mul_nonneg Zs.out (Int.le_of_lt MP.out))
            have Ty := Lib.hid (pow_mul_lt _ _ _ _ Zs.out (Int.le_of_lt MP.out) Ts.out M9.out)
            have ly : ny ≤ (na + 9 + 9) := fy.len_le ((na + 9 + 9)) Ty.out
            clear hS
            have h := Lib.hid (num_same_true _ _ _ _ _ _ _ _ w14 fx fy (by rw [Int.mul_assoc, Int.mul_comm (2 ^ M)]) (by omega) (by omega))
            go_wp2_with fail
            refine (h.out).mono ?_
            rintro e w' ⟨rfl, q, rfl⟩
            have b := below_drewN (Below.refl w14.heap.size w14) q
            generalize w14.drewN q = w15 at *
            clear h
            replace fa := fa.below b (Nat.le_refl _)
            replace fp := fp.below b (Nat.le_refl _)
            replace fs := fs.below b (Nat.le_refl _)
            replace fx := fx.below b (Nat.le_refl _)
            replace fy := fy.below b (Nat.le_refl _)
            replace b0 := below_trans b0 b
            clear b
            clear fx fy fs fp
            clear Zx Tx Zy Ty Zs Ts Zp Tp
            have hC := num_len _ _ _ _ w15 fa.num (by omega)
            rw [HB.out] at hC
            have h := Lib.hid (hC)
            go_wp2_with fail
            refine (h.out).mono ?_
            rintro e w' ⟨rfl, rfl⟩
            clear h
            clear hC
            have h := Lib.hid ((from_calls 1 w15 (by omega) (by omega)).mono fun e w' q => q.can)
            go_wp2_with fail
            refine (h.out).mono ?_
            rintro e w17 ⟨adx, nx, cx, rfl, fx, b⟩
            clear h
            replace fa := fa.below b (Nat.le_refl _)
            replace b0 := below_trans b0 b
            clear b
            have Zx := Lib.hid (show (0 : Int) ≤ 1 by decide)
            have Tx := Lib.hid (show (1 : Int) < 4294967296 ^ 1 by decide)
            have lx : nx ≤ 1 := fx.len_le (1) Tx.out
            have hS := num_shl _ _ _ _ (j : Int) w17 (fx.num Zx.out) (by omega) (by omega)
            rw [EJ.out.1, EJ.out.2, Int.one_mul] at hS
            have h := Lib.hid (hS)
            go_wp2_with fail
            refine (h.out).mono ?_
            rintro e w18 ⟨ady, ny, cy, rfl, fy, b⟩
            clear h
            replace fa := fa.below b (Nat.le_refl _)
            replace fx := fx.below b (Nat.le_refl _)
            replace b0 := below_trans b0 b
            clear b
            have Zy := Lib.hid (show (0 : Int) ≤ 2 ^ j from Int.le_of_lt (Int.pow_pos (by omega)))
            have Ty := Lib.hid (Int.lt_of_le_of_lt HJ.out.1 Ta.out)
            have ly : ny ≤ na := fy.len_le (na) Ty.out
            clear hS
            have hC := num_cmp _ _ _ _ _ _ _ _ w18 fa.num (fy.num Zy.out) (by omega) (by omega)
            obtain ⟨z, hz⟩ : ∃ z, cmpI (val 4294967296 xa) (2 ^ j) = z := ⟨_, rfl⟩
            rw [hz] at hC
            have hz1 : 0 ≤ z := by rw [← hz]; exact cmpI_ge HJ.out.1
            clear hz
            have h := Lib.hid (hC)
            go_wp2_with fail
            refine (h.out).mono ?_
            rintro e w' ⟨rfl, q, rfl⟩
            have b := below_drewN (Below.refl w18.heap.size w18) q
            generalize w18.drewN q = w19 at *
            clear h
            replace fa := fa.below b (Nat.le_refl _)
            replace fx := fx.below b (Nat.le_refl _)
            replace fy := fy.below b (Nat.le_refl _)
            replace b0 := below_trans b0 b
            clear b
            clear hC
            have h := Lib.hid (num_add _ _ _ _ _ _ _ _ w19 (fy.num Zy.out) (fy.num Zy.out) (by omega) (by omega))
            go_wp2_with fail
            refine (h.out).mono ?_
            rintro e w20 ⟨adv, nv, cv, rfl, fv, b⟩
            clear h
            replace fa := fa.below b (Nat.le_refl _)
            replace fx := fx.below b (Nat.le_refl _)
            replace fy := fy.below b (Nat.le_refl _)
            replace b0 := below_trans b0 b
            clear b
            have Zv := Lib.hid (Int.add_nonneg Zy.out Zy.out)
            have Tv := Lib.hid (pow_add_lt _ _ _ _ Ty.out Ty.out)
            have lv : nv ≤ (na + na + 1) := fv.len_le ((na + na + 1)) Tv.out
            have hC := num_cmp _ _ _ _ _ _ _ _ w20 fa.num (fv.num Zv.out) (by omega) (by omega)
            rw [cmpI_lt HJ.out.2] at hC
            have h := Lib.hid (hC)
            go_wp2_with fail
            refine (h.out).mono ?_
            rintro e w' ⟨rfl, q, rfl⟩
            have b := below_drewN (Below.refl w20.heap.size w20) q
            generalize w20.drewN q = w21 at *
            clear h
            replace fa := fa.below b (Nat.le_refl _)
            replace fx := fx.below b (Nat.le_refl _)
            replace fy := fy.below b (Nat.le_refl _)
            replace fv := fv.below b (Nat.le_refl _)
            replace b0 := below_trans b0 b
            clear b
            clear hC
            go_wp2_with fail
            go_ret
            exact ⟨rfl, b0⟩
end Go.Proofs.Ytemllpbpnndgeaa
