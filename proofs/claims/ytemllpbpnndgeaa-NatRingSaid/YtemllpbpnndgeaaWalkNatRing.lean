/- The law NatRing: its walk out of the contracts of what it calls. (Printed by law.py.) -/
import Derived.Test.YtemllpbpnndgeaaNum
import Derived.Test.YtemllpbpnndgeaaRow
import Derived.Test.YtemllpbpnndgeaaNAdd
import Derived.Test.YtemllpbpnndgeaaNMul
import Derived.Test.YtemllpbpnndgeaaNNSub
import Derived.Test.YtemllpbpnndgeaaNNorm
import Derived.Test.YtemllpbpnndgeaaFrom
import Derived.Test.YtemllpbpnndgeaaLives
import Derived.Test.YtemllpbpnndgeaaListed
set_option linter.unusedVariables false
set_option linter.unusedSimpArgs false
namespace Go.Proofs.Ytemllpbpnndgeaa
open Go.RowKit


set_option maxHeartbeats 2000000 in
theorem walk_NatRing (w : World) (ada : Option Addr) (na ca : Nat) (xa : List Int) (hnca : na ≤ ca) (hna : na * 4 ≤ 140737488351232) (hra : Rds w .u32 ada na xa) (dxa : Dig 4294967296 xa) (adb : Option Addr) (nb cb : Nat) (xb : List Int) (hncb : nb ≤ cb) (hnb : nb * 4 ≤ 140737488351232) (hrb : Rds w .u32 adb nb xb) (dxb : Dig 4294967296 xb) (adc : Option Addr) (nc cc : Nat) (xc : List Int) (hncc : nc ≤ cc) (hnc : nc * 4 ≤ 140737488351232) (hrc : Rds w .u32 adc nc xc) (dxc : Dig 4294967296 xc) :
    Calls Try.prog 9 #[.slice ada na ca, .slice adb nb cb, .slice adc nc cc] w (LawTrue w) := by
  have hB := Lib.hid (beyond_calls w.heap.size 3 3 [na, nb, nc] (fun j => if j = 0 then (ada, ca) else if j = 1 then (adb, cb) else (adc, cc)) (w.alloc (.cells #[.slice ada na ca, .slice adb nb cb, .slice adc nc cc] 23)) rfl (by omega)
    (fun j => by rcases j with _ | _ | _ | j <;> simp <;> omega)
    (fun j hj => by rw [World.cell?_alloc_at _ _ _ _ rfl]; rcases j with _ | _ | _ | j <;> simp; omega))
  go_enter Try.func9, Try.ntmps9
  go_wp2_with fail
  refine (hB.out).mono ?_
  rintro e w' ⟨r, rfl, rfl, hp⟩
  have HP := Lib.hid hp
  clear hp hB
  have b0 : Below w.heap.size w (w.alloc (.cells #[.slice ada na ca, .slice adb nb cb, .slice adc nc cc] 23)) := (Below.refl _ _).alloc (Nat.le_refl _) _
  generalize w.alloc (.cells #[.slice ada na ca, .slice adb nb cb, .slice adc nc cc] 23) = w0 at *
  cases r
  · have hp : parts [na, nb, nc] ≤ 1048576 := HP.out rfl
    have hnm : na + nb + nc ≤ 1048573 := by simp [parts] at hp; omega
    clear hp HP
    have fa : Arg w0 ada na ca xa := Arg.below ⟨hnca, hra, dxa⟩ b0 (Nat.le_refl _)
    clear hra dxa
    have fb : Arg w0 adb nb cb xb := Arg.below ⟨hncb, hrb, dxb⟩ b0 (Nat.le_refl _)
    clear hrb dxb
    have fc : Arg w0 adc nc cc xc := Arg.below ⟨hncc, hrc, dxc⟩ b0 (Nat.le_refl _)
    clear hrc dxc
    have Za := Lib.hid fa.nonneg
    have Ta := Lib.hid fa.lt
    have la : na ≤ na := Nat.le_refl _
    have Zb := Lib.hid fb.nonneg
    have Tb := Lib.hid fb.lt
    have lb : nb ≤ nb := Nat.le_refl _
    have Zc := Lib.hid fc.nonneg
    have Tc := Lib.hid fc.lt
    have lc : nc ≤ nc := Nat.le_refl _
    have h := Lib.hid (lives_calls w0)
    go_wp2_with fail
    refine (h.out).mono ?_
    rintro e w1 ⟨rfl, b⟩
    clear h
    replace fa := fa.below b (Nat.le_refl _)
    replace fb := fb.below b (Nat.le_refl _)
    replace fc := fc.below b (Nat.le_refl _)
    replace b0 := below_trans b0 b
    clear b
    have h := Lib.hid (num_add _ _ _ _ _ _ _ _ w1 fa.num fb.num (by omega) (by omega))
    go_wp2_with fail
    refine (h.out).mono ?_
    rintro e w2 ⟨ads, ns, cs, rfl, fs, b⟩
    clear h
    replace fa := fa.below b (Nat.le_refl _)
    replace fb := fb.below b (Nat.le_refl _)
    replace fc := fc.below b (Nat.le_refl _)
    replace b0 := below_trans b0 b
    clear b
    have Zs := Lib.hid (Int.add_nonneg Za.out Zb.out)
    have Ts := Lib.hid (pow_add_lt _ _ _ _ Ta.out Tb.out)
    have ls : ns ≤ (na + nb + 1) := fs.len_le ((na + nb + 1)) Ts.out
    have h := Lib.hid (num_mul _ _ _ _ _ _ _ _ w2 fa.num fb.num (by omega) (by omega))
    go_wp2_with fail
    refine (h.out).mono ?_
    rintro e w3 ⟨adp, np, cp, rfl, fp, b⟩
    clear h
    replace fa := fa.below b (Nat.le_refl _)
    replace fb := fb.below b (Nat.le_refl _)
    replace fc := fc.below b (Nat.le_refl _)
    replace fs := fs.below b (Nat.le_refl _)
    replace b0 := below_trans b0 b
    clear b
    have Zp := Lib.hid (Int.mul_nonneg Za.out Zb.out)
    have Tp := Lib.hid (pow_mul_lt _ _ _ _ Za.out Zb.out Ta.out Tb.out)
    have lp : np ≤ (na + nb) := fp.len_le ((na + nb)) Tp.out
    have hS := num_sub _ _ _ _ _ _ _ _ w3 (fs.num Zs.out) fb.num (by omega) (by omega)
    rw [Int.add_sub_cancel, decide_eq_true (Int.le_add_of_nonneg_left Za.out)] at hS
    have h := Lib.hid (hS)
    go_wp2_with fail
    refine (h.out).mono ?_
    rintro e w4 ⟨adk, nk, ck, rfl, fk, b⟩
    clear h
    replace fa := fa.below b (Nat.le_refl _)
    replace fb := fb.below b (Nat.le_refl _)
    replace fc := fc.below b (Nat.le_refl _)
    replace fs := fs.below b (Nat.le_refl _)
    replace fp := fp.below b (Nat.le_refl _)
    replace b0 := below_trans b0 b
    clear b
    have Zk := Lib.hid (Za.out)
    have Tk := Lib.hid (Ta.out)
    have lk : nk ≤ na := fk.len_le (na) Tk.out
    clear hS
    have h := Lib.hid (listed_calls _ _ _ _ w4 fs (by omega))
    go_wp2_with fail
    refine (h.out).mono ?_
    rintro e w' ⟨rfl, rfl⟩
    clear h
    have h := Lib.hid (listed_calls _ _ _ _ w4 fp (by omega))
    go_wp2_with fail
    refine (h.out).mono ?_
    rintro e w' ⟨rfl, rfl⟩
    clear h
    have h := Lib.hid (num_norm _ _ _ _ w4 fa.num (by omega))
    go_wp2_with fail
    refine (h.out).mono ?_
    rintro e w7 ⟨adx, nx, cx, rfl, fx, b⟩
    clear h
    replace fa := fa.below b (Nat.le_refl _)
    replace fb := fb.below b (Nat.le_refl _)
    replace fc := fc.below b (Nat.le_refl _)
    replace fs := fs.below b (Nat.le_refl _)
    replace fp := fp.below b (Nat.le_refl _)
    replace fk := fk.below b (Nat.le_refl _)
    replace b0 := below_trans b0 b
    clear b
    have Zx := Lib.hid (Za.out)
    have Tx := Lib.hid (Ta.out)
    have lx : nx ≤ na := fx.len_le (na) Tx.out
    have h := Lib.hid (num_same_true _ _ _ _ _ _ _ _ w7 fk fx (rfl) (by omega) (by omega))
    go_wp2_with fail
    refine (h.out).mono ?_
    rintro e w' ⟨rfl, q, rfl⟩
    have b := below_drewN (Below.refl w7.heap.size w7) q
    generalize w7.drewN q = w8 at *
    clear h
    replace fa := fa.below b (Nat.le_refl _)
    replace fb := fb.below b (Nat.le_refl _)
    replace fc := fc.below b (Nat.le_refl _)
    replace fs := fs.below b (Nat.le_refl _)
    replace fp := fp.below b (Nat.le_refl _)
    replace fk := fk.below b (Nat.le_refl _)
    replace fx := fx.below b (Nat.le_refl _)
    replace b0 := below_trans b0 b
    clear b
    clear fk fx
    clear Zk Tk Zx Tx
    have h := Lib.hid (num_add _ _ _ _ _ _ _ _ w8 fb.num fa.num (by omega) (by omega))
    go_wp2_with fail
    refine (h.out).mono ?_
    rintro e w9 ⟨adx, nx, cx, rfl, fx, b⟩
    clear h
    replace fa := fa.below b (Nat.le_refl _)
    replace fb := fb.below b (Nat.le_refl _)
    replace fc := fc.below b (Nat.le_refl _)
    replace fs := fs.below b (Nat.le_refl _)
    replace fp := fp.below b (Nat.le_refl _)
    replace b0 := below_trans b0 b
    clear b
    have Zx := Lib.hid (Int.add_nonneg Zb.out Za.out)
    have Tx := Lib.hid (pow_add_lt _ _ _ _ Tb.out Ta.out)
    have lx : nx ≤ (nb + na + 1) := fx.len_le ((nb + na + 1)) Tx.out
    have h := Lib.hid (num_same_true _ _ _ _ _ _ _ _ w9 fs fx (Int.add_comm _ _) (by omega) (by omega))
    go_wp2_with fail
    refine (h.out).mono ?_
    rintro e w' ⟨rfl, q, rfl⟩
    have b := below_drewN (Below.refl w9.heap.size w9) q
    generalize w9.drewN q = w10 at *
    clear h
    replace fa := fa.below b (Nat.le_refl _)
    replace fb := fb.below b (Nat.le_refl _)
    replace fc := fc.below b (Nat.le_refl _)
    replace fs := fs.below b (Nat.le_refl _)
    replace fp := fp.below b (Nat.le_refl _)
    replace fx := fx.below b (Nat.le_refl _)
    replace b0 := below_trans b0 b
    clear b
    clear fx
    clear Zx Tx
    have h := Lib.hid (num_mul _ _ _ _ _ _ _ _ w10 fb.num fa.num (by omega) (by omega))
    go_wp2_with fail
    refine (h.out).mono ?_
    rintro e w11 ⟨adx, nx, cx, rfl, fx, b⟩
    clear h
    replace fa := fa.below b (Nat.le_refl _)
    replace fb := fb.below b (Nat.le_refl _)
    replace fc := fc.below b (Nat.le_refl _)
    replace fs := fs.below b (Nat.le_refl _)
    replace fp := fp.below b (Nat.le_refl _)
    replace b0 := below_trans b0 b
    clear b
    have Zx := Lib.hid (Int.mul_nonneg Zb.out Za.out)
    have Tx := Lib.hid (pow_mul_lt _ _ _ _ Zb.out Za.out Tb.out Ta.out)
    have lx : nx ≤ (nb + na) := fx.len_le ((nb + na)) Tx.out
    have h := Lib.hid (num_same_true _ _ _ _ _ _ _ _ w11 fp fx (Int.mul_comm _ _) (by omega) (by omega))
    go_wp2_with fail
    refine (h.out).mono ?_
    rintro e w' ⟨rfl, q, rfl⟩
    have b := below_drewN (Below.refl w11.heap.size w11) q
    generalize w11.drewN q = w12 at *
    clear h
    replace fa := fa.below b (Nat.le_refl _)
    replace fb := fb.below b (Nat.le_refl _)
    replace fc := fc.below b (Nat.le_refl _)
    replace fs := fs.below b (Nat.le_refl _)
    replace fp := fp.below b (Nat.le_refl _)
    replace fx := fx.below b (Nat.le_refl _)
    replace b0 := below_trans b0 b
    clear b
    clear fx
    clear Zx Tx
    have h := Lib.hid (num_add _ _ _ _ _ _ _ _ w12 (fs.num Zs.out) fc.num (by omega) (by omega))
    go_wp2_with fail
    refine (h.out).mono ?_
    rintro e w13 ⟨adx, nx, cx, rfl, fx, b⟩
    clear h
    replace fa := fa.below b (Nat.le_refl _)
    replace fb := fb.below b (Nat.le_refl _)
    replace fc := fc.below b (Nat.le_refl _)
    replace fs := fs.below b (Nat.le_refl _)
    replace fp := fp.below b (Nat.le_refl _)
    replace b0 := below_trans b0 b
    clear b
    have Zx := Lib.hid (Int.add_nonneg Zs.out Zc.out)
    have Tx := Lib.hid (pow_add_lt _ _ _ _ Ts.out Tc.out)
    have lx : nx ≤ ((na + nb + 1) + nc + 1) := fx.len_le (((na + nb + 1) + nc + 1)) Tx.out
    have h := Lib.hid (num_add _ _ _ _ _ _ _ _ w13 fb.num fc.num (by omega) (by omega))
    go_wp2_with fail
    refine (h.out).mono ?_
    rintro e w14 ⟨ady, ny, cy, rfl, fy, b⟩
    clear h
    replace fa := fa.below b (Nat.le_refl _)
    replace fb := fb.below b (Nat.le_refl _)
    replace fc := fc.below b (Nat.le_refl _)
    replace fs := fs.below b (Nat.le_refl _)
    replace fp := fp.below b (Nat.le_refl _)
    replace fx := fx.below b (Nat.le_refl _)
    replace b0 := below_trans b0 b
    clear b
    have Zy := Lib.hid (Int.add_nonneg Zb.out Zc.out)
    have Ty := Lib.hid (pow_add_lt _ _ _ _ Tb.out Tc.out)
    have ly : ny ≤ (nb + nc + 1) := fy.len_le ((nb + nc + 1)) Ty.out
    have h := Lib.hid (num_add _ _ _ _ _ _ _ _ w14 fa.num (fy.num Zy.out) (by omega) (by omega))
    go_wp2_with fail
    refine (h.out).mono ?_
    rintro e w15 ⟨adz, nz, cz, rfl, fz, b⟩
    clear h
    replace fa := fa.below b (Nat.le_refl _)
    replace fb := fb.below b (Nat.le_refl _)
    replace fc := fc.below b (Nat.le_refl _)
    replace fs := fs.below b (Nat.le_refl _)
    replace fp := fp.below b (Nat.le_refl _)
    replace fx := fx.below b (Nat.le_refl _)
    replace fy := fy.below b (Nat.le_refl _)
    replace b0 := below_trans b0 b
    clear b
    have Zz := Lib.hid (Int.add_nonneg Za.out Zy.out)
    have Tz := Lib.hid (pow_add_lt _ _ _ _ Ta.out Ty.out)
    have lz : nz ≤ (na + (nb + nc + 1) + 1) := fz.len_le ((na + (nb + nc + 1) + 1)) Tz.out
    have h := Lib.hid (num_same_true _ _ _ _ _ _ _ _ w15 fx fz (Int.add_assoc _ _ _) (by omega) (by omega))
    go_wp2_with fail
    refine (h.out).mono ?_
    rintro e w' ⟨rfl, q, rfl⟩
    have b := below_drewN (Below.refl w15.heap.size w15) q
    generalize w15.drewN q = w16 at *
    clear h
    replace fa := fa.below b (Nat.le_refl _)
    replace fb := fb.below b (Nat.le_refl _)
    replace fc := fc.below b (Nat.le_refl _)
    replace fs := fs.below b (Nat.le_refl _)
    replace fp := fp.below b (Nat.le_refl _)
    replace fx := fx.below b (Nat.le_refl _)
    replace fy := fy.below b (Nat.le_refl _)
    replace fz := fz.below b (Nat.le_refl _)
    replace b0 := below_trans b0 b
    clear b
    clear fx fz fy
    clear Zx Tx Zz Tz Zy Ty
    have h := Lib.hid (num_mul _ _ _ _ _ _ _ _ w16 (fp.num Zp.out) fc.num (by omega) (by omega))
    go_wp2_with fail
    refine (h.out).mono ?_
    rintro e w17 ⟨adx, nx, cx, rfl, fx, b⟩
    clear h
    replace fa := fa.below b (Nat.le_refl _)
    replace fb := fb.below b (Nat.le_refl _)
    replace fc := fc.below b (Nat.le_refl _)
    replace fs := fs.below b (Nat.le_refl _)
    replace fp := fp.below b (Nat.le_refl _)
    replace b0 := below_trans b0 b
    clear b
    have Zx := Lib.hid (Int.mul_nonneg Zp.out Zc.out)
    have Tx := Lib.hid (pow_mul_lt _ _ _ _ Zp.out Zc.out Tp.out Tc.out)
    have lx : nx ≤ ((na + nb) + nc) := fx.len_le (((na + nb) + nc)) Tx.out
    have h := Lib.hid (num_mul _ _ _ _ _ _ _ _ w17 fb.num fc.num (by omega) (by omega))
    go_wp2_with fail
    refine (h.out).mono ?_
    rintro e w18 ⟨ady, ny, cy, rfl, fy, b⟩
    clear h
    replace fa := fa.below b (Nat.le_refl _)
    replace fb := fb.below b (Nat.le_refl _)
    replace fc := fc.below b (Nat.le_refl _)
    replace fs := fs.below b (Nat.le_refl _)
    replace fp := fp.below b (Nat.le_refl _)
    replace fx := fx.below b (Nat.le_refl _)
    replace b0 := below_trans b0 b
    clear b
    have Zy := Lib.hid (Int.mul_nonneg Zb.out Zc.out)
    have Ty := Lib.hid (pow_mul_lt _ _ _ _ Zb.out Zc.out Tb.out Tc.out)
    have ly : ny ≤ (nb + nc) := fy.len_le ((nb + nc)) Ty.out
    have h := Lib.hid (num_mul _ _ _ _ _ _ _ _ w18 fa.num (fy.num Zy.out) (by omega) (by omega))
    go_wp2_with fail
    refine (h.out).mono ?_
    rintro e w19 ⟨adz, nz, cz, rfl, fz, b⟩
    clear h
    replace fa := fa.below b (Nat.le_refl _)
    replace fb := fb.below b (Nat.le_refl _)
    replace fc := fc.below b (Nat.le_refl _)
    replace fs := fs.below b (Nat.le_refl _)
    replace fp := fp.below b (Nat.le_refl _)
    replace fx := fx.below b (Nat.le_refl _)
    replace fy := fy.below b (Nat.le_refl _)
    replace b0 := below_trans b0 b
    clear b
    have Zz := Lib.hid (Int.mul_nonneg Za.out Zy.out)
    have Tz := Lib.hid (pow_mul_lt _ _ _ _ Za.out Zy.out Ta.out Ty.out)
    have lz : nz ≤ (na + (nb + nc)) := fz.len_le ((na + (nb + nc))) Tz.out
    have h := Lib.hid (num_same_true _ _ _ _ _ _ _ _ w19 fx fz (Int.mul_assoc _ _ _) (by omega) (by omega))
    go_wp2_with fail
    refine (h.out).mono ?_
    rintro e w' ⟨rfl, q, rfl⟩
    have b := below_drewN (Below.refl w19.heap.size w19) q
    generalize w19.drewN q = w20 at *
    clear h
    replace fa := fa.below b (Nat.le_refl _)
    replace fb := fb.below b (Nat.le_refl _)
    replace fc := fc.below b (Nat.le_refl _)
    replace fs := fs.below b (Nat.le_refl _)
    replace fp := fp.below b (Nat.le_refl _)
    replace fx := fx.below b (Nat.le_refl _)
    replace fy := fy.below b (Nat.le_refl _)
    replace fz := fz.below b (Nat.le_refl _)
    replace b0 := below_trans b0 b
    clear b
    clear fx fz fy fp
    clear Zx Tx Zz Tz Zy Ty Zp Tp
    have h := Lib.hid ((from_calls 1 w20 (by omega) (by omega)).mono fun e w' q => q.can)
    go_wp2_with fail
    refine (h.out).mono ?_
    rintro e w21 ⟨adi, ni, ci, rfl, fi, b⟩
    clear h
    replace fa := fa.below b (Nat.le_refl _)
    replace fb := fb.below b (Nat.le_refl _)
    replace fc := fc.below b (Nat.le_refl _)
    replace fs := fs.below b (Nat.le_refl _)
    replace b0 := below_trans b0 b
    clear b
    have Zi := Lib.hid (show (0 : Int) ≤ 1 by decide)
    have Ti := Lib.hid (show (1 : Int) < 4294967296 ^ 1 by decide)
    have li : ni ≤ 1 := fi.len_le (1) Ti.out
    have h := Lib.hid (num_mul _ _ _ _ _ _ _ _ w21 (fs.num Zs.out) fc.num (by omega) (by omega))
    go_wp2_with fail
    refine (h.out).mono ?_
    rintro e w22 ⟨adx, nx, cx, rfl, fx, b⟩
    clear h
    replace fa := fa.below b (Nat.le_refl _)
    replace fb := fb.below b (Nat.le_refl _)
    replace fc := fc.below b (Nat.le_refl _)
    replace fs := fs.below b (Nat.le_refl _)
    replace fi := fi.below b (Nat.le_refl _)
    replace b0 := below_trans b0 b
    clear b
    have Zx := Lib.hid (Int.mul_nonneg Zs.out Zc.out)
    have Tx := Lib.hid (pow_mul_lt _ _ _ _ Zs.out Zc.out Ts.out Tc.out)
    have lx : nx ≤ ((na + nb + 1) + nc) := fx.len_le (((na + nb + 1) + nc)) Tx.out
    have h := Lib.hid (num_mul _ _ _ _ _ _ _ _ w22 fa.num fc.num (by omega) (by omega))
    go_wp2_with fail
    refine (h.out).mono ?_
    rintro e w23 ⟨ady, ny, cy, rfl, fy, b⟩
    clear h
    replace fa := fa.below b (Nat.le_refl _)
    replace fb := fb.below b (Nat.le_refl _)
    replace fc := fc.below b (Nat.le_refl _)
    replace fs := fs.below b (Nat.le_refl _)
    replace fi := fi.below b (Nat.le_refl _)
    replace fx := fx.below b (Nat.le_refl _)
    replace b0 := below_trans b0 b
    clear b
    have Zy := Lib.hid (Int.mul_nonneg Za.out Zc.out)
    have Ty := Lib.hid (pow_mul_lt _ _ _ _ Za.out Zc.out Ta.out Tc.out)
    have ly : ny ≤ (na + nc) := fy.len_le ((na + nc)) Ty.out
    have h := Lib.hid (num_mul _ _ _ _ _ _ _ _ w23 fb.num fc.num (by omega) (by omega))
    go_wp2_with fail
    refine (h.out).mono ?_
    rintro e w24 ⟨adz, nz, cz, rfl, fz, b⟩
    clear h
    replace fa := fa.below b (Nat.le_refl _)
    replace fb := fb.below b (Nat.le_refl _)
    replace fc := fc.below b (Nat.le_refl _)
    replace fs := fs.below b (Nat.le_refl _)
    replace fi := fi.below b (Nat.le_refl _)
    replace fx := fx.below b (Nat.le_refl _)
    replace fy := fy.below b (Nat.le_refl _)
    replace b0 := below_trans b0 b
    clear b
    have Zz := Lib.hid (Int.mul_nonneg Zb.out Zc.out)
    have Tz := Lib.hid (pow_mul_lt _ _ _ _ Zb.out Zc.out Tb.out Tc.out)
    have lz : nz ≤ (nb + nc) := fz.len_le ((nb + nc)) Tz.out
    have h := Lib.hid (num_add _ _ _ _ _ _ _ _ w24 (fy.num Zy.out) (fz.num Zz.out) (by omega) (by omega))
    go_wp2_with fail
    refine (h.out).mono ?_
    rintro e w25 ⟨adv, nv, cv, rfl, fv, b⟩
    clear h
    replace fa := fa.below b (Nat.le_refl _)
    replace fb := fb.below b (Nat.le_refl _)
    replace fc := fc.below b (Nat.le_refl _)
    replace fs := fs.below b (Nat.le_refl _)
    replace fi := fi.below b (Nat.le_refl _)
    replace fx := fx.below b (Nat.le_refl _)
    replace fy := fy.below b (Nat.le_refl _)
    replace fz := fz.below b (Nat.le_refl _)
    replace b0 := below_trans b0 b
    clear b
    have Zv := Lib.hid (Int.add_nonneg Zy.out Zz.out)
    have Tv := Lib.hid (pow_add_lt _ _ _ _ Ty.out Tz.out)
    have lv : nv ≤ ((na + nc) + (nb + nc) + 1) := fv.len_le (((na + nc) + (nb + nc) + 1)) Tv.out
    have h := Lib.hid (num_same_true _ _ _ _ _ _ _ _ w25 fx fv (Int.add_mul _ _ _) (by omega) (by omega))
    go_wp2_with fail
    refine (h.out).mono ?_
    rintro e w' ⟨rfl, q, rfl⟩
    have b := below_drewN (Below.refl w25.heap.size w25) q
    generalize w25.drewN q = w26 at *
    clear h
    replace fa := fa.below b (Nat.le_refl _)
    replace fb := fb.below b (Nat.le_refl _)
    replace fc := fc.below b (Nat.le_refl _)
    replace fs := fs.below b (Nat.le_refl _)
    replace fi := fi.below b (Nat.le_refl _)
    replace fx := fx.below b (Nat.le_refl _)
    replace fy := fy.below b (Nat.le_refl _)
    replace fz := fz.below b (Nat.le_refl _)
    replace fv := fv.below b (Nat.le_refl _)
    replace b0 := below_trans b0 b
    clear b
    clear fx fv fy fz fs
    clear Zx Tx Zv Tv Zy Ty Zz Tz Zs Ts
    have h := Lib.hid (num_mul _ _ _ _ _ _ _ _ w26 fa.num (fi.num Zi.out) (by omega) (by omega))
    go_wp2_with fail
    refine (h.out).mono ?_
    rintro e w27 ⟨adx, nx, cx, rfl, fx, b⟩
    clear h
    replace fa := fa.below b (Nat.le_refl _)
    replace fb := fb.below b (Nat.le_refl _)
    replace fc := fc.below b (Nat.le_refl _)
    replace fi := fi.below b (Nat.le_refl _)
    replace b0 := below_trans b0 b
    clear b
    have Zx := Lib.hid (Int.mul_nonneg Za.out Zi.out)
    have Tx := Lib.hid (pow_mul_lt _ _ _ _ Za.out Zi.out Ta.out Ti.out)
    have lx : nx ≤ (na + 1) := fx.len_le ((na + 1)) Tx.out
    have h := Lib.hid (num_norm _ _ _ _ w27 fa.num (by omega))
    go_wp2_with fail
    refine (h.out).mono ?_
    rintro e w28 ⟨ady, ny, cy, rfl, fy, b⟩
    clear h
    replace fa := fa.below b (Nat.le_refl _)
    replace fb := fb.below b (Nat.le_refl _)
    replace fc := fc.below b (Nat.le_refl _)
    replace fi := fi.below b (Nat.le_refl _)
    replace fx := fx.below b (Nat.le_refl _)
    replace b0 := below_trans b0 b
    clear b
    have Zy := Lib.hid (Za.out)
    have Ty := Lib.hid (Ta.out)
    have ly : ny ≤ na := fy.len_le (na) Ty.out
    have h := Lib.hid (num_same_true _ _ _ _ _ _ _ _ w28 fx fy (Int.mul_one _) (by omega) (by omega))
    go_wp2_with fail
    refine (h.out).mono ?_
    rintro e w' ⟨rfl, q, rfl⟩
    have b := below_drewN (Below.refl w28.heap.size w28) q
    generalize w28.drewN q = w29 at *
    clear h
    replace fa := fa.below b (Nat.le_refl _)
    replace fb := fb.below b (Nat.le_refl _)
    replace fc := fc.below b (Nat.le_refl _)
    replace fi := fi.below b (Nat.le_refl _)
    replace fx := fx.below b (Nat.le_refl _)
    replace fy := fy.below b (Nat.le_refl _)
    replace b0 := below_trans b0 b
    clear b
    clear fx fy fi
    clear Zx Tx Zy Ty Zi Ti
    have Znil : Hid ((0 : Int) ≤ 0) := Int.le_refl _
    have Tnil : Hid ((0 : Int) < 4294967296 ^ 0) := by show (0 : Int) < 4294967296 ^ 0; decide
    have h := Lib.hid (num_add _ _ _ _ _ _ _ _ w29 fa.num (num_nil _) (by omega) (by omega))
    go_wp2_with fail
    refine (h.out).mono ?_
    rintro e w30 ⟨adx, nx, cx, rfl, fx, b⟩
    clear h
    replace fa := fa.below b (Nat.le_refl _)
    replace fb := fb.below b (Nat.le_refl _)
    replace fc := fc.below b (Nat.le_refl _)
    replace b0 := below_trans b0 b
    clear b
    have Zx := Lib.hid (Int.add_nonneg Za.out Znil.out)
    have Tx := Lib.hid (pow_add_lt _ _ _ _ Ta.out Tnil.out)
    have lx : nx ≤ (na + 0 + 1) := fx.len_le ((na + 0 + 1)) Tx.out
    have h := Lib.hid (num_norm _ _ _ _ w30 fa.num (by omega))
    go_wp2_with fail
    refine (h.out).mono ?_
    rintro e w31 ⟨ady, ny, cy, rfl, fy, b⟩
    clear h
    replace fa := fa.below b (Nat.le_refl _)
    replace fb := fb.below b (Nat.le_refl _)
    replace fc := fc.below b (Nat.le_refl _)
    replace fx := fx.below b (Nat.le_refl _)
    replace b0 := below_trans b0 b
    clear b
    have Zy := Lib.hid (Za.out)
    have Ty := Lib.hid (Ta.out)
    have ly : ny ≤ na := fy.len_le (na) Ty.out
    have h := Lib.hid (num_same_true _ _ _ _ _ _ _ _ w31 fx fy (Int.add_zero _) (by omega) (by omega))
    go_wp2_with fail
    refine (h.out).mono ?_
    rintro e w' ⟨rfl, q, rfl⟩
    have b := below_drewN (Below.refl w31.heap.size w31) q
    generalize w31.drewN q = w32 at *
    clear h
    replace fa := fa.below b (Nat.le_refl _)
    replace fb := fb.below b (Nat.le_refl _)
    replace fc := fc.below b (Nat.le_refl _)
    replace fx := fx.below b (Nat.le_refl _)
    replace fy := fy.below b (Nat.le_refl _)
    replace b0 := below_trans b0 b
    clear b
    clear fx fy
    clear Zx Tx Zy Ty
    have hM := num_mul _ _ _ _ _ _ _ _ w32 fa.num (num_nil _) (by omega) (by omega)
    rw [Int.mul_zero] at hM
    have h := Lib.hid (hM)
    go_wp2_with fail
    refine (h.out).mono ?_
    rintro e w33 ⟨adx, nx, cx, rfl, fx, b⟩
    clear h
    replace fa := fa.below b (Nat.le_refl _)
    replace fb := fb.below b (Nat.le_refl _)
    replace fc := fc.below b (Nat.le_refl _)
    replace b0 := below_trans b0 b
    clear b
    obtain rfl := fx.zero
    clear hM
    clear fx
    go_wp2_with fail
    go_ret
    exact ⟨rfl, b0⟩
  · go_wp2
    go_ret
    exact ⟨rfl, b0⟩
end Go.Proofs.Ytemllpbpnndgeaa
