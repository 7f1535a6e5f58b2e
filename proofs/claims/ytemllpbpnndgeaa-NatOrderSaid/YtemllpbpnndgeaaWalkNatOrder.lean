/- The law NatOrder: its walk out of the contracts of what it calls. (Printed by law.py.) -/
import Derived.Test.YtemllpbpnndgeaaNum
import Derived.Test.YtemllpbpnndgeaaRow
import Derived.Test.YtemllpbpnndgeaaNAdd
import Derived.Test.YtemllpbpnndgeaaNMul
import Derived.Test.YtemllpbpnndgeaaNNSub
import Derived.Test.YtemllpbpnndgeaaNNCmp
import Derived.Test.YtemllpbpnndgeaaNNorm
import Derived.Test.YtemllpbpnndgeaaLives
set_option linter.unusedVariables false
set_option linter.unusedSimpArgs false
namespace Go.Proofs.Ytemllpbpnndgeaa
open Go.RowKit


set_option maxHeartbeats 2000000 in
theorem walk_NatOrder (w : World) (ada : Option Addr) (na ca : Nat) (xa : List Int) (hnca : na ≤ ca) (hna : na * 4 ≤ 140737488351232) (hra : Rds w .u32 ada na xa) (dxa : Dig 4294967296 xa) (adb : Option Addr) (nb cb : Nat) (xb : List Int) (hncb : nb ≤ cb) (hnb : nb * 4 ≤ 140737488351232) (hrb : Rds w .u32 adb nb xb) (dxb : Dig 4294967296 xb) (adc : Option Addr) (nc cc : Nat) (xc : List Int) (hncc : nc ≤ cc) (hnc : nc * 4 ≤ 140737488351232) (hrc : Rds w .u32 adc nc xc) (dxc : Dig 4294967296 xc) :
    Calls Try.prog 8 #[.slice ada na ca, .slice adb nb cb, .slice adc nc cc] w (LawTrue w) := by
  have hB := Lib.hid (beyond_calls w.heap.size 3 3 [na, nb, nc] (fun j => if j = 0 then (ada, ca) else if j = 1 then (adb, cb) else (adc, cc)) (w.alloc (.cells #[.slice ada na ca, .slice adb nb cb, .slice adc nc cc] 23)) rfl (by omega)
    (fun j => by rcases j with _ | _ | _ | j <;> simp <;> omega)
    (fun j hj => by rw [World.cell?_alloc_at _ _ _ _ rfl]; rcases j with _ | _ | _ | j <;> simp; omega))
  go_enter Try.func8, Try.ntmps8
  go_wp2_with fail
  refine (hB.out).mono ?_
  rintro e w' ⟨r, rfl, rfl, hp⟩
  have HP := Lib.hid hp
  clear hp hB
  have b0 : Below w.heap.size w (w.alloc (.cells #[.slice ada na ca, .slice adb nb cb, .slice adc nc cc] 23)) := (Below.refl _ _).alloc (Nat.le_refl _) _
  generalize w.alloc (.cells #[.slice ada na ca, .slice adb nb cb, .slice adc nc cc] 23) = w0 at *
  cases r
  · have hp : parts [na, nb, nc] ≤ 1048576 := HP.out rfl
    have hnm : na + nb + nc ≤ 1048573 := by simp [parts] at hp; omega
    clear hp HP
    have fa : Arg w0 ada na ca xa := Arg.below ⟨hnca, hra, dxa⟩ b0 (Nat.le_refl _)
    clear hra dxa
    have fb : Arg w0 adb nb cb xb := Arg.below ⟨hncb, hrb, dxb⟩ b0 (Nat.le_refl _)
    clear hrb dxb
    have fc : Arg w0 adc nc cc xc := Arg.below ⟨hncc, hrc, dxc⟩ b0 (Nat.le_refl _)
    clear hrc dxc
    have Za := Lib.hid fa.nonneg
    have Ta := Lib.hid fa.lt
    have la : na ≤ na := Nat.le_refl _
    have Zb := Lib.hid fb.nonneg
    have Tb := Lib.hid fb.lt
    have lb : nb ≤ nb := Nat.le_refl _
    have Zc := Lib.hid fc.nonneg
    have Tc := Lib.hid fc.lt
    have lc : nc ≤ nc := Nat.le_refl _
    have h := Lib.hid (lives_calls w0)
    go_wp2_with fail
    refine (h.out).mono ?_
    rintro e w1 ⟨rfl, b⟩
    clear h
    replace fa := fa.below b (Nat.le_refl _)
    replace fb := fb.below b (Nat.le_refl _)
    replace fc := fc.below b (Nat.le_refl _)
    replace b0 := below_trans b0 b
    clear b
    rcases Int.lt_trichotomy (val 4294967296 xa) (val 4294967296 xb) with hab | hab | hab
    · have HAB := Lib.hid hab
      clear hab
      by_cases hbc : (val 4294967296 xc) < (val 4294967296 xb)
      · have HBC := Lib.hid hbc
        clear hbc
        by_cases hcz : (val 4294967296 xc) = 0
        · have HCZ := Lib.hid hcz
          clear hcz
          have hC := num_cmp _ _ _ _ _ _ _ _ w1 fa.num fb.num (by omega) (by omega)
          rw [cmpI_lt HAB.out] at hC
          have h := Lib.hid (hC)
          go_wp2_with fail
          refine (h.out).mono ?_
          rintro e w' ⟨rfl, q, rfl⟩
          have b := below_drewN (Below.refl w1.heap.size w1) q
          generalize w1.drewN q = w2 at *
          clear h
          replace fa := fa.below b (Nat.le_refl _)
          replace fb := fb.below b (Nat.le_refl _)
          replace fc := fc.below b (Nat.le_refl _)
          replace b0 := below_trans b0 b
          clear b
          clear hC
          have hC := num_cmp _ _ _ _ _ _ _ _ w2 fb.num fc.num (by omega) (by omega)
          obtain ⟨y, hy⟩ : ∃ y, cmpI (val 4294967296 xb) (val 4294967296 xc) = y := ⟨_, rfl⟩
          rw [hy] at hC
          have hy1 : 0 < y := by rw [← hy]; rw [cmpI_gt HBC.out]; decide
          clear hy
          have h := Lib.hid (hC)
          go_wp2_with fail
          refine (h.out).mono ?_
          rintro e w' ⟨rfl, q, rfl⟩
          have b := below_drewN (Below.refl w2.heap.size w2) q
          generalize w2.drewN q = w3 at *
          clear h
          replace fa := fa.below b (Nat.le_refl _)
          replace fb := fb.below b (Nat.le_refl _)
          replace fc := fc.below b (Nat.le_refl _)
          replace b0 := below_trans b0 b
          clear b
          clear hC
          have hC := num_cmp _ _ _ _ _ _ _ _ w3 fb.num fa.num (by omega) (by omega)
          rw [cmpI_gt HAB.out] at hC
          have h := Lib.hid (hC)
          go_wp2_with fail
          refine (h.out).mono ?_
          rintro e w' ⟨rfl, q, rfl⟩
          have b := below_drewN (Below.refl w3.heap.size w3) q
          generalize w3.drewN q = w4 at *
          clear h
          replace fa := fa.below b (Nat.le_refl _)
          replace fb := fb.below b (Nat.le_refl _)
          replace fc := fc.below b (Nat.le_refl _)
          replace b0 := below_trans b0 b
          clear b
          clear hC
          have h := Lib.hid (num_norm _ _ _ _ w4 fa.num (by omega))
          go_wp2_with fail
          refine (h.out).mono ?_
          rintro e w5 ⟨adx, nx, cx, rfl, fx, b⟩
          clear h
          replace fa := fa.below b (Nat.le_refl _)
          replace fb := fb.below b (Nat.le_refl _)
          replace fc := fc.below b (Nat.le_refl _)
          replace b0 := below_trans b0 b
          clear b
          have Zx := Lib.hid (Za.out)
          have Tx := Lib.hid (Ta.out)
          have lx : nx ≤ na := fx.len_le (na) Tx.out
          have h := Lib.hid (num_norm _ _ _ _ w5 fb.num (by omega))
          go_wp2_with fail
          refine (h.out).mono ?_
          rintro e w6 ⟨ady, ny, cy, rfl, fy, b⟩
          clear h
          replace fa := fa.below b (Nat.le_refl _)
          replace fb := fb.below b (Nat.le_refl _)
          replace fc := fc.below b (Nat.le_refl _)
          replace fx := fx.below b (Nat.le_refl _)
          replace b0 := below_trans b0 b
          clear b
          have Zy := Lib.hid (Zb.out)
          have Ty := Lib.hid (Tb.out)
          have ly : ny ≤ nb := fy.len_le (nb) Ty.out
          have hS := num_same _ _ _ _ _ _ _ _ w6 fx fy Zx.out Zy.out (by omega) (by omega)
          rw [decide_eq_false (Int.ne_of_lt HAB.out)] at hS
          have h := Lib.hid (hS)
          go_wp2_with fail
          refine (h.out).mono ?_
          rintro e w' ⟨rfl, q, rfl⟩
          have b := below_drewN (Below.refl w6.heap.size w6) q
          generalize w6.drewN q = w7 at *
          clear h
          replace fa := fa.below b (Nat.le_refl _)
          replace fb := fb.below b (Nat.le_refl _)
          replace fc := fc.below b (Nat.le_refl _)
          replace fx := fx.below b (Nat.le_refl _)
          replace fy := fy.below b (Nat.le_refl _)
          replace b0 := below_trans b0 b
          clear b
          clear hS
          clear fx fy
          clear Zx Tx Zy Ty
          have hS := num_sub _ _ _ _ _ _ _ _ w7 fa.num fb.num (by omega) (by omega)
          rw [decide_eq_false (Int.not_le.2 HAB.out)] at hS
          have h := Lib.hid (hS)
          go_wp2_with fail
          refine (h.out).mono ?_
          rintro e w8 ⟨adk, nk, ck, rfl, fk, b⟩
          clear h
          replace fa := fa.below b (Nat.le_refl _)
          replace fb := fb.below b (Nat.le_refl _)
          replace fc := fc.below b (Nat.le_refl _)
          replace b0 := below_trans b0 b
          clear b
          clear hS
          clear fk
          have h := Lib.hid (num_add _ _ _ _ _ _ _ _ w8 fa.num fc.num (by omega) (by omega))
          go_wp2_with fail
          refine (h.out).mono ?_
          rintro e w9 ⟨adx, nx, cx, rfl, fx, b⟩
          clear h
          replace fa := fa.below b (Nat.le_refl _)
          replace fb := fb.below b (Nat.le_refl _)
          replace fc := fc.below b (Nat.le_refl _)
          replace b0 := below_trans b0 b
          clear b
          have Zx := Lib.hid (Int.add_nonneg Za.out Zc.out)
          have Tx := Lib.hid (pow_add_lt _ _ _ _ Ta.out Tc.out)
          have lx : nx ≤ (na + nc + 1) := fx.len_le ((na + nc + 1)) Tx.out
          have h := Lib.hid (num_add _ _ _ _ _ _ _ _ w9 fb.num fc.num (by omega) (by omega))
          go_wp2_with fail
          refine (h.out).mono ?_
          rintro e w10 ⟨ady, ny, cy, rfl, fy, b⟩
          clear h
          replace fa := fa.below b (Nat.le_refl _)
          replace fb := fb.below b (Nat.le_refl _)
          replace fc := fc.below b (Nat.le_refl _)
          replace fx := fx.below b (Nat.le_refl _)
          replace b0 := below_trans b0 b
          clear b
          have Zy := Lib.hid (Int.add_nonneg Zb.out Zc.out)
          have Ty := Lib.hid (pow_add_lt _ _ _ _ Tb.out Tc.out)
          have ly : ny ≤ (nb + nc + 1) := fy.len_le ((nb + nc + 1)) Ty.out
          have hC := num_cmp _ _ _ _ _ _ _ _ w10 (fx.num Zx.out) (fy.num Zy.out) (by omega) (by omega)
          rw [cmpI_lt (Int.add_lt_add_right HAB.out _)] at hC
          have h := Lib.hid (hC)
          go_wp2_with fail
          refine (h.out).mono ?_
          rintro e w' ⟨rfl, q, rfl⟩
          have b := below_drewN (Below.refl w10.heap.size w10) q
          generalize w10.drewN q = w11 at *
          clear h
          replace fa := fa.below b (Nat.le_refl _)
          replace fb := fb.below b (Nat.le_refl _)
          replace fc := fc.below b (Nat.le_refl _)
          replace fx := fx.below b (Nat.le_refl _)
          replace fy := fy.below b (Nat.le_refl _)
          replace b0 := below_trans b0 b
          clear b
          clear hC
          clear fx fy
          clear Zx Tx Zy Ty
          have h := Lib.hid (num_mul _ _ _ _ _ _ _ _ w11 fa.num fc.num (by omega) (by omega))
          go_wp2_with fail
          refine (h.out).mono ?_
          rintro e w12 ⟨adx, nx, cx, rfl, fx, b⟩
          clear h
          replace fa := fa.below b (Nat.le_refl _)
          replace fb := fb.below b (Nat.le_refl _)
          replace fc := fc.below b (Nat.le_refl _)
          replace b0 := below_trans b0 b
          clear b
          have Zx := Lib.hid (Int.mul_nonneg Za.out Zc.out)
          have Tx := Lib.hid (pow_mul_lt _ _ _ _ Za.out Zc.out Ta.out Tc.out)
          have lx : nx ≤ (na + nc) := fx.len_le ((na + nc)) Tx.out
          have h := Lib.hid (num_mul _ _ _ _ _ _ _ _ w12 fb.num fc.num (by omega) (by omega))
          go_wp2_with fail
          refine (h.out).mono ?_
          rintro e w13 ⟨ady, ny, cy, rfl, fy, b⟩
          clear h
          replace fa := fa.below b (Nat.le_refl _)
          replace fb := fb.below b (Nat.le_refl _)
          replace fc := fc.below b (Nat.le_refl _)
          replace fx := fx.below b (Nat.le_refl _)
          replace b0 := below_trans b0 b
          clear b
          have Zy := Lib.hid (Int.mul_nonneg Zb.out Zc.out)
          have Ty := Lib.hid (pow_mul_lt _ _ _ _ Zb.out Zc.out Tb.out Tc.out)
          have ly : ny ≤ (nb + nc) := fy.len_le ((nb + nc)) Ty.out
          have hC := num_cmp _ _ _ _ _ _ _ _ w13 (fx.num Zx.out) (fy.num Zy.out) (by omega) (by omega)
          rw [cmpI_eq (by rw [HCZ.out, Int.mul_zero, Int.mul_zero])] at hC
          have h := Lib.hid (hC)
          go_wp2_with fail
          refine (h.out).mono ?_
          rintro e w' ⟨rfl, q, rfl⟩
          have b := below_drewN (Below.refl w13.heap.size w13) q
          generalize w13.drewN q = w14 at *
          clear h
          replace fa := fa.below b (Nat.le_refl _)
          replace fb := fb.below b (Nat.le_refl _)
          replace fc := fc.below b (Nat.le_refl _)
          replace fx := fx.below b (Nat.le_refl _)
          replace fy := fy.below b (Nat.le_refl _)
          replace b0 := below_trans b0 b
          clear b
          clear hC
          clear fx fy
          clear Zx Tx Zy Ty
          have hM := num_norm _ _ _ _ w14 fc.num (by omega)
          rw [HCZ.out] at hM
          have h := Lib.hid (hM)
          go_wp2_with fail
          refine (h.out).mono ?_
          rintro e w15 ⟨adx, nx, cx, rfl, fx, b⟩
          clear h
          replace fa := fa.below b (Nat.le_refl _)
          replace fb := fb.below b (Nat.le_refl _)
          replace fc := fc.below b (Nat.le_refl _)
          replace b0 := below_trans b0 b
          clear b
          obtain rfl := fx.zero
          clear hM
          clear fx
          go_wp2_with fail
          go_ret
          exact ⟨rfl, b0⟩
        · have HCZ := Lib.hid (show 0 < (val 4294967296 xc) by have := Zc.out; omega)
          clear hcz
          have hC := num_cmp _ _ _ _ _ _ _ _ w1 fa.num fb.num (by omega) (by omega)
          rw [cmpI_lt HAB.out] at hC
          have h := Lib.hid (hC)
          go_wp2_with fail
          refine (h.out).mono ?_
          rintro e w' ⟨rfl, q, rfl⟩
          have b := below_drewN (Below.refl w1.heap.size w1) q
          generalize w1.drewN q = w2 at *
          clear h
          replace fa := fa.below b (Nat.le_refl _)
          replace fb := fb.below b (Nat.le_refl _)
          replace fc := fc.below b (Nat.le_refl _)
          replace b0 := below_trans b0 b
          clear b
          clear hC
          have hC := num_cmp _ _ _ _ _ _ _ _ w2 fb.num fc.num (by omega) (by omega)
          obtain ⟨y, hy⟩ : ∃ y, cmpI (val 4294967296 xb) (val 4294967296 xc) = y := ⟨_, rfl⟩
          rw [hy] at hC
          have hy1 : 0 < y := by rw [← hy]; rw [cmpI_gt HBC.out]; decide
          clear hy
          have h := Lib.hid (hC)
          go_wp2_with fail
          refine (h.out).mono ?_
          rintro e w' ⟨rfl, q, rfl⟩
          have b := below_drewN (Below.refl w2.heap.size w2) q
          generalize w2.drewN q = w3 at *
          clear h
          replace fa := fa.below b (Nat.le_refl _)
          replace fb := fb.below b (Nat.le_refl _)
          replace fc := fc.below b (Nat.le_refl _)
          replace b0 := below_trans b0 b
          clear b
          clear hC
          have hC := num_cmp _ _ _ _ _ _ _ _ w3 fb.num fa.num (by omega) (by omega)
          rw [cmpI_gt HAB.out] at hC
          have h := Lib.hid (hC)
          go_wp2_with fail
          refine (h.out).mono ?_
          rintro e w' ⟨rfl, q, rfl⟩
          have b := below_drewN (Below.refl w3.heap.size w3) q
          generalize w3.drewN q = w4 at *
          clear h
          replace fa := fa.below b (Nat.le_refl _)
          replace fb := fb.below b (Nat.le_refl _)
          replace fc := fc.below b (Nat.le_refl _)
          replace b0 := below_trans b0 b
          clear b
          clear hC
          have h := Lib.hid (num_norm _ _ _ _ w4 fa.num (by omega))
          go_wp2_with fail
          refine (h.out).mono ?_
          rintro e w5 ⟨adx, nx, cx, rfl, fx, b⟩
          clear h
          replace fa := fa.below b (Nat.le_refl _)
          replace fb := fb.below b (Nat.le_refl _)
          replace fc := fc.below b (Nat.le_refl _)
          replace b0 := below_trans b0 b
          clear b
          have Zx := Lib.hid (Za.out)
          have Tx := Lib.hid (Ta.out)
          have lx : nx ≤ na := fx.len_le (na) Tx.out
          have h := Lib.hid (num_norm _ _ _ _ w5 fb.num (by omega))
          go_wp2_with fail
          refine (h.out).mono ?_
          rintro e w6 ⟨ady, ny, cy, rfl, fy, b⟩
          clear h
          replace fa := fa.below b (Nat.le_refl _)
          replace fb := fb.below b (Nat.le_refl _)
          replace fc := fc.below b (Nat.le_refl _)
          replace fx := fx.below b (Nat.le_refl _)
          replace b0 := below_trans b0 b
          clear b
          have Zy := Lib.hid (Zb.out)
          have Ty := Lib.hid (Tb.out)
          have ly : ny ≤ nb := fy.len_le (nb) Ty.out
          have hS := num_same _ _ _ _ _ _ _ _ w6 fx fy Zx.out Zy.out (by omega) (by omega)
          rw [decide_eq_false (Int.ne_of_lt HAB.out)] at hS
          have h := Lib.hid (hS)
          go_wp2_with fail
          refine (h.out).mono ?_
          rintro e w' ⟨rfl, q, rfl⟩
          have b := below_drewN (Below.refl w6.heap.size w6) q
          generalize w6.drewN q = w7 at *
          clear h
          replace fa := fa.below b (Nat.le_refl _)
          replace fb := fb.below b (Nat.le_refl _)
          replace fc := fc.below b (Nat.le_refl _)
          replace fx := fx.below b (Nat.le_refl _)
          replace fy := fy.below b (Nat.le_refl _)
          replace b0 := below_trans b0 b
          clear b
          clear hS
          clear fx fy
          clear Zx Tx Zy Ty
          have hS := num_sub _ _ _ _ _ _ _ _ w7 fa.num fb.num (by omega) (by omega)
          rw [decide_eq_false (Int.not_le.2 HAB.out)] at hS
          have h := Lib.hid (hS)
          go_wp2_with fail
          refine (h.out).mono ?_
          rintro e w8 ⟨adk, nk, ck, rfl, fk, b⟩
          clear h
          replace fa := fa.below b (Nat.le_refl _)
          replace fb := fb.below b (Nat.le_refl _)
          replace fc := fc.below b (Nat.le_refl _)
          replace b0 := below_trans b0 b
          clear b
          clear hS
          clear fk
          have h := Lib.hid (num_add _ _ _ _ _ _ _ _ w8 fa.num fc.num (by omega) (by omega))
          go_wp2_with fail
          refine (h.out).mono ?_
          rintro e w9 ⟨adx, nx, cx, rfl, fx, b⟩
          clear h
          replace fa := fa.below b (Nat.le_refl _)
          replace fb := fb.below b (Nat.le_refl _)
          replace fc := fc.below b (Nat.le_refl _)
          replace b0 := below_trans b0 b
          clear b
          have Zx := Lib.hid (Int.add_nonneg Za.out Zc.out)
          have Tx := Lib.hid (pow_add_lt _ _ _ _ Ta.out Tc.out)
          have lx : nx ≤ (na + nc + 1) := fx.len_le ((na + nc + 1)) Tx.out
          have h := Lib.hid (num_add _ _ _ _ _ _ _ _ w9 fb.num fc.num (by omega) (by omega))
          go_wp2_with fail
          refine (h.out).mono ?_
          rintro e w10 ⟨ady, ny, cy, rfl, fy, b⟩
          clear h
          replace fa := fa.below b (Nat.le_refl _)
          replace fb := fb.below b (Nat.le_refl _)
          replace fc := fc.below b (Nat.le_refl _)
          replace fx := fx.below b (Nat.le_refl _)
          replace b0 := below_trans b0 b
          clear b
          have Zy := Lib.hid (Int.add_nonneg Zb.out Zc.out)
          have Ty := Lib.hid (pow_add_lt _ _ _ _ Tb.out Tc.out)
          have ly : ny ≤ (nb + nc + 1) := fy.len_le ((nb + nc + 1)) Ty.out
          have hC := num_cmp _ _ _ _ _ _ _ _ w10 (fx.num Zx.out) (fy.num Zy.out) (by omega) (by omega)
          rw [cmpI_lt (Int.add_lt_add_right HAB.out _)] at hC
          have h := Lib.hid (hC)
          go_wp2_with fail
          refine (h.out).mono ?_
          rintro e w' ⟨rfl, q, rfl⟩
          have b := below_drewN (Below.refl w10.heap.size w10) q
          generalize w10.drewN q = w11 at *
          clear h
          replace fa := fa.below b (Nat.le_refl _)
          replace fb := fb.below b (Nat.le_refl _)
          replace fc := fc.below b (Nat.le_refl _)
          replace fx := fx.below b (Nat.le_refl _)
          replace fy := fy.below b (Nat.le_refl _)
          replace b0 := below_trans b0 b
          clear b
          clear hC
          clear fx fy
          clear Zx Tx Zy Ty
          have h := Lib.hid (num_mul _ _ _ _ _ _ _ _ w11 fa.num fc.num (by omega) (by omega))
          go_wp2_with fail
          refine (h.out).mono ?_
          rintro e w12 ⟨adx, nx, cx, rfl, fx, b⟩
          clear h
          replace fa := fa.below b (Nat.le_refl _)
          replace fb := fb.below b (Nat.le_refl _)
          replace fc := fc.below b (Nat.le_refl _)
          replace b0 := below_trans b0 b
          clear b
          have Zx := Lib.hid (Int.mul_nonneg Za.out Zc.out)
          have Tx := Lib.hid (pow_mul_lt _ _ _ _ Za.out Zc.out Ta.out Tc.out)
          have lx : nx ≤ (na + nc) := fx.len_le ((na + nc)) Tx.out
          have h := Lib.hid (num_mul _ _ _ _ _ _ _ _ w12 fb.num fc.num (by omega) (by omega))
          go_wp2_with fail
          refine (h.out).mono ?_
          rintro e w13 ⟨ady, ny, cy, rfl, fy, b⟩
          clear h
          replace fa := fa.below b (Nat.le_refl _)
          replace fb := fb.below b (Nat.le_refl _)
          replace fc := fc.below b (Nat.le_refl _)
          replace fx := fx.below b (Nat.le_refl _)
          replace b0 := below_trans b0 b
          clear b
          have Zy := Lib.hid (Int.mul_nonneg Zb.out Zc.out)
          have Ty := Lib.hid (pow_mul_lt _ _ _ _ Zb.out Zc.out Tb.out Tc.out)
          have ly : ny ≤ (nb + nc) := fy.len_le ((nb + nc)) Ty.out
          have hC := num_cmp _ _ _ _ _ _ _ _ w13 (fx.num Zx.out) (fy.num Zy.out) (by omega) (by omega)
          rw [cmpI_lt (Int.mul_lt_mul_of_pos_right HAB.out HCZ.out)] at hC
          have h := Lib.hid (hC)
          go_wp2_with fail
          refine (h.out).mono ?_
          rintro e w' ⟨rfl, q, rfl⟩
          have b := below_drewN (Below.refl w13.heap.size w13) q
          generalize w13.drewN q = w14 at *
          clear h
          replace fa := fa.below b (Nat.le_refl _)
          replace fb := fb.below b (Nat.le_refl _)
          replace fc := fc.below b (Nat.le_refl _)
          replace fx := fx.below b (Nat.le_refl _)
          replace fy := fy.below b (Nat.le_refl _)
          replace b0 := below_trans b0 b
          clear b
          clear hC
          clear fx fy
          clear Zx Tx Zy Ty
          go_wp2_with fail
          go_ret
          exact ⟨rfl, b0⟩
      · have HBC := Lib.hid (Int.not_lt.1 hbc)
        clear hbc
        by_cases hcz : (val 4294967296 xc) = 0
        · have HCZ := Lib.hid hcz
          clear hcz
          have hC := num_cmp _ _ _ _ _ _ _ _ w1 fa.num fb.num (by omega) (by omega)
          rw [cmpI_lt HAB.out] at hC
          have h := Lib.hid (hC)
          go_wp2_with fail
          refine (h.out).mono ?_
          rintro e w' ⟨rfl, q, rfl⟩
          have b := below_drewN (Below.refl w1.heap.size w1) q
          generalize w1.drewN q = w2 at *
          clear h
          replace fa := fa.below b (Nat.le_refl _)
          replace fb := fb.below b (Nat.le_refl _)
          replace fc := fc.below b (Nat.le_refl _)
          replace b0 := below_trans b0 b
          clear b
          clear hC
          have hC := num_cmp _ _ _ _ _ _ _ _ w2 fb.num fc.num (by omega) (by omega)
          obtain ⟨y, hy⟩ : ∃ y, cmpI (val 4294967296 xb) (val 4294967296 xc) = y := ⟨_, rfl⟩
          rw [hy] at hC
          have hy1 : y ≤ 0 := by rw [← hy]; exact cmpI_le HBC.out
          clear hy
          have h := Lib.hid (hC)
          go_wp2_with fail
          refine (h.out).mono ?_
          rintro e w' ⟨rfl, q, rfl⟩
          have b := below_drewN (Below.refl w2.heap.size w2) q
          generalize w2.drewN q = w3 at *
          clear h
          replace fa := fa.below b (Nat.le_refl _)
          replace fb := fb.below b (Nat.le_refl _)
          replace fc := fc.below b (Nat.le_refl _)
          replace b0 := below_trans b0 b
          clear b
          clear hC
          have hC := num_cmp _ _ _ _ _ _ _ _ w3 fb.num fa.num (by omega) (by omega)
          rw [cmpI_gt HAB.out] at hC
          have h := Lib.hid (hC)
          go_wp2_with fail
          refine (h.out).mono ?_
          rintro e w' ⟨rfl, q, rfl⟩
          have b := below_drewN (Below.refl w3.heap.size w3) q
          generalize w3.drewN q = w4 at *
          clear h
          replace fa := fa.below b (Nat.le_refl _)
          replace fb := fb.below b (Nat.le_refl _)
          replace fc := fc.below b (Nat.le_refl _)
          replace b0 := below_trans b0 b
          clear b
          clear hC
          have hC := num_cmp _ _ _ _ _ _ _ _ w4 fa.num fc.num (by omega) (by omega)
          obtain ⟨z, hz⟩ : ∃ z, cmpI (val 4294967296 xa) (val 4294967296 xc) = z := ⟨_, rfl⟩
          rw [hz] at hC
          have hz1 : z ≤ 0 := by rw [← hz]; exact cmpI_le (Int.le_trans (Int.le_of_lt HAB.out) HBC.out)
          clear hz
          have h := Lib.hid (hC)
          go_wp2_with fail
          refine (h.out).mono ?_
          rintro e w' ⟨rfl, q, rfl⟩
          have b := below_drewN (Below.refl w4.heap.size w4) q
          generalize w4.drewN q = w5 at *
          clear h
          replace fa := fa.below b (Nat.le_refl _)
          replace fb := fb.below b (Nat.le_refl _)
          replace fc := fc.below b (Nat.le_refl _)
          replace b0 := below_trans b0 b
          clear b
          clear hC
          have h := Lib.hid (num_norm _ _ _ _ w5 fa.num (by omega))
          go_wp2_with fail
          refine (h.out).mono ?_
          rintro e w6 ⟨adx, nx, cx, rfl, fx, b⟩
          clear h
          replace fa := fa.below b (Nat.le_refl _)
          replace fb := fb.below b (Nat.le_refl _)
          replace fc := fc.below b (Nat.le_refl _)
          replace b0 := below_trans b0 b
          clear b
          have Zx := Lib.hid (Za.out)
          have Tx := Lib.hid (Ta.out)
          have lx : nx ≤ na := fx.len_le (na) Tx.out
          have h := Lib.hid (num_norm _ _ _ _ w6 fb.num (by omega))
          go_wp2_with fail
          refine (h.out).mono ?_
          rintro e w7 ⟨ady, ny, cy, rfl, fy, b⟩
          clear h
          replace fa := fa.below b (Nat.le_refl _)
          replace fb := fb.below b (Nat.le_refl _)
          replace fc := fc.below b (Nat.le_refl _)
          replace fx := fx.below b (Nat.le_refl _)
          replace b0 := below_trans b0 b
          clear b
          have Zy := Lib.hid (Zb.out)
          have Ty := Lib.hid (Tb.out)
          have ly : ny ≤ nb := fy.len_le (nb) Ty.out
          have hS := num_same _ _ _ _ _ _ _ _ w7 fx fy Zx.out Zy.out (by omega) (by omega)
          rw [decide_eq_false (Int.ne_of_lt HAB.out)] at hS
          have h := Lib.hid (hS)
          go_wp2_with fail
          refine (h.out).mono ?_
          rintro e w' ⟨rfl, q, rfl⟩
          have b := below_drewN (Below.refl w7.heap.size w7) q
          generalize w7.drewN q = w8 at *
          clear h
          replace fa := fa.below b (Nat.le_refl _)
          replace fb := fb.below b (Nat.le_refl _)
          replace fc := fc.below b (Nat.le_refl _)
          replace fx := fx.below b (Nat.le_refl _)
          replace fy := fy.below b (Nat.le_refl _)
          replace b0 := below_trans b0 b
          clear b
          clear hS
          clear fx fy
          clear Zx Tx Zy Ty
          have hS := num_sub _ _ _ _ _ _ _ _ w8 fa.num fb.num (by omega) (by omega)
          rw [decide_eq_false (Int.not_le.2 HAB.out)] at hS
          have h := Lib.hid (hS)
          go_wp2_with fail
          refine (h.out).mono ?_
          rintro e w9 ⟨adk, nk, ck, rfl, fk, b⟩
          clear h
          replace fa := fa.below b (Nat.le_refl _)
          replace fb := fb.below b (Nat.le_refl _)
          replace fc := fc.below b (Nat.le_refl _)
          replace b0 := below_trans b0 b
          clear b
          clear hS
          clear fk
          have h := Lib.hid (num_add _ _ _ _ _ _ _ _ w9 fa.num fc.num (by omega) (by omega))
          go_wp2_with fail
          refine (h.out).mono ?_
          rintro e w10 ⟨adx, nx, cx, rfl, fx, b⟩
          clear h
          replace fa := fa.below b (Nat.le_refl _)
          replace fb := fb.below b (Nat.le_refl _)
          replace fc := fc.below b (Nat.le_refl _)
          replace b0 := below_trans b0 b
          clear b
          have Zx := Lib.hid (Int.add_nonneg Za.out Zc.out)
          have Tx := Lib.hid (pow_add_lt _ _ _ _ Ta.out Tc.out)
          have lx : nx ≤ (na + nc + 1) := fx.len_le ((na + nc + 1)) Tx.out
          have h := Lib.hid (num_add _ _ _ _ _ _ _ _ w10 fb.num fc.num (by omega) (by omega))
          go_wp2_with fail
          refine (h.out).mono ?_
          rintro e w11 ⟨ady, ny, cy, rfl, fy, b⟩
          clear h
          replace fa := fa.below b (Nat.le_refl _)
          replace fb := fb.below b (Nat.le_refl _)
          replace fc := fc.below b (Nat.le_refl _)
          replace fx := fx.below b (Nat.le_refl _)
          replace b0 := below_trans b0 b
          clear b
          have Zy := Lib.hid (Int.add_nonneg Zb.out Zc.out)
          have Ty := Lib.hid (pow_add_lt _ _ _ _ Tb.out Tc.out)
          have ly : ny ≤ (nb + nc + 1) := fy.len_le ((nb + nc + 1)) Ty.out
          have hC := num_cmp _ _ _ _ _ _ _ _ w11 (fx.num Zx.out) (fy.num Zy.out) (by omega) (by omega)
          rw [cmpI_lt (Int.add_lt_add_right HAB.out _)] at hC
          have h := Lib.hid (hC)
          go_wp2_with fail
          refine (h.out).mono ?_
          rintro e w' ⟨rfl, q, rfl⟩
          have b := below_drewN (Below.refl w11.heap.size w11) q
          generalize w11.drewN q = w12 at *
          clear h
          replace fa := fa.below b (Nat.le_refl _)
          replace fb := fb.below b (Nat.le_refl _)
          replace fc := fc.below b (Nat.le_refl _)
          replace fx := fx.below b (Nat.le_refl _)
          replace fy := fy.below b (Nat.le_refl _)
          replace b0 := below_trans b0 b
          clear b
          clear hC
          clear fx fy
          clear Zx Tx Zy Ty
          have h := Lib.hid (num_mul _ _ _ _ _ _ _ _ w12 fa.num fc.num (by omega) (by omega))
          go_wp2_with fail
          refine (h.out).mono ?_
          rintro e w13 ⟨adx, nx, cx, rfl, fx, b⟩
          clear h
          replace fa := fa.below b (Nat.le_refl _)
          replace fb := fb.below b (Nat.le_refl _)
          replace fc := fc.below b (Nat.le_refl _)
          replace b0 := below_trans b0 b
          clear b
          have Zx := Lib.hid (Int.mul_nonneg Za.out Zc.out)
          have Tx := Lib.hid (pow_mul_lt _ _ _ _ Za.out Zc.out Ta.out Tc.out)
          have lx : nx ≤ (na + nc) := fx.len_le ((na + nc)) Tx.out
          have h := Lib.hid (num_mul _ _ _ _ _ _ _ _ w13 fb.num fc.num (by omega) (by omega))
          go_wp2_with fail
          refine (h.out).mono ?_
          rintro e w14 ⟨ady, ny, cy, rfl, fy, b⟩
          clear h
          replace fa := fa.below b (Nat.le_refl _)
          replace fb := fb.below b (Nat.le_refl _)
          replace fc := fc.below b (Nat.le_refl _)
          replace fx := fx.below b (Nat.le_refl _)
          replace b0 := below_trans b0 b
          clear b
          have Zy := Lib.hid (Int.mul_nonneg Zb.out Zc.out)
          have Ty := Lib.hid (pow_mul_lt _ _ _ _ Zb.out Zc.out Tb.out Tc.out)
          have ly : ny ≤ (nb + nc) := fy.len_le ((nb + nc)) Ty.out
          have hC := num_cmp _ _ _ _ _ _ _ _ w14 (fx.num Zx.out) (fy.num Zy.out) (by omega) (by omega)
          rw [cmpI_eq (by rw [HCZ.out, Int.mul_zero, Int.mul_zero])] at hC
          have h := Lib.hid (hC)
          go_wp2_with fail
          refine (h.out).mono ?_
          rintro e w' ⟨rfl, q, rfl⟩
          have b := below_drewN (Below.refl w14.heap.size w14) q
          generalize w14.drewN q = w15 at *
          clear h
          replace fa := fa.below b (Nat.le_refl _)
          replace fb := fb.below b (Nat.le_refl _)
          replace fc := fc.below b (Nat.le_refl _)
          replace fx := fx.below b (Nat.le_refl _)
          replace fy := fy.below b (Nat.le_refl _)
          replace b0 := below_trans b0 b
          clear b
          clear hC
          clear fx fy
          clear Zx Tx Zy Ty
          have hM := num_norm _ _ _ _ w15 fc.num (by omega)
          rw [HCZ.out] at hM
          have h := Lib.hid (hM)
          go_wp2_with fail
          refine (h.out).mono ?_
          rintro e w16 ⟨adx, nx, cx, rfl, fx, b⟩
          clear h
          replace fa := fa.below b (Nat.le_refl _)
          replace fb := fb.below b (Nat.le_refl _)
          replace fc := fc.below b (Nat.le_refl _)
          replace b0 := below_trans b0 b
          clear b
          obtain rfl := fx.zero
          clear hM
          clear fx
          go_wp2_with fail
          go_ret
          exact ⟨rfl, b0⟩
        · have HCZ := Lib.hid (show 0 < (val 4294967296 xc) by have := Zc.out; omega)
          clear hcz
          have hC := num_cmp _ _ _ _ _ _ _ _ w1 fa.num fb.num (by omega) (by omega)
          rw [cmpI_lt HAB.out] at hC
          have h := Lib.hid (hC)
          go_wp2_with fail
          refine (h.out).mono ?_
          rintro e w' ⟨rfl, q, rfl⟩
          have b := below_drewN (Below.refl w1.heap.size w1) q
          generalize w1.drewN q = w2 at *
          clear h
          replace fa := fa.below b (Nat.le_refl _)
          replace fb := fb.below b (Nat.le_refl _)
          replace fc := fc.below b (Nat.le_refl _)
          replace b0 := below_trans b0 b
          clear b
          clear hC
          have hC := num_cmp _ _ _ _ _ _ _ _ w2 fb.num fc.num (by omega) (by omega)
          obtain ⟨y, hy⟩ : ∃ y, cmpI (val 4294967296 xb) (val 4294967296 xc) = y := ⟨_, rfl⟩
          rw [hy] at hC
          have hy1 : y ≤ 0 := by rw [← hy]; exact cmpI_le HBC.out
          clear hy
          have h := Lib.hid (hC)
          go_wp2_with fail
          refine (h.out).mono ?_
          rintro e w' ⟨rfl, q, rfl⟩
          have b := below_drewN (Below.refl w2.heap.size w2) q
          generalize w2.drewN q = w3 at *
          clear h
          replace fa := fa.below b (Nat.le_refl _)
          replace fb := fb.below b (Nat.le_refl _)
          replace fc := fc.below b (Nat.le_refl _)
          replace b0 := below_trans b0 b
          clear b
          clear hC
          have hC := num_cmp _ _ _ _ _ _ _ _ w3 fb.num fa.num (by omega) (by omega)
          rw [cmpI_gt HAB.out] at hC
          have h := Lib.hid (hC)
          go_wp2_with fail
          refine (h.out).mono ?_
          rintro e w' ⟨rfl, q, rfl⟩
          have b := below_drewN (Below.refl w3.heap.size w3) q
          generalize w3.drewN q = w4 at *
          clear h
          replace fa := fa.below b (Nat.le_refl _)
          replace fb := fb.below b (Nat.le_refl _)
          replace fc := fc.below b (Nat.le_refl _)
          replace b0 := below_trans b0 b
          clear b
          clear hC
          have hC := num_cmp _ _ _ _ _ _ _ _ w4 fa.num fc.num (by omega) (by omega)
          obtain ⟨z, hz⟩ : ∃ z, cmpI (val 4294967296 xa) (val 4294967296 xc) = z := ⟨_, rfl⟩
          rw [hz] at hC
          have hz1 : z ≤ 0 := by rw [← hz]; exact cmpI_le (Int.le_trans (Int.le_of_lt HAB.out) HBC.out)
          clear hz
          have h := Lib.hid (hC)
          go_wp2_with fail
          refine (h.out).mono ?_
          rintro e w' ⟨rfl, q, rfl⟩
          have b := below_drewN (Below.refl w4.heap.size w4) q
          generalize w4.drewN q = w5 at *
          clear h
          replace fa := fa.below b (Nat.le_refl _)
          replace fb := fb.below b (Nat.le_refl _)
          replace fc := fc.below b (Nat.le_refl _)
          replace b0 := below_trans b0 b
          clear b
          clear hC
          have h := Lib.hid (num_norm _ _ _ _ w5 fa.num (by omega))
          go_wp2_with fail
          refine (h.out).mono ?_
          rintro e w6 ⟨adx, nx, cx, rfl, fx, b⟩
          clear h
          replace fa := fa.below b (Nat.le_refl _)
          replace fb := fb.below b (Nat.le_refl _)
          replace fc := fc.below b (Nat.le_refl _)
          replace b0 := below_trans b0 b
          clear b
          have Zx := Lib.hid (Za.out)
          have Tx := Lib.hid (Ta.out)
          have lx : nx ≤ na := fx.len_le (na) Tx.out
          have h := Lib.hid (num_norm _ _ _ _ w6 fb.num (by omega))
          go_wp2_with fail
          refine (h.out).mono ?_
          rintro e w7 ⟨ady, ny, cy, rfl, fy, b⟩
          clear h
          replace fa := fa.below b (Nat.le_refl _)
          replace fb := fb.below b (Nat.le_refl _)
          replace fc := fc.below b (Nat.le_refl _)
          replace fx := fx.below b (Nat.le_refl _)
          replace b0 := below_trans b0 b
          clear b
          have Zy := Lib.hid (Zb.out)
          have Ty := Lib.hid (Tb.out)
          have ly : ny ≤ nb := fy.len_le (nb) Ty.out
          have hS := num_same _ _ _ _ _ _ _ _ w7 fx fy Zx.out Zy.out (by omega) (by omega)
          rw [decide_eq_false (Int.ne_of_lt HAB.out)] at hS
          have h := Lib.hid (hS)
          go_wp2_with fail
          refine (h.out).mono ?_
          rintro e w' ⟨rfl, q, rfl⟩
          have b := below_drewN (Below.refl w7.heap.size w7) q
          generalize w7.drewN q = w8 at *
          clear h
          replace fa := fa.below b (Nat.le_refl _)
          replace fb := fb.below b (Nat.le_refl _)
          replace fc := fc.below b (Nat.le_refl _)
          replace fx := fx.below b (Nat.le_refl _)
          replace fy := fy.below b (Nat.le_refl _)
          replace b0 := below_trans b0 b
          clear b
          clear hS
          clear fx fy
          clear Zx Tx Zy Ty
          have hS := num_sub _ _ _ _ _ _ _ _ w8 fa.num fb.num (by omega) (by omega)
          rw [decide_eq_false (Int.not_le.2 HAB.out)] at hS
          have h := Lib.hid (hS)
          go_wp2_with fail
          refine (h.out).mono ?_
          rintro e w9 ⟨adk, nk, ck, rfl, fk, b⟩
          clear h
          replace fa := fa.below b (Nat.le_refl _)
          replace fb := fb.below b (Nat.le_refl _)
          replace fc := fc.below b (Nat.le_refl _)
          replace b0 := below_trans b0 b
          clear b
          clear hS
          clear fk
          have h := Lib.hid (num_add _ _ _ _ _ _ _ _ w9 fa.num fc.num (by omega) (by omega))
          go_wp2_with fail
          refine (h.out).mono ?_
          rintro e w10 ⟨adx, nx, cx, rfl, fx, b⟩
          clear h
          replace fa := fa.below b (Nat.le_refl _)
          replace fb := fb.below b (Nat.le_refl _)
          replace fc := fc.below b (Nat.le_refl _)
          replace b0 := below_trans b0 b
          clear b
          have Zx := Lib.hid (Int.add_nonneg Za.out Zc.out)
          have Tx := Lib.hid (pow_add_lt _ _ _ _ Ta.out Tc.out)
          have lx : nx ≤ (na + nc + 1) := fx.len_le ((na + nc + 1)) Tx.out
          have h := Lib.hid (num_add _ _ _ _ _ _ _ _ w10 fb.num fc.num (by omega) (by omega))
          go_wp2_with fail
          refine (h.out).mono ?_
          rintro e w11 ⟨ady, ny, cy, rfl, fy, b⟩
          clear h
          replace fa := fa.below b (Nat.le_refl _)
          replace fb := fb.below b (Nat.le_refl _)
          replace fc := fc.below b (Nat.le_refl _)
          replace fx := fx.below b (Nat.le_refl _)
          replace b0 := below_trans b0 b
          clear b
          have Zy := Lib.hid (Int.add_nonneg Zb.out Zc.out)
          have Ty := Lib.hid (pow_add_lt _ _ _ _ Tb.out Tc.out)
          have ly : ny ≤ (nb + nc + 1) := fy.len_le ((nb + nc + 1)) Ty.out
          have hC := num_cmp _ _ _ _ _ _ _ _ w11 (fx.num Zx.out) (fy.num Zy.out) (by omega) (by omega)
          rw [cmpI_lt (Int.add_lt_add_right HAB.out _)] at hC
          have h := Lib.hid (hC)
          go_wp2_with fail
          refine (h.out).mono ?_
          rintro e w' ⟨rfl, q, rfl⟩
          have b := below_drewN (Below.refl w11.heap.size w11) q
          generalize w11.drewN q = w12 at *
          clear h
          replace fa := fa.below b (Nat.le_refl _)
          replace fb := fb.below b (Nat.le_refl _)
          replace fc := fc.below b (Nat.le_refl _)
          replace fx := fx.below b (Nat.le_refl _)
          replace fy := fy.below b (Nat.le_refl _)
          replace b0 := below_trans b0 b
          clear b
          clear hC
          clear fx fy
          clear Zx Tx Zy Ty
          have h := Lib.hid (num_mul _ _ _ _ _ _ _ _ w12 fa.num fc.num (by omega) (by omega))
          go_wp2_with fail
          refine (h.out).mono ?_
          rintro e w13 ⟨adx, nx, cx, rfl, fx, b⟩
          clear h
          replace fa := fa.below b (Nat.le_refl _)
          replace fb := fb.below b (Nat.le_refl _)
          replace fc := fc.below b (Nat.le_refl _)
          replace b0 := below_trans b0 b
          clear b
          have Zx := Lib.hid (Int.mul_nonneg Za.out Zc.out)
          have Tx := Lib.hid (pow_mul_lt _ _ _ _ Za.out Zc.out Ta.out Tc.out)
          have lx : nx ≤ (na + nc) := fx.len_le ((na + nc)) Tx.out
          have h := Lib.hid (num_mul _ _ _ _ _ _ _ _ w13 fb.num fc.num (by omega) (by omega))
          go_wp2_with fail
          refine (h.out).mono ?_
          rintro e w14 ⟨ady, ny, cy, rfl, fy, b⟩
          clear h
          replace fa := fa.below b (Nat.le_refl _)
          replace fb := fb.below b (Nat.le_refl _)
          replace fc := fc.below b (Nat.le_refl _)
          replace fx := fx.below b (Nat.le_refl _)
          replace b0 := below_trans b0 b
          clear b
          have Zy := Lib.hid (Int.mul_nonneg Zb.out Zc.out)
          have Ty := Lib.hid (pow_mul_lt _ _ _ _ Zb.out Zc.out Tb.out Tc.out)
          have ly : ny ≤ (nb + nc) := fy.len_le ((nb + nc)) Ty.out
          have hC := num_cmp _ _ _ _ _ _ _ _ w14 (fx.num Zx.out) (fy.num Zy.out) (by omega) (by omega)
          rw [cmpI_lt (Int.mul_lt_mul_of_pos_right HAB.out HCZ.out)] at hC
          have h := Lib.hid (hC)
          go_wp2_with fail
          refine (h.out).mono ?_
          rintro e w' ⟨rfl, q, rfl⟩
          have b := below_drewN (Below.refl w14.heap.size w14) q
          generalize w14.drewN q = w15 at *
          clear h
          replace fa := fa.below b (Nat.le_refl _)
          replace fb := fb.below b (Nat.le_refl _)
          replace fc := fc.below b (Nat.le_refl _)
          replace fx := fx.below b (Nat.le_refl _)
          replace fy := fy.below b (Nat.le_refl _)
          replace b0 := below_trans b0 b
          clear b
          clear hC
          clear fx fy
          clear Zx Tx Zy Ty
          go_wp2_with fail
          go_ret
          exact ⟨rfl, b0⟩
    · have HAB := Lib.hid hab
      clear hab
      by_cases hbc : (val 4294967296 xc) < (val 4294967296 xb)
      · have HBC := Lib.hid hbc
        clear hbc
        have hC := num_cmp _ _ _ _ _ _ _ _ w1 fa.num fb.num (by omega) (by omega)
        rw [cmpI_eq HAB.out] at hC
        have h := Lib.hid (hC)
        go_wp2_with fail
        refine (h.out).mono ?_
        rintro e w' ⟨rfl, q, rfl⟩
        have b := below_drewN (Below.refl w1.heap.size w1) q
        generalize w1.drewN q = w2 at *
        clear h
        replace fa := fa.below b (Nat.le_refl _)
        replace fb := fb.below b (Nat.le_refl _)
        replace fc := fc.below b (Nat.le_refl _)
        replace b0 := below_trans b0 b
        clear b
        clear hC
        have hC := num_cmp _ _ _ _ _ _ _ _ w2 fb.num fc.num (by omega) (by omega)
        obtain ⟨y, hy⟩ : ∃ y, cmpI (val 4294967296 xb) (val 4294967296 xc) = y := ⟨_, rfl⟩
        rw [hy] at hC
        have hy1 : 0 < y := by rw [← hy]; rw [cmpI_gt HBC.out]; decide
        clear hy
        have h := Lib.hid (hC)
        go_wp2_with fail
        refine (h.out).mono ?_
        rintro e w' ⟨rfl, q, rfl⟩
        have b := below_drewN (Below.refl w2.heap.size w2) q
        generalize w2.drewN q = w3 at *
        clear h
        replace fa := fa.below b (Nat.le_refl _)
        replace fb := fb.below b (Nat.le_refl _)
        replace fc := fc.below b (Nat.le_refl _)
        replace b0 := below_trans b0 b
        clear b
        clear hC
        have hC := num_cmp _ _ _ _ _ _ _ _ w3 fb.num fa.num (by omega) (by omega)
        rw [cmpI_eq HAB.out.symm] at hC
        have h := Lib.hid (hC)
        go_wp2_with fail
        refine (h.out).mono ?_
        rintro e w' ⟨rfl, q, rfl⟩
        have b := below_drewN (Below.refl w3.heap.size w3) q
        generalize w3.drewN q = w4 at *
        clear h
        replace fa := fa.below b (Nat.le_refl _)
        replace fb := fb.below b (Nat.le_refl _)
        replace fc := fc.below b (Nat.le_refl _)
        replace b0 := below_trans b0 b
        clear b
        clear hC
        have h := Lib.hid (num_norm _ _ _ _ w4 fa.num (by omega))
        go_wp2_with fail
        refine (h.out).mono ?_
        rintro e w5 ⟨adx, nx, cx, rfl, fx, b⟩
        clear h
        replace fa := fa.below b (Nat.le_refl _)
        replace fb := fb.below b (Nat.le_refl _)
        replace fc := fc.below b (Nat.le_refl _)
        replace b0 := below_trans b0 b
        clear b
        have Zx := Lib.hid (Za.out)
        have Tx := Lib.hid (Ta.out)
        have lx : nx ≤ na := fx.len_le (na) Tx.out
        have h := Lib.hid (num_norm _ _ _ _ w5 fb.num (by omega))
        go_wp2_with fail
        refine (h.out).mono ?_
        rintro e w6 ⟨ady, ny, cy, rfl, fy, b⟩
        clear h
        replace fa := fa.below b (Nat.le_refl _)
        replace fb := fb.below b (Nat.le_refl _)
        replace fc := fc.below b (Nat.le_refl _)
        replace fx := fx.below b (Nat.le_refl _)
        replace b0 := below_trans b0 b
        clear b
        have Zy := Lib.hid (Zb.out)
        have Ty := Lib.hid (Tb.out)
        have ly : ny ≤ nb := fy.len_le (nb) Ty.out
        have h := Lib.hid (num_same_true _ _ _ _ _ _ _ _ w6 fx fy (HAB.out) (by omega) (by omega))
        go_wp2_with fail
        refine (h.out).mono ?_
        rintro e w' ⟨rfl, q, rfl⟩
        have b := below_drewN (Below.refl w6.heap.size w6) q
        generalize w6.drewN q = w7 at *
        clear h
        replace fa := fa.below b (Nat.le_refl _)
        replace fb := fb.below b (Nat.le_refl _)
        replace fc := fc.below b (Nat.le_refl _)
        replace fx := fx.below b (Nat.le_refl _)
        replace fy := fy.below b (Nat.le_refl _)
        replace b0 := below_trans b0 b
        clear b
        clear fx fy
        clear Zx Tx Zy Ty
        have hS := num_sub _ _ _ _ _ _ _ _ w7 fa.num fb.num (by omega) (by omega)
        rw [decide_eq_true (Int.le_of_eq HAB.out.symm)] at hS
        have h := Lib.hid (hS)
        go_wp2_with fail
        refine (h.out).mono ?_
        rintro e w8 ⟨adk, nk, ck, rfl, fk, b⟩
        clear h
        replace fa := fa.below b (Nat.le_refl _)
        replace fb := fb.below b (Nat.le_refl _)
        replace fc := fc.below b (Nat.le_refl _)
        replace b0 := below_trans b0 b
        clear b
        clear hS
        clear fk
        have h := Lib.hid (num_add _ _ _ _ _ _ _ _ w8 fa.num fc.num (by omega) (by omega))
        go_wp2_with fail
        refine (h.out).mono ?_
        rintro e w9 ⟨adx, nx, cx, rfl, fx, b⟩
        clear h
        replace fa := fa.below b (Nat.le_refl _)
        replace fb := fb.below b (Nat.le_refl _)
        replace fc := fc.below b (Nat.le_refl _)
        replace b0 := below_trans b0 b
        clear b
        have Zx := Lib.hid (Int.add_nonneg Za.out Zc.out)
        have Tx := Lib.hid (pow_add_lt _ _ _ _ Ta.out Tc.out)
        have lx : nx ≤ (na + nc + 1) := fx.len_le ((na + nc + 1)) Tx.out
        have h := Lib.hid (num_add _ _ _ _ _ _ _ _ w9 fb.num fc.num (by omega) (by omega))
        go_wp2_with fail
        refine (h.out).mono ?_
        rintro e w10 ⟨ady, ny, cy, rfl, fy, b⟩
        clear h
        replace fa := fa.below b (Nat.le_refl _)
        replace fb := fb.below b (Nat.le_refl _)
        replace fc := fc.below b (Nat.le_refl _)
        replace fx := fx.below b (Nat.le_refl _)
        replace b0 := below_trans b0 b
        clear b
        have Zy := Lib.hid (Int.add_nonneg Zb.out Zc.out)
        have Ty := Lib.hid (pow_add_lt _ _ _ _ Tb.out Tc.out)
        have ly : ny ≤ (nb + nc + 1) := fy.len_le ((nb + nc + 1)) Ty.out
        have hC := num_cmp _ _ _ _ _ _ _ _ w10 (fx.num Zx.out) (fy.num Zy.out) (by omega) (by omega)
        rw [cmpI_eq (by rw [HAB.out])] at hC
        have h := Lib.hid (hC)
        go_wp2_with fail
        refine (h.out).mono ?_
        rintro e w' ⟨rfl, q, rfl⟩
        have b := below_drewN (Below.refl w10.heap.size w10) q
        generalize w10.drewN q = w11 at *
        clear h
        replace fa := fa.below b (Nat.le_refl _)
        replace fb := fb.below b (Nat.le_refl _)
        replace fc := fc.below b (Nat.le_refl _)
        replace fx := fx.below b (Nat.le_refl _)
        replace fy := fy.below b (Nat.le_refl _)
        replace b0 := below_trans b0 b
        clear b
        clear hC
        clear fx fy
        clear Zx Tx Zy Ty
        have h := Lib.hid (num_mul _ _ _ _ _ _ _ _ w11 fa.num fc.num (by omega) (by omega))
        go_wp2_with fail
        refine (h.out).mono ?_
        rintro e w12 ⟨adx, nx, cx, rfl, fx, b⟩
        clear h
        replace fa := fa.below b (Nat.le_refl _)
        replace fb := fb.below b (Nat.le_refl _)
        replace fc := fc.below b (Nat.le_refl _)
        replace b0 := below_trans b0 b
        clear b
        have Zx := Lib.hid (Int.mul_nonneg Za.out Zc.out)
        have Tx := Lib.hid (pow_mul_lt _ _ _ _ Za.out Zc.out Ta.out Tc.out)
        have lx : nx ≤ (na + nc) := fx.len_le ((na + nc)) Tx.out
        have h := Lib.hid (num_mul _ _ _ _ _ _ _ _ w12 fb.num fc.num (by omega) (by omega))
        go_wp2_with fail
        refine (h.out).mono ?_
        rintro e w13 ⟨ady, ny, cy, rfl, fy, b⟩
        clear h
        replace fa := fa.below b (Nat.le_refl _)
        replace fb := fb.below b (Nat.le_refl _)
        replace fc := fc.below b (Nat.le_refl _)
        replace fx := fx.below b (Nat.le_refl _)
        replace b0 := below_trans b0 b
        clear b
        have Zy := Lib.hid (Int.mul_nonneg Zb.out Zc.out)
        have Ty := Lib.hid (pow_mul_lt _ _ _ _ Zb.out Zc.out Tb.out Tc.out)
        have ly : ny ≤ (nb + nc) := fy.len_le ((nb + nc)) Ty.out
        have hC := num_cmp _ _ _ _ _ _ _ _ w13 (fx.num Zx.out) (fy.num Zy.out) (by omega) (by omega)
        rw [cmpI_eq (by rw [HAB.out])] at hC
        have h := Lib.hid (hC)
        go_wp2_with fail
        refine (h.out).mono ?_
        rintro e w' ⟨rfl, q, rfl⟩
        have b := below_drewN (Below.refl w13.heap.size w13) q
        generalize w13.drewN q = w14 at *
        clear h
        replace fa := fa.below b (Nat.le_refl _)
        replace fb := fb.below b (Nat.le_refl _)
        replace fc := fc.below b (Nat.le_refl _)
        replace fx := fx.below b (Nat.le_refl _)
        replace fy := fy.below b (Nat.le_refl _)
        replace b0 := below_trans b0 b
        clear b
        clear hC
        clear fx fy
        clear Zx Tx Zy Ty
        go_wp2_with fail
        go_ret
        exact ⟨rfl, b0⟩
      · have HBC := Lib.hid (Int.not_lt.1 hbc)
        clear hbc
        have hC := num_cmp _ _ _ _ _ _ _ _ w1 fa.num fb.num (by omega) (by omega)
        rw [cmpI_eq HAB.out] at hC
        have h := Lib.hid (hC)
        go_wp2_with fail
        refine (h.out).mono ?_
        rintro e w' ⟨rfl, q, rfl⟩
        have b := below_drewN (Below.refl w1.heap.size w1) q
        generalize w1.drewN q = w2 at *
        clear h
        replace fa := fa.below b (Nat.le_refl _)
        replace fb := fb.below b (Nat.le_refl _)
        replace fc := fc.below b (Nat.le_refl _)
        replace b0 := below_trans b0 b
        clear b
        clear hC
        have hC := num_cmp _ _ _ _ _ _ _ _ w2 fb.num fc.num (by omega) (by omega)
        obtain ⟨y, hy⟩ : ∃ y, cmpI (val 4294967296 xb) (val 4294967296 xc) = y := ⟨_, rfl⟩
        rw [hy] at hC
        have hy1 : y ≤ 0 := by rw [← hy]; exact cmpI_le HBC.out
        clear hy
        have h := Lib.hid (hC)
        go_wp2_with fail
        refine (h.out).mono ?_
        rintro e w' ⟨rfl, q, rfl⟩
        have b := below_drewN (Below.refl w2.heap.size w2) q
        generalize w2.drewN q = w3 at *
        clear h
        replace fa := fa.below b (Nat.le_refl _)
        replace fb := fb.below b (Nat.le_refl _)
        replace fc := fc.below b (Nat.le_refl _)
        replace b0 := below_trans b0 b
        clear b
        clear hC
        have hC := num_cmp _ _ _ _ _ _ _ _ w3 fb.num fa.num (by omega) (by omega)
        rw [cmpI_eq HAB.out.symm] at hC
        have h := Lib.hid (hC)
        go_wp2_with fail
        refine (h.out).mono ?_
        rintro e w' ⟨rfl, q, rfl⟩
        have b := below_drewN (Below.refl w3.heap.size w3) q
        generalize w3.drewN q = w4 at *
        clear h
        replace fa := fa.below b (Nat.le_refl _)
        replace fb := fb.below b (Nat.le_refl _)
        replace fc := fc.below b (Nat.le_refl _)
        replace b0 := below_trans b0 b
        clear b
        clear hC
        have hC := num_cmp _ _ _ _ _ _ _ _ w4 fa.num fc.num (by omega) (by omega)
        obtain ⟨z, hz⟩ : ∃ z, cmpI (val 4294967296 xa) (val 4294967296 xc) = z := ⟨_, rfl⟩
        rw [hz] at hC
        have hz1 : z ≤ 0 := by rw [← hz]; exact cmpI_le (Int.le_trans (Int.le_of_eq HAB.out) HBC.out)
        clear hz
        have h := Lib.hid (hC)
        go_wp2_with fail
        refine (h.out).mono ?_
        rintro e w' ⟨rfl, q, rfl⟩
        have b := below_drewN (Below.refl w4.heap.size w4) q
        generalize w4.drewN q = w5 at *
        clear h
        replace fa := fa.below b (Nat.le_refl _)
        replace fb := fb.below b (Nat.le_refl _)
        replace fc := fc.below b (Nat.le_refl _)
        replace b0 := below_trans b0 b
        clear b
        clear hC
        have h := Lib.hid (num_norm _ _ _ _ w5 fa.num (by omega))
        go_wp2_with fail
        refine (h.out).mono ?_
        rintro e w6 ⟨adx, nx, cx, rfl, fx, b⟩
        clear h
        replace fa := fa.below b (Nat.le_refl _)
        replace fb := fb.below b (Nat.le_refl _)
        replace fc := fc.below b (Nat.le_refl _)
        replace b0 := below_trans b0 b
        clear b
        have Zx := Lib.hid (Za.out)
        have Tx := Lib.hid (Ta.out)
        have lx : nx ≤ na := fx.len_le (na) Tx.out
        have h := Lib.hid (num_norm _ _ _ _ w6 fb.num (by omega))
        go_wp2_with fail
        refine (h.out).mono ?_
        rintro e w7 ⟨ady, ny, cy, rfl, fy, b⟩
        clear h
        replace fa := fa.below b (Nat.le_refl _)
        replace fb := fb.below b (Nat.le_refl _)
        replace fc := fc.below b (Nat.le_refl _)
        replace fx := fx.below b (Nat.le_refl _)
        replace b0 := below_trans b0 b
        clear b
        have Zy := Lib.hid (Zb.out)
        have Ty := Lib.hid (Tb.out)
        have ly : ny ≤ nb := fy.len_le (nb) Ty.out
        have h := Lib.hid (num_same_true _ _ _ _ _ _ _ _ w7 fx fy (HAB.out) (by omega) (by omega))
        go_wp2_with fail
        refine (h.out).mono ?_
        rintro e w' ⟨rfl, q, rfl⟩
        have b := below_drewN (Below.refl w7.heap.size w7) q
        generalize w7.drewN q = w8 at *
        clear h
        replace fa := fa.below b (Nat.le_refl _)
        replace fb := fb.below b (Nat.le_refl _)
        replace fc := fc.below b (Nat.le_refl _)
        replace fx := fx.below b (Nat.le_refl _)
        replace fy := fy.below b (Nat.le_refl _)
        replace b0 := below_trans b0 b
        clear b
        clear fx fy
        clear Zx Tx Zy Ty
        have hS := num_sub _ _ _ _ _ _ _ _ w8 fa.num fb.num (by omega) (by omega)
        rw [decide_eq_true (Int.le_of_eq HAB.out.symm)] at hS
        have h := Lib.hid (hS)
        go_wp2_with fail
        refine (h.out).mono ?_
        rintro e w9 ⟨adk, nk, ck, rfl, fk, b⟩
        clear h
        replace fa := fa.below b (Nat.le_refl _)
        replace fb := fb.below b (Nat.le_refl _)
        replace fc := fc.below b (Nat.le_refl _)
        replace b0 := below_trans b0 b
        clear b
        clear hS
        clear fk
        have h := Lib.hid (num_add _ _ _ _ _ _ _ _ w9 fa.num fc.num (by omega) (by omega))
        go_wp2_with fail
        refine (h.out).mono ?_
        rintro e w10 ⟨adx, nx, cx, rfl, fx, b⟩
        clear h
        replace fa := fa.below b (Nat.le_refl _)
        replace fb := fb.below b (Nat.le_refl _)
        replace fc := fc.below b (Nat.le_refl _)
        replace b0 := below_trans b0 b
        clear b
        have Zx := Lib.hid (Int.add_nonneg Za.out Zc.out)
        have Tx := Lib.hid (pow_add_lt _ _ _ _ Ta.out Tc.out)
        have lx : nx ≤ (na + nc + 1) := fx.len_le ((na + nc + 1)) Tx.out
        have h := Lib.hid (num_add _ _ _ _ _ _ _ _ w10 fb.num fc.num (by omega) (by omega))
        go_wp2_with fail
        refine (h.out).mono ?_
        rintro e w11 ⟨ady, ny, cy, rfl, fy, b⟩
        clear h
        replace fa := fa.below b (Nat.le_refl _)
        replace fb := fb.below b (Nat.le_refl _)
        replace fc := fc.below b (Nat.le_refl _)
        replace fx := fx.below b (Nat.le_refl _)
        replace b0 := below_trans b0 b
        clear b
        have Zy := Lib.hid (Int.add_nonneg Zb.out Zc.out)
        have Ty := Lib.hid (pow_add_lt _ _ _ _ Tb.out Tc.out)
        have ly : ny ≤ (nb + nc + 1) := fy.len_le ((nb + nc + 1)) Ty.out
        have hC := num_cmp _ _ _ _ _ _ _ _ w11 (fx.num Zx.out) (fy.num Zy.out) (by omega) (by omega)
        rw [cmpI_eq (by rw [HAB.out])] at hC
        have h := Lib.hid (hC)
        go_wp2_with fail
        refine (h.out).mono ?_
        rintro e w' ⟨rfl, q, rfl⟩
        have b := below_drewN (Below.refl w11.heap.size w11) q
        generalize w11.drewN q = w12 at *
        clear h
        replace fa := fa.below b (Nat.le_refl _)
        replace fb := fb.below b (Nat.le_refl _)
        replace fc := fc.below b (Nat.le_refl _)
        replace fx := fx.below b (Nat.le_refl _)
        replace fy := fy.below b (Nat.le_refl _)
        replace b0 := below_trans b0 b
        clear b
        clear hC
        clear fx fy
        clear Zx Tx Zy Ty
        have h := Lib.hid (num_mul _ _ _ _ _ _ _ _ w12 fa.num fc.num (by omega) (by omega))
        go_wp2_with fail
        refine (h.out).mono ?_
        rintro e w13 ⟨adx, nx, cx, rfl, fx, b⟩
        clear h
        replace fa := fa.below b (Nat.le_refl _)
        replace fb := fb.below b (Nat.le_refl _)
        replace fc := fc.below b (Nat.le_refl _)
        replace b0 := below_trans b0 b
        clear b
        have Zx := Lib.hid (Int.mul_nonneg Za.out Zc.out)
        have Tx := Lib.hid (pow_mul_lt _ _ _ _ Za.out Zc.out Ta.out Tc.out)
        have lx : nx ≤ (na + nc) := fx.len_le ((na + nc)) Tx.out
        have h := Lib.hid (num_mul _ _ _ _ _ _ _ _ w13 fb.num fc.num (by omega) (by omega))
        go_wp2_with fail
        refine (h.out).mono ?_
        rintro e w14 ⟨ady, ny, cy, rfl, fy, b⟩
        clear h
        replace fa := fa.below b (Nat.le_refl _)
        replace fb := fb.below b (Nat.le_refl _)
        replace fc := fc.below b (Nat.le_refl _)
        replace fx := fx.below b (Nat.le_refl _)
        replace b0 := below_trans b0 b
        clear b
        have Zy := Lib.hid (Int.mul_nonneg Zb.out Zc.out)
        have Ty := Lib.hid (pow_mul_lt _ _ _ _ Zb.out Zc.out Tb.out Tc.out)
        have ly : ny ≤ (nb + nc) := fy.len_le ((nb + nc)) Ty.out
        have hC := num_cmp _ _ _ _ _ _ _ _ w14 (fx.num Zx.out) (fy.num Zy.out) (by omega) (by omega)
        rw [cmpI_eq (by rw [HAB.out])] at hC
        have h := Lib.hid (hC)
        go_wp2_with fail
        refine (h.out).mono ?_
        rintro e w' ⟨rfl, q, rfl⟩
        have b := below_drewN (Below.refl w14.heap.size w14) q
        generalize w14.drewN q = w15 at *
        clear h
        replace fa := fa.below b (Nat.le_refl _)
        replace fb := fb.below b (Nat.le_refl _)
        replace fc := fc.below b (Nat.le_refl _)
        replace fx := fx.below b (Nat.le_refl _)
        replace fy := fy.below b (Nat.le_refl _)
        replace b0 := below_trans b0 b
        clear b
        clear hC
        clear fx fy
        clear Zx Tx Zy Ty
        go_wp2_with fail
        go_ret
        exact ⟨rfl, b0⟩
    · have HAB := Lib.hid hab
      clear hab
      by_cases hcz : (val 4294967296 xc) = 0
      · have HCZ := Lib.hid hcz
        clear hcz
        have hC := num_cmp _ _ _ _ _ _ _ _ w1 fa.num fb.num (by omega) (by omega)
        rw [cmpI_gt HAB.out] at hC
        have h := Lib.hid (hC)
        go_wp2_with fail
        refine (h.out).mono ?_
        rintro e w' ⟨rfl, q, rfl⟩
        have b := below_drewN (Below.refl w1.heap.size w1) q
        generalize w1.drewN q = w2 at *
        clear h
        replace fa := fa.below b (Nat.le_refl _)
        replace fb := fb.below b (Nat.le_refl _)
        replace fc := fc.below b (Nat.le_refl _)
        replace b0 := below_trans b0 b
        clear b
        clear hC
        have hC := num_cmp _ _ _ _ _ _ _ _ w2 fb.num fc.num (by omega) (by omega)
        have h := Lib.hid (hC)
        go_wp2_with fail
        refine (h.out).mono ?_
        rintro e w' ⟨rfl, q, rfl⟩
        have b := below_drewN (Below.refl w2.heap.size w2) q
        generalize w2.drewN q = w3 at *
        clear h
        replace fa := fa.below b (Nat.le_refl _)
        replace fb := fb.below b (Nat.le_refl _)
        replace fc := fc.below b (Nat.le_refl _)
        replace b0 := below_trans b0 b
        clear b
        clear hC
        have hC := num_cmp _ _ _ _ _ _ _ _ w3 fb.num fa.num (by omega) (by omega)
        rw [cmpI_lt HAB.out] at hC
        have h := Lib.hid (hC)
        go_wp2_with fail
        refine (h.out).mono ?_
        rintro e w' ⟨rfl, q, rfl⟩
        have b := below_drewN (Below.refl w3.heap.size w3) q
        generalize w3.drewN q = w4 at *
        clear h
        replace fa := fa.below b (Nat.le_refl _)
        replace fb := fb.below b (Nat.le_refl _)
        replace fc := fc.below b (Nat.le_refl _)
        replace b0 := below_trans b0 b
        clear b
        clear hC
        have h := Lib.hid (num_norm _ _ _ _ w4 fa.num (by omega))
        go_wp2_with fail
        refine (h.out).mono ?_
        rintro e w5 ⟨adx, nx, cx, rfl, fx, b⟩
        clear h
        replace fa := fa.below b (Nat.le_refl _)
        replace fb := fb.below b (Nat.le_refl _)
        replace fc := fc.below b (Nat.le_refl _)
        replace b0 := below_trans b0 b
        clear b
        have Zx := Lib.hid (Za.out)
        have Tx := Lib.hid (Ta.out)
        have lx : nx ≤ na := fx.len_le (na) Tx.out
        have h := Lib.hid (num_norm _ _ _ _ w5 fb.num (by omega))
        go_wp2_with fail
        refine (h.out).mono ?_
        rintro e w6 ⟨ady, ny, cy, rfl, fy, b⟩
        clear h
        replace fa := fa.below b (Nat.le_refl _)
        replace fb := fb.below b (Nat.le_refl _)
        replace fc := fc.below b (Nat.le_refl _)
        replace fx := fx.below b (Nat.le_refl _)
        replace b0 := below_trans b0 b
        clear b
        have Zy := Lib.hid (Zb.out)
        have Ty := Lib.hid (Tb.out)
        have ly : ny ≤ nb := fy.len_le (nb) Ty.out
        have hS := num_same _ _ _ _ _ _ _ _ w6 fx fy Zx.out Zy.out (by omega) (by omega)
        rw [decide_eq_false (Int.ne_of_gt HAB.out)] at hS
        have h := Lib.hid (hS)
        go_wp2_with fail
        refine (h.out).mono ?_
        rintro e w' ⟨rfl, q, rfl⟩
        have b := below_drewN (Below.refl w6.heap.size w6) q
        generalize w6.drewN q = w7 at *
        clear h
        replace fa := fa.below b (Nat.le_refl _)
        replace fb := fb.below b (Nat.le_refl _)
        replace fc := fc.below b (Nat.le_refl _)
        replace fx := fx.below b (Nat.le_refl _)
        replace fy := fy.below b (Nat.le_refl _)
        replace b0 := below_trans b0 b
        clear b
        clear hS
        clear fx fy
        clear Zx Tx Zy Ty
        have hS := num_sub _ _ _ _ _ _ _ _ w7 fa.num fb.num (by omega) (by omega)
        rw [decide_eq_true (Int.le_of_lt HAB.out)] at hS
        have h := Lib.hid (hS)
        go_wp2_with fail
        refine (h.out).mono ?_
        rintro e w8 ⟨adk, nk, ck, rfl, fk, b⟩
        clear h
        replace fa := fa.below b (Nat.le_refl _)
        replace fb := fb.below b (Nat.le_refl _)
        replace fc := fc.below b (Nat.le_refl _)
        replace b0 := below_trans b0 b
        clear b
        clear hS
        clear fk
        have h := Lib.hid (num_add _ _ _ _ _ _ _ _ w8 fa.num fc.num (by omega) (by omega))
        go_wp2_with fail
        refine (h.out).mono ?_
        rintro e w9 ⟨adx, nx, cx, rfl, fx, b⟩
        clear h
        replace fa := fa.below b (Nat.le_refl _)
        replace fb := fb.below b (Nat.le_refl _)
        replace fc := fc.below b (Nat.le_refl _)
        replace b0 := below_trans b0 b
        clear b
        have Zx := Lib.hid (Int.add_nonneg Za.out Zc.out)
        have Tx := Lib.hid (pow_add_lt _ _ _ _ Ta.out Tc.out)
        have lx : nx ≤ (na + nc + 1) := fx.len_le ((na + nc + 1)) Tx.out
        have h := Lib.hid (num_add _ _ _ _ _ _ _ _ w9 fb.num fc.num (by omega) (by omega))
        go_wp2_with fail
        refine (h.out).mono ?_
        rintro e w10 ⟨ady, ny, cy, rfl, fy, b⟩
        clear h
        replace fa := fa.below b (Nat.le_refl _)
        replace fb := fb.below b (Nat.le_refl _)
        replace fc := fc.below b (Nat.le_refl _)
        replace fx := fx.below b (Nat.le_refl _)
        replace b0 := below_trans b0 b
        clear b
        have Zy := Lib.hid (Int.add_nonneg Zb.out Zc.out)
        have Ty := Lib.hid (pow_add_lt _ _ _ _ Tb.out Tc.out)
        have ly : ny ≤ (nb + nc + 1) := fy.len_le ((nb + nc + 1)) Ty.out
        have hC := num_cmp _ _ _ _ _ _ _ _ w10 (fx.num Zx.out) (fy.num Zy.out) (by omega) (by omega)
        rw [cmpI_gt (Int.add_lt_add_right HAB.out _)] at hC
        have h := Lib.hid (hC)
        go_wp2_with fail
        refine (h.out).mono ?_
        rintro e w' ⟨rfl, q, rfl⟩
        have b := below_drewN (Below.refl w10.heap.size w10) q
        generalize w10.drewN q = w11 at *
        clear h
        replace fa := fa.below b (Nat.le_refl _)
        replace fb := fb.below b (Nat.le_refl _)
        replace fc := fc.below b (Nat.le_refl _)
        replace fx := fx.below b (Nat.le_refl _)
        replace fy := fy.below b (Nat.le_refl _)
        replace b0 := below_trans b0 b
        clear b
        clear hC
        clear fx fy
        clear Zx Tx Zy Ty
        have h := Lib.hid (num_mul _ _ _ _ _ _ _ _ w11 fa.num fc.num (by omega) (by omega))
        go_wp2_with fail
        refine (h.out).mono ?_
        rintro e w12 ⟨adx, nx, cx, rfl, fx, b⟩
        clear h
        replace fa := fa.below b (Nat.le_refl _)
        replace fb := fb.below b (Nat.le_refl _)
        replace fc := fc.below b (Nat.le_refl _)
        replace b0 := below_trans b0 b
        clear b
        have Zx := Lib.hid (Int.mul_nonneg Za.out Zc.out)
        have Tx := Lib.hid (pow_mul_lt _ _ _ _ Za.out Zc.out Ta.out Tc.out)
        have lx : nx ≤ (na + nc) := fx.len_le ((na + nc)) Tx.out
        have h := Lib.hid (num_mul _ _ _ _ _ _ _ _ w12 fb.num fc.num (by omega) (by omega))
        go_wp2_with fail
        refine (h.out).mono ?_
        rintro e w13 ⟨ady, ny, cy, rfl, fy, b⟩
        clear h
        replace fa := fa.below b (Nat.le_refl _)
        replace fb := fb.below b (Nat.le_refl _)
        replace fc := fc.below b (Nat.le_refl _)
        replace fx := fx.below b (Nat.le_refl _)
        replace b0 := below_trans b0 b
        clear b
        have Zy := Lib.hid (Int.mul_nonneg Zb.out Zc.out)
        have Ty := Lib.hid (pow_mul_lt _ _ _ _ Zb.out Zc.out Tb.out Tc.out)
        have ly : ny ≤ (nb + nc) := fy.len_le ((nb + nc)) Ty.out
        have hC := num_cmp _ _ _ _ _ _ _ _ w13 (fx.num Zx.out) (fy.num Zy.out) (by omega) (by omega)
        rw [cmpI_eq (by rw [HCZ.out, Int.mul_zero, Int.mul_zero])] at hC
        have h := Lib.hid (hC)
        go_wp2_with fail
        refine (h.out).mono ?_
        rintro e w' ⟨rfl, q, rfl⟩
        have b := below_drewN (Below.refl w13.heap.size w13) q
        generalize w13.drewN q = w14 at *
        clear h
        replace fa := fa.below b (Nat.le_refl _)
        replace fb := fb.below b (Nat.le_refl _)
        replace fc := fc.below b (Nat.le_refl _)
        replace fx := fx.below b (Nat.le_refl _)
        replace fy := fy.below b (Nat.le_refl _)
        replace b0 := below_trans b0 b
        clear b
        clear hC
        clear fx fy
        clear Zx Tx Zy Ty
        have hM := num_norm _ _ _ _ w14 fc.num (by omega)
        rw [HCZ.out] at hM
        have h := Lib.hid (hM)
        go_wp2_with fail
        refine (h.out).mono ?_
        rintro e w15 ⟨adx, nx, cx, rfl, fx, b⟩
        clear h
        replace fa := fa.below b (Nat.le_refl _)
        replace fb := fb.below b (Nat.le_refl _)
        replace fc := fc.below b (Nat.le_refl _)
        replace b0 := below_trans b0 b
        clear b
        obtain rfl := fx.zero
        clear hM
        clear fx
        go_wp2_with fail
        go_ret
        exact ⟨rfl, b0⟩
      · have HCZ := Lib.hid (show 0 < (val 4294967296 xc) by have := Zc.out; omega)
        clear hcz
        have hC := num_cmp _ _ _ _ _ _ _ _ w1 fa.num fb.num (by omega) (by omega)
        rw [cmpI_gt HAB.out] at hC
        have h := Lib.hid (hC)
        go_wp2_with fail
        refine (h.out).mono ?_
        rintro e w' ⟨rfl, q, rfl⟩
        have b := below_drewN (Below.refl w1.heap.size w1) q
        generalize w1.drewN q = w2 at *
        clear h
        replace fa := fa.below b (Nat.le_refl _)
        replace fb := fb.below b (Nat.le_refl _)
        replace fc := fc.below b (Nat.le_refl _)
        replace b0 := below_trans b0 b
        clear b
        clear hC
        have hC := num_cmp _ _ _ _ _ _ _ _ w2 fb.num fc.num (by omega) (by omega)
        have h := Lib.hid (hC)
        go_wp2_with fail
        refine (h.out).mono ?_
        rintro e w' ⟨rfl, q, rfl⟩
        have b := below_drewN (Below.refl w2.heap.size w2) q
        generalize w2.drewN q = w3 at *
        clear h
        replace fa := fa.below b (Nat.le_refl _)
        replace fb := fb.below b (Nat.le_refl _)
        replace fc := fc.below b (Nat.le_refl _)
        replace b0 := below_trans b0 b
        clear b
        clear hC
        have hC := num_cmp _ _ _ _ _ _ _ _ w3 fb.num fa.num (by omega) (by omega)
        rw [cmpI_lt HAB.out] at hC
        have h := Lib.hid (hC)
        go_wp2_with fail
        refine (h.out).mono ?_
        rintro e w' ⟨rfl, q, rfl⟩
        have b := below_drewN (Below.refl w3.heap.size w3) q
        generalize w3.drewN q = w4 at *
        clear h
        replace fa := fa.below b (Nat.le_refl _)
        replace fb := fb.below b (Nat.le_refl _)
        replace fc := fc.below b (Nat.le_refl _)
        replace b0 := below_trans b0 b
        clear b
        clear hC
        have h := Lib.hid (num_norm _ _ _ _ w4 fa.num (by omega))
        go_wp2_with fail
        refine (h.out).mono ?_
        rintro e w5 ⟨adx, nx, cx, rfl, fx, b⟩
        clear h
        replace fa := fa.below b (Nat.le_refl _)
        replace fb := fb.below b (Nat.le_refl _)
        replace fc := fc.below b (Nat.le_refl _)
        replace b0 := below_trans b0 b
        clear b
        have Zx := Lib.hid (Za.out)
        have Tx := Lib.hid (Ta.out)
        have lx : nx ≤ na := fx.len_le (na) Tx.out
        have h := Lib.hid (num_norm _ _ _ _ w5 fb.num (by omega))
        go_wp2_with fail
        refine (h.out).mono ?_
        rintro e w6 ⟨ady, ny, cy, rfl, fy, b⟩
        clear h
        replace fa := fa.below b (Nat.le_refl _)
        replace fb := fb.below b (Nat.le_refl _)
        replace fc := fc.below b (Nat.le_refl _)
        replace fx := fx.below b (Nat.le_refl _)
        replace b0 := below_trans b0 b
        clear b
        have Zy := Lib.hid (Zb.out)
        have Ty := Lib.hid (Tb.out)
        have ly : ny ≤ nb := fy.len_le (nb) Ty.out
        have hS := num_same _ _ _ _ _ _ _ _ w6 fx fy Zx.out Zy.out (by omega) (by omega)
        rw [decide_eq_false (Int.ne_of_gt HAB.out)] at hS
        have h := Lib.hid (hS)
        go_wp2_with fail
        refine (h.out).mono ?_
        rintro e w' ⟨rfl, q, rfl⟩
        have b := below_drewN (Below.refl w6.heap.size w6) q
        generalize w6.drewN q = w7 at *
        clear h
        replace fa := fa.below b (Nat.le_refl _)
        replace fb := fb.below b (Nat.le_refl _)
        replace fc := fc.below b (Nat.le_refl _)
        replace fx := fx.below b (Nat.le_refl _)
        replace fy := fy.below b (Nat.le_refl _)
        replace b0 := below_trans b0 b
        clear b
        clear hS
        clear fx fy
        clear Zx Tx Zy Ty
        have hS := num_sub _ _ _ _ _ _ _ _ w7 fa.num fb.num (by omega) (by omega)
        rw [decide_eq_true (Int.le_of_lt HAB.out)] at hS
        have h := Lib.hid (hS)
        go_wp2_with fail
        refine (h.out).mono ?_
        rintro e w8 ⟨adk, nk, ck, rfl, fk, b⟩
        clear h
        replace fa := fa.below b (Nat.le_refl _)
        replace fb := fb.below b (Nat.le_refl _)
        replace fc := fc.below b (Nat.le_refl _)
        replace b0 := below_trans b0 b
        clear b
        clear hS
        clear fk
        have h := Lib.hid (num_add _ _ _ _ _ _ _ _ w8 fa.num fc.num (by omega) (by omega))
        go_wp2_with fail
        refine (h.out).mono ?_
        rintro e w9 ⟨adx, nx, cx, rfl, fx, b⟩
        clear h
        replace fa := fa.below b (Nat.le_refl _)
        replace fb := fb.below b (Nat.le_refl _)
        replace fc := fc.below b (Nat.le_refl _)
        replace b0 := below_trans b0 b
        clear b
        have Zx := Lib.hid (Int.add_nonneg Za.out Zc.out)
        have Tx := Lib.hid (pow_add_lt _ _ _ _ Ta.out Tc.out)
        have lx : nx ≤ (na + nc + 1) := fx.len_le ((na + nc + 1)) Tx.out
        have h := Lib.hid (num_add _ _ _ _ _ _ _ _ w9 fb.num fc.num (by omega) (by omega))
        go_wp2_with fail
        refine (h.out).mono ?_
        rintro e w10 ⟨ady, ny, cy, rfl, fy, b⟩
        clear h
        replace fa := fa.below b (Nat.le_refl _)
        replace fb := fb.below b (Nat.le_refl _)
        replace fc := fc.below b (Nat.le_refl _)
        replace fx := fx.below b (Nat.le_refl _)
        replace b0 := below_trans b0 b
        clear b
        have Zy := Lib.hid (Int.add_nonneg Zb.out Zc.out)
        have Ty := Lib.hid (pow_add_lt _ _ _ _ Tb.out Tc.out)
        have ly : ny ≤ (nb + nc + 1) := fy.len_le ((nb + nc + 1)) Ty.out
        have hC := num_cmp _ _ _ _ _ _ _ _ w10 (fx.num Zx.out) (fy.num Zy.out) (by omega) (by omega)
        rw [cmpI_gt (Int.add_lt_add_right HAB.out _)] at hC
        have h := Lib.hid (hC)
        go_wp2_with fail
        refine (h.out).mono ?_
        rintro e w' ⟨rfl, q, rfl⟩
        have b := below_drewN (Below.refl w10.heap.size w10) q
        generalize w10.drewN q = w11 at *
        clear h
        replace fa := fa.below b (Nat.le_refl _)
        replace fb := fb.below b (Nat.le_refl _)
        replace fc := fc.below b (Nat.le_refl _)
        replace fx := fx.below b (Nat.le_refl _)
        replace fy := fy.below b (Nat.le_refl _)
        replace b0 := below_trans b0 b
        clear b
        clear hC
        clear fx fy
        clear Zx Tx Zy Ty
        have h := Lib.hid (num_mul _ _ _ _ _ _ _ _ w11 fa.num fc.num (by omega) (by omega))
        go_wp2_with fail
        refine (h.out).mono ?_
        rintro e w12 ⟨adx, nx, cx, rfl, fx, b⟩
        clear h
        replace fa := fa.below b (Nat.le_refl _)
        replace fb := fb.below b (Nat.le_refl _)
        replace fc := fc.below b (Nat.le_refl _)
        replace b0 := below_trans b0 b
        clear b
        have Zx := Lib.hid (Int.mul_nonneg Za.out Zc.out)
        have Tx := Lib.hid (pow_mul_lt _ _ _ _ Za.out Zc.out Ta.out Tc.out)
        have lx : nx ≤ (na + nc) := fx.len_le ((na + nc)) Tx.out
        have h := Lib.hid (num_mul _ _ _ _ _ _ _ _ w12 fb.num fc.num (by omega) (by omega))
        go_wp2_with fail
        refine (h.out).mono ?_
        rintro e w13 ⟨ady, ny, cy, rfl, fy, b⟩
        clear h
        replace fa := fa.below b (Nat.le_refl _)
        replace fb := fb.below b (Nat.le_refl _)
        replace fc := fc.below b (Nat.le_refl _)
        replace fx := fx.below b (Nat.le_refl _)
        replace b0 := below_trans b0 b
        clear b
        have Zy := Lib.hid (Int.mul_nonneg Zb.out Zc.out)
        have Ty := Lib.hid (pow_mul_lt _ _ _ _ Zb.out Zc.out Tb.out Tc.out)
        have ly : ny ≤ (nb + nc) := fy.len_le ((nb + nc)) Ty.out
        have hC := num_cmp _ _ _ _ _ _ _ _ w13 (fx.num Zx.out) (fy.num Zy.out) (by omega) (by omega)
        rw [cmpI_gt (Int.mul_lt_mul_of_pos_right HAB.out HCZ.out)] at hC
        have h := Lib.hid (hC)
        go_wp2_with fail
        refine (h.out).mono ?_
        rintro e w' ⟨rfl, q, rfl⟩
        have b := below_drewN (Below.refl w13.heap.size w13) q
        generalize w13.drewN q = w14 at *
        clear h
        replace fa := fa.below b (Nat.le_refl _)
        replace fb := fb.below b (Nat.le_refl _)
        replace fc := fc.below b (Nat.le_refl _)
        replace fx := fx.below b (Nat.le_refl _)
        replace fy := fy.below b (Nat.le_refl _)
        replace b0 := below_trans b0 b
        clear b
        clear hC
        clear fx fy
        clear Zx Tx Zy Ty
        go_wp2_with fail
        go_ret
        exact ⟨rfl, b0⟩
  · go_wp2
    go_ret
    exact ⟨rfl, b0⟩
end Go.Proofs.Ytemllpbpnndgeaa
