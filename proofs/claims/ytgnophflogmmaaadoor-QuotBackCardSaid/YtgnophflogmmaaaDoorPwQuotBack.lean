/- The law QuotBack: its walk. -/
import Derived.Test.YtgnophflogmmaaaDoorPk2
import Derived.Test.YtgnophflogmmaaaDoorPk4
import Derived.Test.YtgnophflogmmaaaDoorPk7
import Derived.Test.YtgnophflogmmaaaDoorPk12
import Derived.Test.YtgnophflogmmaaaDoorPk13
set_option linter.unusedVariables false
set_option linter.unusedSimpArgs false
/- The law QuotBack: its walk out of the contracts of what it calls. (Printed by law.py.) -/
namespace Go.Proofs.YtgnophflogmmaaaDoor
open Go.RowKit


set_option maxRecDepth 20000 in
set_option maxHeartbeats 4000000 in
theorem walk_QuotBack (w : World) (hT : Tab32 w) (ada : Option Addr) (na ca : Nat) (xa : List Int) (hnca : na ≤ ca) (hna : na * 4 ≤ 140737488351232) (hra : Rds w .u32 ada na xa) (dxa : Dig 4294967296 xa) (adb : Option Addr) (nb cb : Nat) (xb : List Int) (hncb : nb ≤ cb) (hnb : nb * 4 ≤ 140737488351232) (hrb : Rds w .u32 adb nb xb) (dxb : Dig 4294967296 xb) (adc : Option Addr) (nc cc : Nat) (xc : List Int) (hncc : nc ≤ cc) (hnc : nc * 4 ≤ 140737488351232) (hrc : Rds w .u32 adc nc xc) (dxc : Dig 4294967296 xc) :
    Calls Tryd.prog 5 #[.slice ada na ca, .slice adb nb cb, .slice adc nc cc] w (LawTrue w) := by
  have b0 := Below.refl w.heap.size w
  have fa : Arg w ada na ca xa := ⟨hnca, hra, dxa⟩
  clear hra dxa
  have fb : Arg w adb nb cb xb := ⟨hncb, hrb, dxb⟩
  clear hrb dxb
  have fc : Arg w adc nc cc xc := ⟨hncc, hrc, dxc⟩
  clear hrc dxc
  go_enter Tryd.func5, Tryd.ntmps5
  have h := Lib.hid (num_twin ada na ca xa w fa (by omega))
  go_wp2_with fail
  with_reducible refine (h.out).mono ?_
  rintro e w1 ⟨ta, rfl, ga, b⟩
  clear h
  replace fa := fa.below b (Nat.le_refl _)
  replace fb := fb.below b (Nat.le_refl _)
  replace fc := fc.below b (Nat.le_refl _)
  replace hT := hT.below b (Nat.le_refl _)
  replace b0 := below_trans b0 b
  clear b
  have h := Lib.hid (num_twin adb nb cb xb w1 fb (by omega))
  go_wp2_with fail
  with_reducible refine (h.out).mono ?_
  rintro e w2 ⟨tb, rfl, gb, b⟩
  clear h
  replace fa := fa.below b (Nat.le_refl _)
  replace fb := fb.below b (Nat.le_refl _)
  replace fc := fc.below b (Nat.le_refl _)
  replace hT := hT.below b (Nat.le_refl _)
  replace ga := ga.below b (Nat.le_refl _)
  replace b0 := below_trans b0 b
  clear b
  obtain ⟨A, HA⟩ : ∃ A, Hid (val 4294967296 xa = A) := ⟨_, rfl⟩
  have ma := fa.num
  have ZA := fa.nonneg
  have t := fa.lt
  rw [HA.out] at ma ZA t
  have TA := Lib.hid t
  clear t
  have ka := ga.num
  rw [HA.out] at ka
  clear ga
  clear fa
  obtain ⟨B, HB⟩ : ∃ B, Hid (val 4294967296 xb = B) := ⟨_, rfl⟩
  have mb := fb.num
  have ZB := fb.nonneg
  have t := fb.lt
  rw [HB.out] at mb ZB t
  have TB := Lib.hid t
  clear t
  have kb := gb.num
  rw [HB.out] at kb
  clear gb
  clear fb
  obtain ⟨C, HC⟩ : ∃ C, Hid (val 4294967296 xc = C) := ⟨_, rfl⟩
  have mc := fc.num
  have ZC := fc.nonneg
  have t := fc.lt
  rw [HC.out] at mc ZC t
  have TC := Lib.hid t
  clear t
  clear fc
  by_cases hU : B = 0
  · subst hU
    have hD := num_div _ _ _ _ _ _ _ _ w2 ka kb (by omega) (by omega)
    rw [Int.ediv_zero, show remI A 0 = 0 from if_pos rfl, show decide ((0 : Int) ≠ 0) = false from rfl] at hD
    have h := Lib.hid (hD)
    go_wp2_with fail
    with_reducible refine (h.out).mono ?_
    rintro e w3 ⟨qd, qn, qc, rd, rn, rc, rfl, fq, fr, b⟩
    clear h
    replace hT := hT.below b (Nat.le_refl _)
    replace ma := ma.below b (Nat.le_refl _)
    replace ka := ka.below b (Nat.le_refl _)
    replace mb := mb.below b (Nat.le_refl _)
    replace kb := kb.below b (Nat.le_refl _)
    replace mc := mc.below b (Nat.le_refl _)
    replace b0 := below_trans b0 b
    clear b
    clear hD
    obtain rfl := fq.zero
    obtain rfl := fr.zero
    clear fq fr
    have hN := num_len _ _ _ _ w3 mb (by omega)
    rw [bitsOf_zero] at hN
    have h := Lib.hid (hN)
    go_wp2_with fail
    with_reducible refine (h.out).mono ?_
    rintro e w' ⟨rfl, rfl⟩
    clear h
    clear hN
    have h := Lib.hid (lives2_calls w3 hT)
    go_wp2_with fail
    with_reducible refine (h.out).mono ?_
    rintro e w5 ⟨rfl, b⟩
    clear h
    replace hT := hT.below b (Nat.le_refl _)
    replace ma := ma.below b (Nat.le_refl _)
    replace ka := ka.below b (Nat.le_refl _)
    replace mb := mb.below b (Nat.le_refl _)
    replace kb := kb.below b (Nat.le_refl _)
    replace mc := mc.below b (Nat.le_refl _)
    replace b0 := below_trans b0 b
    clear b
    go_wp2_with fail
    go_ret
    exact ⟨rfl, b0⟩
  · have hUp : 0 < B := by omega
    have hq0 : 0 ≤ A / B := Int.ediv_nonneg ZA (by omega)
    have hr0 := remI_nonneg A B ZA
    have hr1 := remI_lt A B hUp
    have hs := back_sum A B hUp
    have HQL := Lib.hid (Int.lt_of_le_of_lt (Int.ediv_le_self B ZA) TA.out)
    obtain ⟨ag1, ag2⟩ := back_again C B (remI A B) hUp hr0 hr1
    have alt := back_lt C B (remI A B) nc nb ZC ZB TC.out TB.out hr1
    have hbp := bitsOf_pos B hUp
    obtain ⟨bb, hbb⟩ : ∃ bb, bitsOf B = bb := ⟨_, rfl⟩
    rw [hbb] at hbp
    have HBB := Lib.hid hbb
    clear hbb
    have hD := num_div _ _ _ _ _ _ _ _ w2 ka kb (by omega) (by omega)
    rw [show decide (B ≠ 0) = true from decide_eq_true hU] at hD
    have hmul0 : 0 ≤ A / B * B := Int.mul_nonneg hq0 (by omega)
    have hcb0 : 0 ≤ C * B := Int.mul_nonneg ZC (by omega)
    generalize A / B = Q at *
    generalize remI A B = R at *
    have HS := Lib.hid hs
    have HAG1 := Lib.hid ag1
    have HAG2 := Lib.hid ag2
    have HAL := Lib.hid alt
    clear hs ag1 ag2 alt hU
    have HMLT := Lib.hid (show Q * B < 4294967296 ^ na by have := HS.out; have := TA.out; omega)
    have h := Lib.hid (hD)
    go_wp2_with fail
    with_reducible refine (h.out).mono ?_
    rintro e w3 ⟨qd, qn, qc, rd, rn, rc, rfl, fq, fr, b⟩
    clear h
    replace hT := hT.below b (Nat.le_refl _)
    replace ma := ma.below b (Nat.le_refl _)
    replace ka := ka.below b (Nat.le_refl _)
    replace mb := mb.below b (Nat.le_refl _)
    replace kb := kb.below b (Nat.le_refl _)
    replace mc := mc.below b (Nat.le_refl _)
    replace b0 := below_trans b0 b
    clear b
    clear hD
    have hqn : qn ≤ na := fq.len_le na HQL.out
    have hrn : rn ≤ nb := fr.len_le nb (Int.lt_trans hr1 TB.out)
    have hN := num_len _ _ _ _ w3 mb (by omega)
    rw [HBB.out] at hN
    have h := Lib.hid (hN)
    go_wp2_with fail
    with_reducible refine (h.out).mono ?_
    rintro e w' ⟨rfl, rfl⟩
    clear h
    clear hN
    have h := Lib.hid (num_mul _ _ _ _ _ _ _ _ w3 (fq.num hq0) mb (by omega) (by omega))
    go_wp2_with fail
    with_reducible refine (h.out).mono ?_
    rintro e w5 ⟨pd, pn, pc, rfl, fp, b⟩
    clear h
    replace hT := hT.below b (Nat.le_refl _)
    replace ma := ma.below b (Nat.le_refl _)
    replace ka := ka.below b (Nat.le_refl _)
    replace mb := mb.below b (Nat.le_refl _)
    replace kb := kb.below b (Nat.le_refl _)
    replace mc := mc.below b (Nat.le_refl _)
    replace fq := fq.below b (Nat.le_refl _)
    replace fr := fr.below b (Nat.le_refl _)
    replace b0 := below_trans b0 b
    clear b
    have hpn : pn ≤ na := fp.len_le na HMLT.out
    have hA := num_add _ _ _ _ _ _ _ _ w5 (fp.num hmul0) (fr.num hr0) (by omega) (by omega)
    rw [HS.out] at hA
    have h := Lib.hid (hA)
    go_wp2_with fail
    with_reducible refine (h.out).mono ?_
    rintro e w6 ⟨sd, sn, sc, rfl, fs, b⟩
    clear h
    replace hT := hT.below b (Nat.le_refl _)
    replace ma := ma.below b (Nat.le_refl _)
    replace ka := ka.below b (Nat.le_refl _)
    replace mb := mb.below b (Nat.le_refl _)
    replace kb := kb.below b (Nat.le_refl _)
    replace mc := mc.below b (Nat.le_refl _)
    replace fq := fq.below b (Nat.le_refl _)
    replace fr := fr.below b (Nat.le_refl _)
    replace fp := fp.below b (Nat.le_refl _)
    replace b0 := below_trans b0 b
    clear b
    clear hA
    have hsn : sn ≤ na := fs.len_le na TA.out
    clear fp
    have hC := num_cmp _ _ _ _ _ _ _ _ w6 (fs.num ZA) ma (by omega) (by omega)
    rw [cmpI_eq rfl] at hC
    have h := Lib.hid (hC)
    go_wp2_with fail
    with_reducible refine (h.out).mono ?_
    rintro e w' ⟨rfl, q, rfl⟩
    have b := below_drewN (Below.refl w6.heap.size w6) q
    replace b : Below w6.heap.size w6 _ := b
    generalize World.drewN w6 q = w7 at *
    clear h
    replace hT := hT.below b (Nat.le_refl _)
    replace ma := ma.below b (Nat.le_refl _)
    replace ka := ka.below b (Nat.le_refl _)
    replace mb := mb.below b (Nat.le_refl _)
    replace kb := kb.below b (Nat.le_refl _)
    replace mc := mc.below b (Nat.le_refl _)
    replace fq := fq.below b (Nat.le_refl _)
    replace fr := fr.below b (Nat.le_refl _)
    replace fs := fs.below b (Nat.le_refl _)
    replace b0 := below_trans b0 b
    clear b
    clear hC
    clear fs
    have hC := num_cmp _ _ _ _ _ _ _ _ w7 (fr.num hr0) mb (by omega) (by omega)
    rw [cmpI_lt hr1] at hC
    have h := Lib.hid (hC)
    go_wp2_with fail
    with_reducible refine (h.out).mono ?_
    rintro e w' ⟨rfl, q, rfl⟩
    have b := below_drewN (Below.refl w7.heap.size w7) q
    replace b : Below w7.heap.size w7 _ := b
    generalize World.drewN w7 q = w8 at *
    clear h
    replace hT := hT.below b (Nat.le_refl _)
    replace ma := ma.below b (Nat.le_refl _)
    replace ka := ka.below b (Nat.le_refl _)
    replace mb := mb.below b (Nat.le_refl _)
    replace kb := kb.below b (Nat.le_refl _)
    replace mc := mc.below b (Nat.le_refl _)
    replace fq := fq.below b (Nat.le_refl _)
    replace fr := fr.below b (Nat.le_refl _)
    replace b0 := below_trans b0 b
    clear b
    clear hC
    have h := Lib.hid (tight_calls _ _ _ _ w8 fq (by omega))
    go_wp2_with fail
    with_reducible refine (h.out).mono ?_
    rintro e w' ⟨rfl, rfl⟩
    clear h
    have h := Lib.hid (tight_calls _ _ _ _ w8 fr (by omega))
    go_wp2_with fail
    with_reducible refine (h.out).mono ?_
    rintro e w' ⟨rfl, rfl⟩
    clear h
    have h := Lib.hid (num_mul _ _ _ _ _ _ _ _ w8 mc mb (by omega) (by omega))
    go_wp2_with fail
    with_reducible refine (h.out).mono ?_
    rintro e w11 ⟨pd, pn, pc, rfl, fp, b⟩
    clear h
    replace hT := hT.below b (Nat.le_refl _)
    replace ma := ma.below b (Nat.le_refl _)
    replace ka := ka.below b (Nat.le_refl _)
    replace mb := mb.below b (Nat.le_refl _)
    replace kb := kb.below b (Nat.le_refl _)
    replace mc := mc.below b (Nat.le_refl _)
    replace fq := fq.below b (Nat.le_refl _)
    replace fr := fr.below b (Nat.le_refl _)
    replace b0 := below_trans b0 b
    clear b
    have hpn2 : pn ≤ nc + nb := fp.len_le (nc + nb) (pow_mul_lt _ _ _ _ ZC ZB TC.out TB.out)
    have h := Lib.hid (num_add _ _ _ _ _ _ _ _ w11 (fp.num hcb0) (fr.num hr0) (by omega) (by omega))
    go_wp2_with fail
    with_reducible refine (h.out).mono ?_
    rintro e w12 ⟨sd, sn, sc, rfl, fs, b⟩
    clear h
    replace hT := hT.below b (Nat.le_refl _)
    replace ma := ma.below b (Nat.le_refl _)
    replace ka := ka.below b (Nat.le_refl _)
    replace mb := mb.below b (Nat.le_refl _)
    replace kb := kb.below b (Nat.le_refl _)
    replace mc := mc.below b (Nat.le_refl _)
    replace fq := fq.below b (Nat.le_refl _)
    replace fr := fr.below b (Nat.le_refl _)
    replace fp := fp.below b (Nat.le_refl _)
    replace b0 := below_trans b0 b
    clear b
    have hsn2 : sn ≤ nc + nb := fs.len_le (nc + nb) HAL.out
    clear fp
    have hD := num_div _ _ _ _ _ _ _ _ w12 (fs.num (Int.add_nonneg hcb0 hr0)) mb (by omega) (by omega)
    rw [HAG1.out, HAG2.out, show decide (B ≠ 0) = true from decide_eq_true (by omega)] at hD
    have h := Lib.hid (hD)
    go_wp2_with fail
    with_reducible refine (h.out).mono ?_
    rintro e w13 ⟨xd, xn, xc, yd, yn, yc, rfl, fx, fy, b⟩
    clear h
    replace hT := hT.below b (Nat.le_refl _)
    replace ma := ma.below b (Nat.le_refl _)
    replace ka := ka.below b (Nat.le_refl _)
    replace mb := mb.below b (Nat.le_refl _)
    replace kb := kb.below b (Nat.le_refl _)
    replace mc := mc.below b (Nat.le_refl _)
    replace fq := fq.below b (Nat.le_refl _)
    replace fr := fr.below b (Nat.le_refl _)
    replace fs := fs.below b (Nat.le_refl _)
    replace b0 := below_trans b0 b
    clear b
    clear hD
    have hxn : xn ≤ nc := fx.len_le nc TC.out
    have hyn : yn ≤ nb := fy.len_le nb (Int.lt_trans hr1 TB.out)
    clear fs
    have hC := num_cmp _ _ _ _ _ _ _ _ w13 (fx.num ZC) mc (by omega) (by omega)
    rw [cmpI_eq rfl] at hC
    have h := Lib.hid (hC)
    go_wp2_with fail
    with_reducible refine (h.out).mono ?_
    rintro e w' ⟨rfl, q, rfl⟩
    have b := below_drewN (Below.refl w13.heap.size w13) q
    replace b : Below w13.heap.size w13 _ := b
    generalize World.drewN w13 q = w14 at *
    clear h
    replace hT := hT.below b (Nat.le_refl _)
    replace ma := ma.below b (Nat.le_refl _)
    replace ka := ka.below b (Nat.le_refl _)
    replace mb := mb.below b (Nat.le_refl _)
    replace kb := kb.below b (Nat.le_refl _)
    replace mc := mc.below b (Nat.le_refl _)
    replace fq := fq.below b (Nat.le_refl _)
    replace fr := fr.below b (Nat.le_refl _)
    replace fx := fx.below b (Nat.le_refl _)
    replace fy := fy.below b (Nat.le_refl _)
    replace b0 := below_trans b0 b
    clear b
    clear hC
    have hC := num_cmp _ _ _ _ _ _ _ _ w14 (fy.num hr0) (fr.num hr0) (by omega) (by omega)
    rw [cmpI_eq rfl] at hC
    have h := Lib.hid (hC)
    go_wp2_with fail
    with_reducible refine (h.out).mono ?_
    rintro e w' ⟨rfl, q, rfl⟩
    have b := below_drewN (Below.refl w14.heap.size w14) q
    replace b : Below w14.heap.size w14 _ := b
    generalize World.drewN w14 q = w15 at *
    clear h
    replace hT := hT.below b (Nat.le_refl _)
    replace ma := ma.below b (Nat.le_refl _)
    replace ka := ka.below b (Nat.le_refl _)
    replace mb := mb.below b (Nat.le_refl _)
    replace kb := kb.below b (Nat.le_refl _)
    replace mc := mc.below b (Nat.le_refl _)
    replace fq := fq.below b (Nat.le_refl _)
    replace fr := fr.below b (Nat.le_refl _)
    replace fx := fx.below b (Nat.le_refl _)
    replace fy := fy.below b (Nat.le_refl _)
    replace b0 := below_trans b0 b
    clear b
    clear hC
    have h := Lib.hid (lives2_calls w15 hT)
    go_wp2_with fail
    with_reducible refine (h.out).mono ?_
    rintro e w16 ⟨rfl, b⟩
    clear h
    replace hT := hT.below b (Nat.le_refl _)
    replace ma := ma.below b (Nat.le_refl _)
    replace ka := ka.below b (Nat.le_refl _)
    replace mb := mb.below b (Nat.le_refl _)
    replace kb := kb.below b (Nat.le_refl _)
    replace mc := mc.below b (Nat.le_refl _)
    replace fq := fq.below b (Nat.le_refl _)
    replace fr := fr.below b (Nat.le_refl _)
    replace fx := fx.below b (Nat.le_refl _)
    replace fy := fy.below b (Nat.le_refl _)
    replace b0 := below_trans b0 b
    clear b
    go_wp2_with fail
    go_ret
    exact ⟨rfl, b0⟩
end Go.Proofs.YtgnophflogmmaaaDoor
