/- The law QuotGreatest: its walk. -/
import Derived.Deep.DeepCutAuto
import Derived.Test.YtgnophflogmmaaaDoorPk2
import Derived.Test.YtgnophflogmmaaaDoorPk4
import Derived.Test.YtgnophflogmmaaaDoorPk7
import Derived.Test.YtgnophflogmmaaaDoorPk12
import Derived.Test.YtgnophflogmmaaaDoorPk13
set_option linter.unusedVariables false
set_option linter.unusedSimpArgs false
/- The law QuotGreatest: its walk out of the contracts of what it calls. (Printed by law.py.) -/
namespace Go.Proofs.YtgnophflogmmaaaDoor
open Go.RowKit


set_option maxRecDepth 20000 in
set_option maxHeartbeats 4000000 in
theorem walk_QuotGreatest (w : World) (hT : Tab32 w) (ada : Option Addr) (na ca : Nat) (xa : List Int) (hnca : na ≤ ca) (hna : na * 4 ≤ 140737488351232) (hra : Rds w .u32 ada na xa) (dxa : Dig 4294967296 xa) (adb : Option Addr) (nb cb : Nat) (xb : List Int) (hncb : nb ≤ cb) (hnb : nb * 4 ≤ 140737488351232) (hrb : Rds w .u32 adb nb xb) (dxb : Dig 4294967296 xb) (adc : Option Addr) (nc cc : Nat) (xc : List Int) (hncc : nc ≤ cc) (hnc : nc * 4 ≤ 140737488351232) (hrc : Rds w .u32 adc nc xc) (dxc : Dig 4294967296 xc) :
    Calls Tryd.prog 3 #[.slice ada na ca, .slice adb nb cb, .slice adc nc cc] w (LawTrue w) := by
  have b0 := Below.refl w.heap.size w
  have fa : Arg w ada na ca xa := ⟨hnca, hra, dxa⟩
  clear hra dxa
  have fb : Arg w adb nb cb xb := ⟨hncb, hrb, dxb⟩
  clear hrb dxb
  have fc : Arg w adc nc cc xc := ⟨hncc, hrc, dxc⟩
  clear hrc dxc
  go_enter Tryd.func3, Tryd.ntmps3
  have h := Lib.hid (num_twin ada na ca xa w fa (by omega))
  go_wp2_with fail
  with_reducible refine (h.out).mono ?_
  rintro e w1 ⟨ta, rfl, ga, b⟩
  clear h
  replace fa := fa.below b (Nat.le_refl _)
  replace fb := fb.below b (Nat.le_refl _)
  replace fc := fc.below b (Nat.le_refl _)
  replace hT := hT.below b (Nat.le_refl _)
  replace b0 := below_trans b0 b
  clear b
  have h := Lib.hid (num_twin adb nb cb xb w1 fb (by omega))
  go_wp2_with fail
  with_reducible refine (h.out).mono ?_
  rintro e w2 ⟨tb, rfl, gb, b⟩
  clear h
  replace fa := fa.below b (Nat.le_refl _)
  replace fb := fb.below b (Nat.le_refl _)
  replace fc := fc.below b (Nat.le_refl _)
  replace hT := hT.below b (Nat.le_refl _)
  replace ga := ga.below b (Nat.le_refl _)
  replace b0 := below_trans b0 b
  clear b
  obtain ⟨A, HA⟩ : ∃ A, Hid (val 4294967296 xa = A) := ⟨_, rfl⟩
  have ma := fa.num
  have ZA := fa.nonneg
  have t := fa.lt
  rw [HA.out] at ma ZA t
  have TA := Lib.hid t
  clear t
  have ka := ga.num
  rw [HA.out] at ka
  clear ga
  clear fa
  obtain ⟨B, HB⟩ : ∃ B, Hid (val 4294967296 xb = B) := ⟨_, rfl⟩
  have mb := fb.num
  have ZB := fb.nonneg
  have t := fb.lt
  rw [HB.out] at mb ZB t
  have TB := Lib.hid t
  clear t
  have kb := gb.num
  rw [HB.out] at kb
  clear gb
  clear fb
  obtain ⟨C, HC⟩ : ∃ C, Hid (val 4294967296 xc = C) := ⟨_, rfl⟩
  have mc := fc.num
  have ZC := fc.nonneg
  have t := fc.lt
  rw [HC.out] at mc ZC t
  have TC := Lib.hid t
  clear t
  clear fc
  have h := Lib.hid (num_gcd _ _ _ _ _ _ _ _ w2 ka kb (by omega) (by omega))
  go_wp2_with fail
  with_reducible refine (h.out).mono ?_
  rintro e w3 ⟨gd, gn, gc, rfl, fg, b⟩
  clear h
  replace hT := hT.below b (Nat.le_refl _)
  replace ma := ma.below b (Nat.le_refl _)
  replace ka := ka.below b (Nat.le_refl _)
  replace mb := mb.below b (Nat.le_refl _)
  replace kb := kb.below b (Nat.le_refl _)
  replace mc := mc.below b (Nat.le_refl _)
  replace b0 := below_trans b0 b
  clear b
  clear ka kb
  by_cases h0 : A = 0 ∧ B = 0
  · obtain ⟨h1, h2⟩ := h0
    have hm := ma
    have hm2 := mb
    rw [h1] at hm
    rw [h2] at hm2
    rw [h1, h2, gcdI_zero 0 (by omega)] at fg
    obtain rfl := fg.zero
    have M1 := Lib.hid hm
    have M2 := Lib.hid hm2
    clear h1 h2 ma mb hm hm2 fg
    have hN := num_len _ _ _ _ w3 M1.out (by omega)
    rw [bitsOf_zero] at hN
    have h := Lib.hid (hN)
    go_wp2_with fail
    with_reducible refine (h.out).mono ?_
    rintro e w' ⟨rfl, rfl⟩
    clear h
    clear hN
    have hN := num_len _ _ _ _ w3 M2.out (by omega)
    rw [bitsOf_zero] at hN
    have h := Lib.hid (hN)
    go_wp2_with fail
    with_reducible refine (h.out).mono ?_
    rintro e w' ⟨rfl, rfl⟩
    clear h
    clear hN
    have h := Lib.hid (lives2_calls w3 hT)
    go_wp2_with fail
    with_reducible refine (h.out).mono ?_
    rintro e w6 ⟨rfl, b⟩
    clear h
    replace hT := hT.below b (Nat.le_refl _)
    replace mc := mc.below b (Nat.le_refl _)
    replace b0 := below_trans b0 b
    clear b
    go_wp2_with fail
    go_ret
    exact ⟨rfl, b0⟩
  · have hor : A ≠ 0 ∨ B ≠ 0 := by omega
    have hG0 := gcdI_pos A B ZA ZB hor
    obtain ⟨hd1, hd2⟩ := gcdI_dvd A B ZA ZB
    have hone := gcdI_one A B ZA ZB hor
    have hmul := gcdI_mul A B C ZA ZB ZC
    have hcom := gcdI_comm B A
    have hgr := fun (h : 0 < C) => gcdI_greatest A B C ZA ZB h
    have hlt := gcdI_lt A B ZA ZB _ _ TA.out TB.out (Int.pow_pos (by omega)) (Int.pow_pos (by omega))
    have hgn : gn ≤ 35184372087808 := by
      rcases hlt with h | h
      · have := fg.len_le na h; omega
      · have := fg.len_le nb h; omega
    clear hlt
    obtain ⟨G, hG⟩ : ∃ G, gcdI A B = G := ⟨_, rfl⟩
    rw [hG] at hG0 hd1 hd2 hone hmul hcom hgr fg
    clear hG
    have hp0 : 0 ≤ A / G := Int.ediv_nonneg ZA (by omega)
    have hq0 : 0 ≤ B / G := Int.ediv_nonneg ZB (by omega)
    have hGC0 : 0 ≤ G * C := Int.mul_nonneg (by omega) ZC
    have hAC0 : 0 ≤ A * C := Int.mul_nonneg ZA ZC
    have hBC0 : 0 ≤ B * C := Int.mul_nonneg ZB ZC
    have PL := Lib.hid (Int.lt_of_le_of_lt (Int.ediv_le_self G ZA) TA.out)
    have QL := Lib.hid (Int.lt_of_le_of_lt (Int.ediv_le_self G ZB) TB.out)
    have R1 := Lib.hid (show remI A G = 0 by rw [remI_eq _ _ (by omega)]; exact hd1)
    have R2 := Lib.hid (show remI B G = 0 by rw [remI_eq _ _ (by omega)]; exact hd2)
    have ONE := Lib.hid hone
    have MUL := Lib.hid hmul
    have COM := Lib.hid hcom
    have GR := Lib.hid hgr
    clear hd1 hd2 hone hmul hcom hgr
    go_upto_region 2 with (fail)
    go_cut [36] (fun s36 wx => s36 = .bool false ∧ w3 = wx)
    case first =>
      by_cases hA : A = 0
      · have hm := ma
        have hbp := bitsOf_pos B (by omega)
        obtain ⟨bb, hbb⟩ : ∃ bb, bitsOf B = bb := ⟨_, rfl⟩
        have HBB := Lib.hid hbb
        rw [hbb] at hbp
        have hbf : (bb == 0) = false := by simp; omega
        clear hbb
        rw [hA] at hm
        have M1 := Lib.hid hm
        clear hm hA hor
        have hN := num_len _ _ _ _ w3 M1.out (by omega)
        rw [bitsOf_zero] at hN
        have HN := Lib.hid hN
        clear hN
        go_wp2_with fail
        with_reducible refine (HN.out).mono ?_
        rintro e w' ⟨rfl, rfl⟩
        clear HN
        have hN := num_len _ _ _ _ w3 mb (by omega)
        rw [HBB.out] at hN
        have HN := Lib.hid hN
        clear hN
        go_wp2_with fail
        with_reducible refine (HN.out).mono ?_
        rintro e w' ⟨rfl, rfl⟩
        clear HN
        go_wp2_with fail
        go_meet
        case rel => exact ⟨rfl, rfl⟩
      · have hAp : 0 < A := by omega
        have hbp := bitsOf_pos A hAp
        obtain ⟨bb, hbb⟩ : ∃ bb, bitsOf A = bb := ⟨_, rfl⟩
        have HBB := Lib.hid hbb
        rw [hbb] at hbp
        have hbf : (bb == 0) = false := by simp; omega
        clear hbb
        clear hA hor
        have hN := num_len _ _ _ _ w3 ma (by omega)
        rw [HBB.out] at hN
        have HN := Lib.hid hN
        clear hN
        go_wp2_with fail
        with_reducible refine (HN.out).mono ?_
        rintro e w' ⟨rfl, rfl⟩
        clear HN
        go_wp2_with fail
        go_meet
        case rel => exact ⟨rfl, rfl⟩
    case rest =>
      obtain ⟨rfl, rfl⟩ := hcut
      clear hor
      have hD := num_div _ _ _ _ _ _ _ _ w3 ma (fg.num (by omega)) (by omega) (by omega)
      rw [R1.out, show decide (G ≠ 0) = true from decide_eq_true (by omega)] at hD
      have h := Lib.hid (hD)
      go_wp2_with fail
      with_reducible refine (h.out).mono ?_
      rintro e w4 ⟨pd, pn, pc, rd, rn, rc, rfl, fp, fr, b⟩
      clear h
      replace hT := hT.below b (Nat.le_refl _)
      replace ma := ma.below b (Nat.le_refl _)
      replace mb := mb.below b (Nat.le_refl _)
      replace mc := mc.below b (Nat.le_refl _)
      replace fg := fg.below b (Nat.le_refl _)
      replace b0 := below_trans b0 b
      clear b
      clear hD
      have hpn : pn ≤ na := fp.len_le na PL.out
      obtain rfl := fr.zero
      have hD := num_div _ _ _ _ _ _ _ _ w4 mb (fg.num (by omega)) (by omega) (by omega)
      rw [R2.out, show decide (G ≠ 0) = true from decide_eq_true (by omega)] at hD
      have h := Lib.hid (hD)
      go_wp2_with fail
      with_reducible refine (h.out).mono ?_
      rintro e w5 ⟨qd, qn, qc, sd, sn, sc, rfl, fq, fs, b⟩
      clear h
      replace hT := hT.below b (Nat.le_refl _)
      replace ma := ma.below b (Nat.le_refl _)
      replace mb := mb.below b (Nat.le_refl _)
      replace mc := mc.below b (Nat.le_refl _)
      replace fg := fg.below b (Nat.le_refl _)
      replace fp := fp.below b (Nat.le_refl _)
      replace fr := fr.below b (Nat.le_refl _)
      replace b0 := below_trans b0 b
      clear b
      clear hD
      have hqn : qn ≤ nb := fq.len_le nb QL.out
      obtain rfl := fs.zero
      have hN := num_len _ _ _ _ w5 (fr.num (by omega)) (by omega)
      rw [bitsOf_zero] at hN
      have h := Lib.hid (hN)
      go_wp2_with fail
      with_reducible refine (h.out).mono ?_
      rintro e w' ⟨rfl, rfl⟩
      clear h
      clear hN
      have hN := num_len _ _ _ _ w5 (fs.num (by omega)) (by omega)
      rw [bitsOf_zero] at hN
      have h := Lib.hid (hN)
      go_wp2_with fail
      with_reducible refine (h.out).mono ?_
      rintro e w' ⟨rfl, rfl⟩
      clear h
      clear hN
      clear fr fs
      have h := Lib.hid (tight_calls _ _ _ _ w5 fg (by omega))
      go_wp2_with fail
      with_reducible refine (h.out).mono ?_
      rintro e w' ⟨rfl, rfl⟩
      clear h
      have hE := num_gcd _ _ _ _ _ _ _ _ w5 (fp.num hp0) (fq.num hq0) (by omega) (by omega)
      rw [ONE.out] at hE
      have h := Lib.hid (hE)
      go_wp2_with fail
      with_reducible refine (h.out).mono ?_
      rintro e w9 ⟨od, on, oc, rfl, fo, b⟩
      clear h
      replace hT := hT.below b (Nat.le_refl _)
      replace ma := ma.below b (Nat.le_refl _)
      replace mb := mb.below b (Nat.le_refl _)
      replace mc := mc.below b (Nat.le_refl _)
      replace fg := fg.below b (Nat.le_refl _)
      replace fp := fp.below b (Nat.le_refl _)
      replace fq := fq.below b (Nat.le_refl _)
      replace b0 := below_trans b0 b
      clear b
      clear hE
      have hon : on ≤ 1 := fo.len_le 1 (by decide)
      clear fp fq
      have x1 := num_cells w9 w9.heap.size rfl [1] 1 rfl (dig_lit _ (by decide)) #[.int .u32 1] rfl 1 (by decide)
      have bl := below_lit w9 #[.int .u32 1] 32
      have x2 := (fo.num (by omega)).below bl (Nat.le_refl _)
      have hC := num_cmp _ _ _ _ _ _ _ _ _ x2 x1 (by omega) (by omega)
      rw [cmpI_eq rfl] at hC
      have h := Lib.hid (hC)
      go_wp2_with fail
      with_reducible refine (h.out).mono ?_
      rintro e w' ⟨rfl, q, rfl⟩
      have b := below_drewN bl q
      replace b : Below w9.heap.size w9 _ := b
      generalize World.drewN (w9.alloc (.cells #[.int .u32 1] 32)) q = w10 at *
      clear h
      replace hT := hT.below b (Nat.le_refl _)
      replace ma := ma.below b (Nat.le_refl _)
      replace mb := mb.below b (Nat.le_refl _)
      replace mc := mc.below b (Nat.le_refl _)
      replace fg := fg.below b (Nat.le_refl _)
      replace fo := fo.below b (Nat.le_refl _)
      replace b0 := below_trans b0 b
      clear b
      clear hC x1 x2 bl
      clear fo
      have h := Lib.hid (num_mul _ _ _ _ _ _ _ _ w10 ma mc (by omega) (by omega))
      go_wp2_with fail
      with_reducible refine (h.out).mono ?_
      rintro e w11 ⟨xd, xn, xc, rfl, fx, b⟩
      clear h
      replace hT := hT.below b (Nat.le_refl _)
      replace ma := ma.below b (Nat.le_refl _)
      replace mb := mb.below b (Nat.le_refl _)
      replace mc := mc.below b (Nat.le_refl _)
      replace fg := fg.below b (Nat.le_refl _)
      replace b0 := below_trans b0 b
      clear b
      have hxn : xn ≤ na + nc := fx.len_le (na + nc) (pow_mul_lt _ _ _ _ ZA ZC TA.out TC.out)
      have h := Lib.hid (num_mul _ _ _ _ _ _ _ _ w11 mb mc (by omega) (by omega))
      go_wp2_with fail
      with_reducible refine (h.out).mono ?_
      rintro e w12 ⟨yd, yn, yc, rfl, fy, b⟩
      clear h
      replace hT := hT.below b (Nat.le_refl _)
      replace ma := ma.below b (Nat.le_refl _)
      replace mb := mb.below b (Nat.le_refl _)
      replace mc := mc.below b (Nat.le_refl _)
      replace fg := fg.below b (Nat.le_refl _)
      replace fx := fx.below b (Nat.le_refl _)
      replace b0 := below_trans b0 b
      clear b
      have hyn : yn ≤ nb + nc := fy.len_le (nb + nc) (pow_mul_lt _ _ _ _ ZB ZC TB.out TC.out)
      have hE := num_gcd _ _ _ _ _ _ _ _ w12 (fx.num hAC0) (fy.num hBC0) (by omega) (by omega)
      rw [MUL.out] at hE
      have h := Lib.hid (hE)
      go_wp2_with fail
      with_reducible refine (h.out).mono ?_
      rintro e w13 ⟨ed, en, ec, rfl, fe, b⟩
      clear h
      replace hT := hT.below b (Nat.le_refl _)
      replace ma := ma.below b (Nat.le_refl _)
      replace mb := mb.below b (Nat.le_refl _)
      replace mc := mc.below b (Nat.le_refl _)
      replace fg := fg.below b (Nat.le_refl _)
      replace fx := fx.below b (Nat.le_refl _)
      replace fy := fy.below b (Nat.le_refl _)
      replace b0 := below_trans b0 b
      clear b
      clear hE
      clear fx fy
      have h := Lib.hid (num_mul _ _ _ _ _ _ _ _ w13 (fg.num (by omega)) mc (by omega) (by omega))
      go_wp2_with fail
      with_reducible refine (h.out).mono ?_
      rintro e w14 ⟨hd, hn, hc, rfl, fh, b⟩
      clear h
      replace hT := hT.below b (Nat.le_refl _)
      replace ma := ma.below b (Nat.le_refl _)
      replace mb := mb.below b (Nat.le_refl _)
      replace mc := mc.below b (Nat.le_refl _)
      replace fg := fg.below b (Nat.le_refl _)
      replace fe := fe.below b (Nat.le_refl _)
      replace b0 := below_trans b0 b
      clear b
      have hGG : Hid (G < 4294967296 ^ gn) := Lib.hid (dg_lt_of_len 4294967296 (by omega) gn G (by omega) (by rw [fg.rds.len]; exact Nat.le_refl _))
      have hLT := Lib.hid (pow_mul_lt _ _ _ _ (by omega) ZC hGG.out TC.out)
      have hhn : hn ≤ gn + nc := fh.len_le (gn + nc) hLT.out
      have hen : en ≤ gn + nc := fe.len_le (gn + nc) hLT.out
      have hC := num_cmp _ _ _ _ _ _ _ _ w14 (fe.num hGC0) (fh.num hGC0) (by omega) (by omega)
      rw [cmpI_eq rfl] at hC
      have h := Lib.hid (hC)
      go_wp2_with fail
      with_reducible refine (h.out).mono ?_
      rintro e w' ⟨rfl, q, rfl⟩
      have b := below_drewN (Below.refl w14.heap.size w14) q
      replace b : Below w14.heap.size w14 _ := b
      generalize World.drewN w14 q = w15 at *
      clear h
      replace hT := hT.below b (Nat.le_refl _)
      replace ma := ma.below b (Nat.le_refl _)
      replace mb := mb.below b (Nat.le_refl _)
      replace mc := mc.below b (Nat.le_refl _)
      replace fg := fg.below b (Nat.le_refl _)
      replace fe := fe.below b (Nat.le_refl _)
      replace fh := fh.below b (Nat.le_refl _)
      replace b0 := below_trans b0 b
      clear b
      clear hC
      clear fe fh
      have hE := num_gcd _ _ _ _ _ _ _ _ w15 mb ma (by omega) (by omega)
      rw [COM.out] at hE
      have h := Lib.hid (hE)
      go_wp2_with fail
      with_reducible refine (h.out).mono ?_
      rintro e w16 ⟨ed, en2, ec, rfl, fe, b⟩
      clear h
      replace hT := hT.below b (Nat.le_refl _)
      replace ma := ma.below b (Nat.le_refl _)
      replace mb := mb.below b (Nat.le_refl _)
      replace mc := mc.below b (Nat.le_refl _)
      replace fg := fg.below b (Nat.le_refl _)
      replace b0 := below_trans b0 b
      clear b
      clear hE
      have hen2 : en2 ≤ gn := fe.len_le gn hGG.out
      have hC := num_cmp _ _ _ _ _ _ _ _ w16 (fe.num (by omega)) (fg.num (by omega)) (by omega) (by omega)
      rw [cmpI_eq rfl] at hC
      have h := Lib.hid (hC)
      go_wp2_with fail
      with_reducible refine (h.out).mono ?_
      rintro e w' ⟨rfl, q, rfl⟩
      have b := below_drewN (Below.refl w16.heap.size w16) q
      replace b : Below w16.heap.size w16 _ := b
      generalize World.drewN w16 q = w17 at *
      clear h
      replace hT := hT.below b (Nat.le_refl _)
      replace ma := ma.below b (Nat.le_refl _)
      replace mb := mb.below b (Nat.le_refl _)
      replace mc := mc.below b (Nat.le_refl _)
      replace fg := fg.below b (Nat.le_refl _)
      replace fe := fe.below b (Nat.le_refl _)
      replace b0 := below_trans b0 b
      clear b
      clear hC
      clear fe
      obtain ⟨oc1, HOC⟩ : ∃ oc1, Hid (decide (C ≠ 0) = oc1) := ⟨_, rfl⟩
      have hD := num_div _ _ _ _ _ _ _ _ w17 ma mc (by omega) (by omega)
      rw [HOC.out] at hD
      have h := Lib.hid (hD)
      go_wp2_with fail
      with_reducible refine (h.out).mono ?_
      rintro e w18 ⟨xd, xn2, xc, td, tn, tcc, rfl, fx, ft, b⟩
      clear h
      replace hT := hT.below b (Nat.le_refl _)
      replace ma := ma.below b (Nat.le_refl _)
      replace mb := mb.below b (Nat.le_refl _)
      replace mc := mc.below b (Nat.le_refl _)
      replace fg := fg.below b (Nat.le_refl _)
      replace b0 := below_trans b0 b
      clear b
      clear hD fx
      have ht0 := remI_nonneg A C ZA
      have hD := num_div _ _ _ _ _ _ _ _ w18 mb mc (by omega) (by omega)
      rw [HOC.out] at hD
      have h := Lib.hid (hD)
      go_wp2_with fail
      with_reducible refine (h.out).mono ?_
      rintro e w19 ⟨xd, xn2, xc, ud, un, ucc, rfl, fx, fu, b⟩
      clear h
      replace hT := hT.below b (Nat.le_refl _)
      replace ma := ma.below b (Nat.le_refl _)
      replace mb := mb.below b (Nat.le_refl _)
      replace mc := mc.below b (Nat.le_refl _)
      replace fg := fg.below b (Nat.le_refl _)
      replace ft := ft.below b (Nat.le_refl _)
      replace b0 := below_trans b0 b
      clear b
      clear hD fx
      have hu0 := remI_nonneg B C ZB
      generalize hT1 : remI A C = T1 at *
      generalize hT2 : remI B C = T2 at *
      have HT1 := Lib.hid hT1
      have HT2 := Lib.hid hT2
      clear hT1 hT2
      cases oc1
      · skip
        have h := Lib.hid (lives2_calls w19 hT)
        go_wp2_with fail
        with_reducible refine (h.out).mono ?_
        rintro e w20 ⟨rfl, b⟩
        clear h
        replace hT := hT.below b (Nat.le_refl _)
        replace ma := ma.below b (Nat.le_refl _)
        replace mb := mb.below b (Nat.le_refl _)
        replace mc := mc.below b (Nat.le_refl _)
        replace fg := fg.below b (Nat.le_refl _)
        replace ft := ft.below b (Nat.le_refl _)
        replace fu := fu.below b (Nat.le_refl _)
        replace b0 := below_trans b0 b
        clear b
        go_wp2_with fail
        go_ret
        exact ⟨rfl, b0⟩
      · have hCp : 0 < C := by have := of_decide_eq_true HOC.out; omega
        have htn : tn ≤ nc := ft.len_le nc (by have := remI_lt A C hCp; rw [HT1.out] at this; have := TC.out; omega)
        have hun : un ≤ nc := fu.len_le nc (by have := remI_lt B C hCp; rw [HT2.out] at this; have := TC.out; omega)
        by_cases hz1 : T1 = 0
        · have hm := ft.num ht0
          rw [hz1] at hm
          have M1 := Lib.hid hm
          clear hm
          clear ft
          have hN := num_len _ _ _ _ w19 M1.out (by omega)
          rw [bitsOf_zero] at hN
          have HZ1 := Lib.hid hz1
          clear hz1
          have h := Lib.hid (hN)
          go_wp2_with fail
          with_reducible refine (h.out).mono ?_
          rintro e w' ⟨rfl, rfl⟩
          clear h
          clear hN
          by_cases hz2 : T2 = 0
          · have hm := fu.num hu0
            rw [hz2] at hm
            have M2 := Lib.hid hm
            clear hm
            clear fu
            have hN := num_len _ _ _ _ w19 M2.out (by omega)
            rw [bitsOf_zero] at hN
            have HZ2 := Lib.hid hz2
            clear hz2
            have h := Lib.hid (hN)
            go_wp2_with fail
            with_reducible refine (h.out).mono ?_
            rintro e w' ⟨rfl, rfl⟩
            clear h
            clear hN
            have hgz := GR.out hCp (by have := HT1.out; rw [remI_eq _ _ (by omega)] at this; rw [this]; exact HZ1.out) (by have := HT2.out; rw [remI_eq _ _ (by omega)] at this; rw [this]; exact HZ2.out)
            have hD := num_div _ _ _ _ _ _ _ _ w19 (fg.num (by omega)) mc (by omega) (by omega)
            rw [show remI G C = 0 by rw [remI_eq _ _ (by omega)]; exact hgz, show decide (C ≠ 0) = true from decide_eq_true (by omega)] at hD
            clear hgz
            have h := Lib.hid (hD)
            go_wp2_with fail
            with_reducible refine (h.out).mono ?_
            rintro e w22 ⟨xd, xn3, xc, vd, vn, vc, rfl, fx, fv, b⟩
            clear h
            replace hT := hT.below b (Nat.le_refl _)
            replace ma := ma.below b (Nat.le_refl _)
            replace mb := mb.below b (Nat.le_refl _)
            replace mc := mc.below b (Nat.le_refl _)
            replace fg := fg.below b (Nat.le_refl _)
            replace b0 := below_trans b0 b
            clear b
            clear hD fx
            obtain rfl := fv.zero
            have hN := num_len _ _ _ _ w22 (fv.num (by omega)) (by omega)
            rw [bitsOf_zero] at hN
            have h := Lib.hid (hN)
            go_wp2_with fail
            with_reducible refine (h.out).mono ?_
            rintro e w' ⟨rfl, rfl⟩
            clear h
            clear hN
            clear fv
            have h := Lib.hid (lives2_calls w22 hT)
            go_wp2_with fail
            with_reducible refine (h.out).mono ?_
            rintro e w24 ⟨rfl, b⟩
            clear h
            replace hT := hT.below b (Nat.le_refl _)
            replace ma := ma.below b (Nat.le_refl _)
            replace mb := mb.below b (Nat.le_refl _)
            replace mc := mc.below b (Nat.le_refl _)
            replace fg := fg.below b (Nat.le_refl _)
            replace b0 := below_trans b0 b
            clear b
            go_wp2_with fail
            go_ret
            exact ⟨rfl, b0⟩
          · have hup : 0 < T2 := by omega
            have hbp := bitsOf_pos T2 hup
            obtain ⟨bb, hbb⟩ : ∃ bb, bitsOf T2 = bb := ⟨_, rfl⟩
            have HBB := Lib.hid hbb
            rw [hbb] at hbp
            have hbf : (bb == 0) = false := by simp; omega
            clear hbb
            clear hz2
            have hN := num_len _ _ _ _ w19 (fu.num hu0) (by omega)
            rw [HBB.out] at hN
            have h := Lib.hid (hN)
            go_wp2_with fail
            with_reducible refine (h.out).mono ?_
            rintro e w' ⟨rfl, rfl⟩
            clear h
            clear hN
            have h := Lib.hid (lives2_calls w19 hT)
            go_wp2_with fail
            with_reducible refine (h.out).mono ?_
            rintro e w22 ⟨rfl, b⟩
            clear h
            replace hT := hT.below b (Nat.le_refl _)
            replace ma := ma.below b (Nat.le_refl _)
            replace mb := mb.below b (Nat.le_refl _)
            replace mc := mc.below b (Nat.le_refl _)
            replace fg := fg.below b (Nat.le_refl _)
            replace fu := fu.below b (Nat.le_refl _)
            replace b0 := below_trans b0 b
            clear b
            go_wp2_with fail
            go_ret
            exact ⟨rfl, b0⟩
        · have hup : 0 < T1 := by omega
          have hbp := bitsOf_pos T1 hup
          obtain ⟨bb, hbb⟩ : ∃ bb, bitsOf T1 = bb := ⟨_, rfl⟩
          have HBB := Lib.hid hbb
          rw [hbb] at hbp
          have hbf : (bb == 0) = false := by simp; omega
          clear hbb
          clear hz1
          have hN := num_len _ _ _ _ w19 (ft.num ht0) (by omega)
          rw [HBB.out] at hN
          have h := Lib.hid (hN)
          go_wp2_with fail
          with_reducible refine (h.out).mono ?_
          rintro e w' ⟨rfl, rfl⟩
          clear h
          clear hN
          have h := Lib.hid (lives2_calls w19 hT)
          go_wp2_with fail
          with_reducible refine (h.out).mono ?_
          rintro e w21 ⟨rfl, b⟩
          clear h
          replace hT := hT.below b (Nat.le_refl _)
          replace ma := ma.below b (Nat.le_refl _)
          replace mb := mb.below b (Nat.le_refl _)
          replace mc := mc.below b (Nat.le_refl _)
          replace fg := fg.below b (Nat.le_refl _)
          replace ft := ft.below b (Nat.le_refl _)
          replace fu := fu.below b (Nat.le_refl _)
          replace b0 := below_trans b0 b
          clear b
          go_wp2_with fail
          go_ret
          exact ⟨rfl, b0⟩
end Go.Proofs.YtgnophflogmmaaaDoor
