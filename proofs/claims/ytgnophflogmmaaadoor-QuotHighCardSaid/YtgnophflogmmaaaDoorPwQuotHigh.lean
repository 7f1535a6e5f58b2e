/- The law QuotHigh: its walk. -/
import Derived.Deep.DeepCutAuto
import Derived.Test.YtgnophflogmmaaaDoorPk2
import Derived.Test.YtgnophflogmmaaaDoorPk4
import Derived.Test.YtgnophflogmmaaaDoorPk7
import Derived.Test.YtgnophflogmmaaaDoorPk8
import Derived.Test.YtgnophflogmmaaaDoorPk9
import Derived.Test.YtgnophflogmmaaaDoorPk12
import Derived.Test.YtgnophflogmmaaaDoorPk13
set_option linter.unusedVariables false
set_option linter.unusedSimpArgs false
/- The law QuotHigh: its walk out of the contracts of what it calls. (Printed by law.py.) -/
namespace Go.Proofs.YtgnophflogmmaaaDoor
open Go.RowKit


set_option maxRecDepth 20000 in
set_option maxHeartbeats 4000000 in
theorem walk_QuotHigh (w : World) (hT : Tab32 w) (ada : Option Addr) (na ca : Nat) (xa : List Int) (hnca : na ≤ ca) (hna : na * 4 ≤ 140737488351232) (hra : Rds w .u32 ada na xa) (dxa : Dig 4294967296 xa) (adb : Option Addr) (nb cb : Nat) (xb : List Int) (hncb : nb ≤ cb) (hnb : nb * 4 ≤ 140737488351232) (hrb : Rds w .u32 adb nb xb) (dxb : Dig 4294967296 xb) (x : Int) (hx : 0 ≤ x ∧ x < 256) (z : Int) (hz : 0 ≤ z ∧ z < 256) :
    Calls Tryd.prog 7 #[.slice ada na ca, .slice adb nb cb, .int .u8 x, .int .u8 z] w (LawTrue w) := by
  have b0 := Below.refl w.heap.size w
  have fa : Arg w ada na ca xa := ⟨hnca, hra, dxa⟩
  clear hra dxa
  have fb : Arg w adb nb cb xb := ⟨hncb, hrb, dxb⟩
  clear hrb dxb
  go_enter Tryd.func7, Tryd.ntmps7
  have h := Lib.hid (num_twin ada na ca xa w fa (by omega))
  go_wp2_with fail
  with_reducible refine (h.out).mono ?_
  rintro e w1 ⟨ta, rfl, ga, b⟩
  clear h
  replace fa := fa.below b (Nat.le_refl _)
  replace fb := fb.below b (Nat.le_refl _)
  replace hT := hT.below b (Nat.le_refl _)
  replace b0 := below_trans b0 b
  clear b
  have ka0 := ga.num
  clear ga
  obtain ⟨A, HA⟩ : ∃ A, Hid (val 4294967296 xa = A) := ⟨_, rfl⟩
  obtain ⟨B, HB⟩ : ∃ B, Hid (val 4294967296 xb = B) := ⟨_, rfl⟩
  rw [HA.out] at ka0
  have ma := fa.num
  have ZA := fa.nonneg
  have t := fa.lt
  rw [HA.out] at ma ZA t
  have TA := Lib.hid t
  clear t
  have mb := fb.num
  have ZB := fb.nonneg
  have t := fb.lt
  rw [HB.out] at mb ZB t
  have TB := Lib.hid t
  clear t
  clear fa
  obtain ⟨S, HS⟩ : ∃ S, Hid (strB (dg 256 A).reverse = S) := ⟨_, rfl⟩
  obtain ⟨SB, HSB⟩ : ∃ S, Hid (strB (dg 256 B).reverse = S) := ⟨_, rfl⟩
  obtain ⟨M, HM⟩ : ∃ S, Hid (strB (dg 256 (A * 256 + x)).reverse = S) := ⟨_, rfl⟩
  have DA : Dig 256 (dg 256 A).reverse := (dg_dig 256 (by omega) _).reverse
  have DB : Dig 256 (dg 256 B).reverse := (dg_dig 256 (by omega) _).reverse
  have lA : (dg 256 A).length ≤ 4 * na := dg_length_le 256 (by omega) _ _ (by have := TA.out; rw [← pow4] at this; exact this)
  have lB : (dg 256 B).length ≤ 4 * nb := dg_length_le 256 (by omega) _ _ (by have := TB.out; rw [← pow4] at this; exact this)
  have sA : S.size = (dg 256 A).length := by rw [← HS.out, strB_size, List.length_reverse]
  have HLESS := Lib.hid (less_byt A B ZA ZB)
  have HSZ := Lib.hid sA
  have sle : S.size ≤ 140737488351232 := by omega
  clear sA
  have hB := num_bytes _ _ _ _ w1 ka0 (by omega)
  rw [HS.out] at hB
  have h := Lib.hid (hB)
  go_wp2_with fail
  with_reducible refine (h.out).mono ?_
  rintro e w2 ⟨rfl, b⟩
  clear h
  replace fb := fb.below b (Nat.le_refl _)
  replace hT := hT.below b (Nat.le_refl _)
  replace ka0 := ka0.below b (Nat.le_refl _)
  replace ma := ma.below b (Nat.le_refl _)
  replace mb := mb.below b (Nat.le_refl _)
  replace b0 := below_trans b0 b
  clear b
  clear hB
  clear ka0
  have h := Lib.hid (num_twin adb nb cb xb w2 fb (by omega))
  go_wp2_with fail
  with_reducible refine (h.out).mono ?_
  rintro e w3 ⟨tb, rfl, gb, b⟩
  clear h
  replace fb := fb.below b (Nat.le_refl _)
  replace hT := hT.below b (Nat.le_refl _)
  replace ma := ma.below b (Nat.le_refl _)
  replace mb := mb.below b (Nat.le_refl _)
  replace b0 := below_trans b0 b
  clear b
  have kb0 := gb.num
  rw [HB.out] at kb0
  clear gb fb
  have hB := num_bytes _ _ _ _ w3 kb0 (by omega)
  rw [HSB.out] at hB
  have h := Lib.hid (hB)
  go_wp2_with fail
  with_reducible refine (h.out).mono ?_
  rintro e w4 ⟨rfl, b⟩
  clear h
  replace hT := hT.below b (Nat.le_refl _)
  replace ma := ma.below b (Nat.le_refl _)
  replace mb := mb.below b (Nat.le_refl _)
  replace kb0 := kb0.below b (Nat.le_refl _)
  replace b0 := below_trans b0 b
  clear b
  clear hB
  clear kb0
  have x1 := num_cells w4 w4.heap.size rfl [256] 1 rfl (dig_lit _ (by decide)) #[.int .u32 256] rfl 256 (by decide)
  have bl := below_lit w4 #[.int .u32 256] 32
  have x2 := ma.below bl (Nat.le_refl _)
  have h := Lib.hid (num_mul _ _ _ _ _ _ _ _ _ x2 x1 (by omega) (by omega))
  go_wp2_with fail
  with_reducible refine (h.out).mono ?_
  rintro e w5 ⟨pd, pn, pc, rfl, fp, b⟩
  replace b := below_trans bl b
  clear h
  replace hT := hT.below b (Nat.le_refl _)
  replace ma := ma.below b (Nat.le_refl _)
  replace mb := mb.below b (Nat.le_refl _)
  replace b0 := below_trans b0 b
  clear b
  have hpn : pn ≤ na + 1 := fp.len_le (na + 1) (pow_mul_lt A 256 na 1 ZA (by omega) TA.out (by decide))
  clear x1 x2 bl
  have x1 := num_cells w5 w5.heap.size rfl [x] 1 rfl (fun y hy => by simp at hy; subst hy; omega) #[.int .u32 x] rfl x (by simp [val])
  have bl := below_lit w5 #[.int .u32 x] 32
  have x2 := (fp.num (Int.mul_nonneg ZA (by omega))).below bl (Nat.le_refl _)
  have hAx0 : 0 ≤ A * 256 + x := by omega
  have hAxl : Hid (A * 256 + x < 4294967296 ^ (na + 1)) := Lib.hid (by have h1 := TA.out; rw [Int.pow_succ]; generalize (4294967296 : Int) ^ na = P at *; omega)
  have h := Lib.hid (num_add _ _ _ _ _ _ _ _ _ x2 x1 (by omega) (by omega))
  go_wp2_with fail
  with_reducible refine (h.out).mono ?_
  rintro e w6 ⟨qd, qn, qc, rfl, fq, b⟩
  replace b := below_trans bl b
  clear h
  replace hT := hT.below b (Nat.le_refl _)
  replace ma := ma.below b (Nat.le_refl _)
  replace mb := mb.below b (Nat.le_refl _)
  replace fp := fp.below b (Nat.le_refl _)
  replace b0 := below_trans b0 b
  clear b
  have hqn : qn ≤ na + 1 := fq.len_le (na + 1) hAxl.out
  clear x1 x2 bl
  clear fp
  have hB := num_bytes _ _ _ _ w6 (fq.num hAx0) (by omega)
  rw [HM.out] at hB
  have h := Lib.hid (hB)
  go_wp2_with fail
  with_reducible refine (h.out).mono ?_
  rintro e w7 ⟨rfl, b⟩
  clear h
  replace hT := hT.below b (Nat.le_refl _)
  replace ma := ma.below b (Nat.le_refl _)
  replace mb := mb.below b (Nat.le_refl _)
  replace fq := fq.below b (Nat.le_refl _)
  replace b0 := below_trans b0 b
  clear b
  clear hB
  clear fq
  have CX : Hid (∀ w2 : World, (convert 40 9 (.slice (some ⟨w2.heap.size, 0, none⟩) 1 1)).run Tryd.prog (w2.alloc (.cells #[.int .u8 x] 5)) = .ok (.string (strB [x])) (w2.alloc (.cells #[.int .u8 x] 5))) := Lib.hid fun w2 =>
    conv_str 40 9 5 Tryd.underlying40 Tryd.underlying5 Tryd.underlying9 _ _ 1 1 [x] (Blk.made w2 5 .u8 [x] w2.heap.size rfl).rds (fun y hy => by simp at hy; subst hy; omega)
  have cx := CX.out w7
  have bl := below_lit w7 #[.int .u8 x] 5
  have catok : S.size + (strB [x]).size ≤ 9223372036854775807 := by rw [strB_size]; simp; omega
  go_upto_region 5 with (fail)
  clear cx CX catok
  replace bl := below_trans b0 bl
  replace hT := hT.below (below_lit w7 #[.int .u8 x] 5) (Nat.le_refl _)
  replace ma := ma.below (below_lit w7 #[.int .u8 x] 5) (Nat.le_refl _)
  replace mb := mb.below (below_lit w7 #[.int .u8 x] 5) (Nat.le_refl _)
  generalize w7.alloc (.cells #[.int .u8 x] 5) = v0 at *
  replace b0 := bl
  clear bl
  have HZ0 : Hid (A = 0 → x = 0 → M.toList.isEmpty = true) := Lib.hid fun h1 h2 => by
    have h3 : M = strB [] := by rw [← HM.out, h1, h2, Int.zero_mul, Int.add_zero, dg_zero]; rfl
    rw [h3, toList_nil, strB_size]; rfl
  have HZ1 : Hid (¬ (A = 0 ∧ x = 0) → (M.toList == (S ++ strB [x]).toList) = true) := Lib.hid fun h1 => by
    have h3 : M = S ++ strB [x] := by rw [← HM.out, dg_more A x ZA (by omega) (by omega), ← strB_append, HS.out]
    rw [h3]; exact beq_self_eq_true _
  go_cut [40] (fun s40 wx => ∃ t : Bool, s40 = .bool t ∧ Hid (t = decide (A = 0 ∧ x = 0)) ∧ v0 = wx)
  case first =>
    by_cases hA0 : A = 0
    · have hm := ma
      rw [hA0] at hm
      have hN := num_len _ _ _ _ v0 hm (by omega)
      rw [bitsOf_zero] at hN
      have HN := Lib.hid hN
      have HA0 := Lib.hid hA0
      clear hm hN hA0
      go_wp2_with fail
      with_reducible refine (HN.out).mono ?_
      rintro e w' ⟨rfl, rfl⟩
      clear HN
      go_wp2_with fail
      go_meet
      case rel => exact ⟨_, rfl, Lib.hid (by rw [Bool.eq_iff_iff, beq_iff_eq, decide_eq_true_iff]; exact ⟨fun h => ⟨HA0.out, h⟩, fun h => h.2⟩), rfl⟩
    · have hbp := bitsOf_pos A (by omega)
      obtain ⟨bb, hbb⟩ : ∃ bb, bitsOf A = bb := ⟨_, rfl⟩
      have hN := num_len _ _ _ _ v0 ma (by omega)
      rw [hbb] at hN hbp
      have HN := Lib.hid hN
      have hbf : (bb == 0) = false := by simp; omega
      have HA0 := Lib.hid hA0
      clear hbb hN hA0
      go_wp2_with fail
      with_reducible refine (HN.out).mono ?_
      rintro e w' ⟨rfl, rfl⟩
      clear HN
      go_wp2_with fail
      go_meet
      case rel => exact ⟨_, rfl, Lib.hid (decide_eq_false fun h => HA0.out h.1).symm, rfl⟩
  case rest =>
    obtain ⟨t, rfl, ht, rfl⟩ := hcut
    go_upto_if 40 with (fail)
    go_cut [12] (fun s12 wx => ∃ T : ByteArray, s12 = .string T ∧ (M.toList == T.toList) = true ∧ v0 = wx)
    case first =>
      cases t
      · have hq := HZ1.out (by have := ht.out; simpa using this)
        go_wp2_with fail
        go_meet
        case rel => exact ⟨_, rfl, hq, rfl⟩
      · have hq := HZ0.out (by have := ht.out; simp at this; exact this.1) (by have := ht.out; simp at this; exact this.2)
        have hq2 : (M.toList == ({ data := #[] } : ByteArray).toList) = true := by
          rw [List.isEmpty_iff] at hq
          rw [hq, ByteArray.toList_eq]; rfl
        clear hq
        go_wp2_with fail
        go_meet
        case rel => exact ⟨_, rfl, hq2, rfl⟩
    case rest =>
      obtain ⟨T, rfl, hMT, rfl⟩ := hcut
      clear ht HZ0 HZ1 HM
      obtain ⟨cc, hcc⟩ : ∃ cc, cmpI A B = cc := ⟨_, rfl⟩
      have hL := less_calls (dg 256 A).reverse (dg 256 B).reverse v0 DA DB (by rw [List.length_reverse]; omega) (by rw [List.length_reverse]; omega)
      rw [HLESS.out, HS.out, HSB.out, hcc] at hL
      have HLL := Lib.hid hL
      clear hL
      have hC := num_cmp _ _ _ _ _ _ _ _ v0 ma mb (by omega) (by omega)
      rw [hcc] at hC
      have HC := Lib.hid hC
      clear hC hcc
      go_upto_region 7 with (fail)
      go_cut [62] (fun s62 wx => s62 = .bool false ∧ ∃ q, wx = World.drewN v0 q)
      case first =>
        by_cases hA0 : A = 0
        · have hs0 : ¬ 0 < S.size := by rw [HSZ.out, hA0, dg_zero]; simp
          clear hA0
          go_wp2_with fail
          with_reducible refine (HLL.out).mono ?_
          rintro e w' ⟨rfl, rfl⟩
          go_wp2_with fail
          with_reducible refine (HC.out).mono ?_
          rintro e w' ⟨rfl, q, rfl⟩
          go_wp2_with fail
          go_meet
          case rel => exact ⟨rfl, q, rfl⟩
        · obtain ⟨hs1, hs2⟩ := dg_top A (by omega)
          have hs0 : 0 < S.size := by rw [HSZ.out]; exact hs1
          have hg := bytesI_get S 0 hs0
          have hbs : bytesI S = (dg 256 A).reverse := by rw [← HS.out]; exact bytesI_strB DA
          rw [hbs] at hg
          have bx := DA.get (by omega) 0
          obtain ⟨c, hc⟩ : ∃ c, (dg 256 A).reverse[0]?.getD 0 = c := ⟨_, rfl⟩
          rw [hc] at hg bx hs2
          have hx1 : (S[0].toNat : Int) = c := hg.symm
          have hc0 : (c == 0) = false := by simpa using hs2
          clear hA0 hg hc hs1 hs2 hbs
          go_wp2_with fail
          with_reducible refine (HLL.out).mono ?_
          rintro e w' ⟨rfl, rfl⟩
          go_wp2_with fail
          with_reducible refine (HC.out).mono ?_
          rintro e w' ⟨rfl, q, rfl⟩
          go_wp2_with fail
          go_meet
          case rel => exact ⟨rfl, q, rfl⟩
      case rest =>
        obtain ⟨rfl, q, rfl⟩ := hcut
        have b := below_drewN (Below.refl v0.heap.size v0) q
        clear HLL HC hMT
        generalize World.drewN v0 q = u0 at *
        replace hT := hT.below b (Nat.le_refl _)
        replace ma := ma.below b (Nat.le_refl _)
        replace mb := mb.below b (Nat.le_refl _)
        replace b0 := below_trans b0 b
        clear b
        by_cases hbig : 262144 < na
        · have hbi : (262144 : Int) < (na : Int) := by omega
          have h := Lib.hid (lives2_calls u0 hT)
          go_wp2_with fail
          with_reducible refine (h.out).mono ?_
          rintro e w8 ⟨rfl, b⟩
          clear h
          replace hT := hT.below b (Nat.le_refl _)
          replace ma := ma.below b (Nat.le_refl _)
          replace mb := mb.below b (Nat.le_refl _)
          replace b0 := below_trans b0 b
          clear b
          go_wp2_with fail
          go_ret
          exact ⟨rfl, b0⟩
        · have hbi : ¬ (262144 : Int) < (na : Int) := by omega
          obtain ⟨zn, rfl⟩ := Int.eq_ofNat_of_zero_le hz.1
          have hzn : zn < 256 := by omega
          have hl2 : (dg 256 A).length ≤ 1048576 := by omega
          have hmk : ∀ w2 : World, (Instr.makeSlice 40 (.int .u8 (zn : Int)) (.int .u8 (zn : Int))).run Tryd.prog w2 = .ok (.slice (some ⟨w2.heap.size, 0, none⟩) zn zn) (w2.alloc (.cells (nums .u8 (List.replicate zn 0)).toArray 5)) := fun w2 => by
            have h := run_make_row' (P := Tryd.prog) 40 5 (.int .u8 0) 1 Tryd.underlying40 info_byte rfl .u8 .u8 zn (by omega) (by omega) w2
            rw [h]
            congr 4
            simp [madeCells, nums, Nat.mod_one]
            apply Array.ext <;> simp
          have cx := conv_str (P := Tryd.prog) 40 9 5 Tryd.underlying40 Tryd.underlying5 Tryd.underlying9 (u0.alloc (.cells (nums .u8 (List.replicate zn 0)).toArray 5)) (some ⟨u0.heap.size, 0, none⟩) zn zn (List.replicate zn 0) (by have := (Blk.made u0 5 .u8 (List.replicate zn 0) u0.heap.size rfl).rds; rwa [List.length_replicate] at this) (Dig.replicate _ (by omega) _)
          have hZL : (strB (List.replicate zn 0)).size = zn := by rw [strB_size, List.length_replicate]
          have HZL := Lib.hid hZL
          have catok : (strB (List.replicate zn 0)).size + S.size ≤ 9223372036854775807 := by omega
          have hcat : strB (List.replicate zn 0) ++ S = strB (List.replicate zn 0 ++ (dg 256 A).reverse) := by rw [← HS.out, strB_append]
          have hby : bytesI (strB (List.replicate zn 0) ++ S) = List.replicate zn 0 ++ (dg 256 A).reverse := by rw [hcat]; exact bytesI_strB ((Dig.replicate _ (by omega) _).append DA)
          have hbv := byte_zeros zn A ZA
          have hok : byteOk (bytesI (strB (List.replicate zn 0) ++ S)) = true := by rw [hby]; unfold byteOk; rw [hbv]; exact decide_eq_true hl2
          have hnum : byteNum (bytesI (strB (List.replicate zn 0) ++ S)) = A := by unfold byteNum; rw [if_pos hok, hby, hbv]
          have bl := below_lit u0 (nums .u8 (List.replicate zn 0)).toArray 5
          have hF := num_fromb (strB (List.replicate zn 0) ++ S) (u0.alloc (.cells (nums .u8 (List.replicate zn 0)).toArray 5)) (by rw [ByteArray.size_append]; have := HSZ.out; omega)
          rw [hok, hnum] at hF
          clear hcat hby hbv hok hnum hZL
          have h := Lib.hid (hF)
          go_wp2_with fail
          with_reducible refine (h.out).mono ?_
          rintro e w8 ⟨fd, fn, fc, rfl, ff, b⟩
          replace b := below_trans bl b
          clear h
          replace hT := hT.below b (Nat.le_refl _)
          replace ma := ma.below b (Nat.le_refl _)
          replace mb := mb.below b (Nat.le_refl _)
          replace b0 := below_trans b0 b
          clear b
          clear hF cx hmk catok bl
          have hfn : fn ≤ na := ff.len_le na TA.out
          have hC := num_cmp _ _ _ _ _ _ _ _ w8 (ff.num ZA) ma (by omega) (by omega)
          rw [cmpI_eq rfl] at hC
          have h := Lib.hid (hC)
          go_wp2_with fail
          with_reducible refine (h.out).mono ?_
          rintro e w' ⟨rfl, q, rfl⟩
          have b := below_drewN (Below.refl w8.heap.size w8) q
          replace b : Below w8.heap.size w8 _ := b
          generalize World.drewN w8 q = w9 at *
          clear h
          replace hT := hT.below b (Nat.le_refl _)
          replace ma := ma.below b (Nat.le_refl _)
          replace mb := mb.below b (Nat.le_refl _)
          replace ff := ff.below b (Nat.le_refl _)
          replace b0 := below_trans b0 b
          clear b
          clear hC
          have h := Lib.hid (tight_calls _ _ _ _ w9 ff (by omega))
          go_wp2_with fail
          with_reducible refine (h.out).mono ?_
          rintro e w' ⟨rfl, rfl⟩
          clear h
          have h := Lib.hid (lives2_calls w9 hT)
          go_wp2_with fail
          with_reducible refine (h.out).mono ?_
          rintro e w11 ⟨rfl, b⟩
          clear h
          replace hT := hT.below b (Nat.le_refl _)
          replace ma := ma.below b (Nat.le_refl _)
          replace mb := mb.below b (Nat.le_refl _)
          replace ff := ff.below b (Nat.le_refl _)
          replace b0 := below_trans b0 b
          clear b
          go_wp2_with fail
          go_ret
          exact ⟨rfl, b0⟩
end Go.Proofs.YtgnophflogmmaaaDoor
