/- The law QuotTens: its walk. -/
import Derived.Deep.DeepCutAuto
import Derived.Test.YtgnophflogmmaaaDoorPk2
import Derived.Test.YtgnophflogmmaaaDoorPk4
import Derived.Test.YtgnophflogmmaaaDoorPk7
import Derived.Test.YtgnophflogmmaaaDoorPk9
import Derived.Test.YtgnophflogmmaaaDoorPk12
import Derived.Test.YtgnophflogmmaaaDoorPk13
import Derived.Test.YtgnophflogmmaaaDoorPk14
set_option linter.unusedVariables false
set_option linter.unusedSimpArgs false
/- The law QuotTens: its walk out of the contracts of what it calls. (Printed by law.py.) -/
namespace Go.Proofs.YtgnophflogmmaaaDoor
open Go.RowKit


set_option maxRecDepth 20000 in
set_option maxHeartbeats 4000000 in
theorem walk_QuotTens (w : World) (hT : Tab32 w) (ada : Option Addr) (na ca : Nat) (xa : List Int) (hnca : na ≤ ca) (hna : na * 4 ≤ 140737488351232) (hra : Rds w .u32 ada na xa) (dxa : Dig 4294967296 xa) (adb : Option Addr) (nb cb : Nat) (xb : List Int) (hncb : nb ≤ cb) (hnb : nb * 4 ≤ 140737488351232) (hrb : Rds w .u32 adb nb xb) (dxb : Dig 4294967296 xb) (d : Int) (hd : 0 ≤ d ∧ d < 256) (hsa : na ≤ 1048576) (hsb : nb ≤ 1048576) :
    Calls Tryd.prog 6 #[.slice ada na ca, .slice adb nb cb, .int .u8 d] w (LawTrue w) := by
  have b0 := Below.refl w.heap.size w
  have fa : Arg w ada na ca xa := ⟨hnca, hra, dxa⟩
  clear hra dxa
  have fb : Arg w adb nb cb xb := ⟨hncb, hrb, dxb⟩
  clear hrb dxb
  go_enter Tryd.func6, Tryd.ntmps6
  have h := Lib.hid (num_twin ada na ca xa w fa (by omega))
  go_wp2_with fail
  with_reducible refine (h.out).mono ?_
  rintro e w1 ⟨ta, rfl, ga, b⟩
  clear h
  replace fa := fa.below b (Nat.le_refl _)
  replace fb := fb.below b (Nat.le_refl _)
  replace hT := hT.below b (Nat.le_refl _)
  replace b0 := below_trans b0 b
  clear b
  have ka0 := ga.num
  clear ga
  obtain ⟨A, HA⟩ : ∃ A, Hid (val 4294967296 xa = A) := ⟨_, rfl⟩
  obtain ⟨B, HB⟩ : ∃ B, Hid (val 4294967296 xb = B) := ⟨_, rfl⟩
  rw [HA.out] at ka0
  have ma := fa.num
  have ZA := fa.nonneg
  have t := fa.lt
  rw [HA.out] at ma ZA t
  have TA := Lib.hid t
  clear t
  have mb := fb.num
  have ZB := fb.nonneg
  have t := fb.lt
  rw [HB.out] at mb ZB t
  have TB := Lib.hid t
  clear t
  clear fa
  obtain ⟨g, hg⟩ : ∃ g, d % 10 = g := ⟨_, rfl⟩
  have hg0 : 0 ≤ g ∧ g < 10 := by omega
  obtain ⟨S, HS⟩ : ∃ S, Hid (strB (decL A) = S) := ⟨_, rfl⟩
  obtain ⟨SB, HSB⟩ : ∃ S, Hid (strB (decL B) = S) := ⟨_, rfl⟩
  obtain ⟨M, HM⟩ : ∃ S, Hid (strB (decL (A * 10 + g)) = S) := ⟨_, rfl⟩
  have DA := decL_dig A
  have DB := decL_dig B
  have lA := decL_le A ZA na TA.out
  have lB := decL_le B ZB nb TB.out
  have pA := decL_pos A ZA
  have sA : S.size = (decL A).length := by rw [← HS.out, strB_size]
  have HLESS := Lib.hid (less_dec A B ZA ZB)
  have HSZ := Lib.hid sA
  have sle : S.size ≤ 140737488351232 := by omega
  have spos : 0 < S.size := by omega
  clear sA
  have hB := num_digits _ _ _ _ w1 ka0 (by omega)
  rw [HS.out] at hB
  have h := Lib.hid (hB)
  go_wp2_with fail
  with_reducible refine (h.out).mono ?_
  rintro e w2 ⟨rfl, b⟩
  clear h
  replace fb := fb.below b (Nat.le_refl _)
  replace hT := hT.below b (Nat.le_refl _)
  replace ka0 := ka0.below b (Nat.le_refl _)
  replace ma := ma.below b (Nat.le_refl _)
  replace mb := mb.below b (Nat.le_refl _)
  replace b0 := below_trans b0 b
  clear b
  clear hB
  clear ka0
  have h := Lib.hid (num_twin adb nb cb xb w2 fb (by omega))
  go_wp2_with fail
  with_reducible refine (h.out).mono ?_
  rintro e w3 ⟨tb, rfl, gb, b⟩
  clear h
  replace fb := fb.below b (Nat.le_refl _)
  replace hT := hT.below b (Nat.le_refl _)
  replace ma := ma.below b (Nat.le_refl _)
  replace mb := mb.below b (Nat.le_refl _)
  replace b0 := below_trans b0 b
  clear b
  have kb0 := gb.num
  rw [HB.out] at kb0
  clear gb fb
  have hB := num_digits _ _ _ _ w3 kb0 (by omega)
  rw [HSB.out] at hB
  have h := Lib.hid (hB)
  go_wp2_with fail
  with_reducible refine (h.out).mono ?_
  rintro e w4 ⟨rfl, b⟩
  clear h
  replace hT := hT.below b (Nat.le_refl _)
  replace ma := ma.below b (Nat.le_refl _)
  replace mb := mb.below b (Nat.le_refl _)
  replace kb0 := kb0.below b (Nat.le_refl _)
  replace b0 := below_trans b0 b
  clear b
  clear hB
  clear kb0
  have x1 := num_cells w4 w4.heap.size rfl [10] 1 rfl (dig_lit _ (by decide)) #[.int .u32 10] rfl 10 (by decide)
  have bl := below_lit w4 #[.int .u32 10] 32
  have x2 := ma.below bl (Nat.le_refl _)
  have h := Lib.hid (num_mul _ _ _ _ _ _ _ _ _ x2 x1 (by omega) (by omega))
  go_wp2_with fail
  with_reducible refine (h.out).mono ?_
  rintro e w5 ⟨pd, pn, pc, rfl, fp, b⟩
  replace b := below_trans bl b
  clear h
  replace hT := hT.below b (Nat.le_refl _)
  replace ma := ma.below b (Nat.le_refl _)
  replace mb := mb.below b (Nat.le_refl _)
  replace b0 := below_trans b0 b
  clear b
  have hpn : pn ≤ na + 1 := fp.len_le (na + 1) (pow_mul_lt A 10 na 1 ZA (by omega) TA.out (by decide))
  clear x1 x2 bl
  have x1 := num_cells w5 w5.heap.size rfl [g] 1 rfl (fun y hy => by simp at hy; subst hy; omega) #[.int .u32 g] rfl g (by simp [val])
  have bl := below_lit w5 #[.int .u32 g] 32
  have x2 := (fp.num (Int.mul_nonneg ZA (by omega))).below bl (Nat.le_refl _)
  have hAx0 : 0 ≤ A * 10 + g := by omega
  have hAxl : Hid (A * 10 + g < 4294967296 ^ (na + 1)) := Lib.hid (by have h1 := TA.out; rw [Int.pow_succ]; generalize (4294967296 : Int) ^ na = P at *; omega)
  have h := Lib.hid (num_add _ _ _ _ _ _ _ _ _ x2 x1 (by omega) (by omega))
  go_wp2_with fail
  with_reducible refine (h.out).mono ?_
  rintro e w6 ⟨qd, qn, qc, rfl, fq, b⟩
  replace b := below_trans bl b
  clear h
  replace hT := hT.below b (Nat.le_refl _)
  replace ma := ma.below b (Nat.le_refl _)
  replace mb := mb.below b (Nat.le_refl _)
  replace fp := fp.below b (Nat.le_refl _)
  replace b0 := below_trans b0 b
  clear b
  have hqn : qn ≤ na + 1 := fq.len_le (na + 1) hAxl.out
  clear x1 x2 bl
  clear fp
  have hB := num_digits _ _ _ _ w6 (fq.num hAx0) (by omega)
  rw [HM.out] at hB
  have h := Lib.hid (hB)
  go_wp2_with fail
  with_reducible refine (h.out).mono ?_
  rintro e w7 ⟨rfl, b⟩
  clear h
  replace hT := hT.below b (Nat.le_refl _)
  replace ma := ma.below b (Nat.le_refl _)
  replace mb := mb.below b (Nat.le_refl _)
  replace fq := fq.below b (Nat.le_refl _)
  replace b0 := below_trans b0 b
  clear b
  clear hB
  clear fq
  clear hAx0
  have cx := conv_str (P := Tryd.prog) 40 9 5 Tryd.underlying40 Tryd.underlying5 Tryd.underlying9 (w7.alloc (.cells #[.int .u8 (48 + g)] 5)) (some ⟨w7.heap.size, 0, none⟩) 1 1 [48 + g] (Blk.made w7 5 .u8 [48 + g] w7.heap.size rfl).rds (fun y hy => by simp at hy; subst hy; omega)
  have bl := below_lit w7 #[.int .u8 (48 + g)] 5
  have catok : S.size + (strB [48 + g]).size ≤ 9223372036854775807 := by rw [strB_size]; simp; omega
  go_upto_region 6 with (fail)
  clear cx catok
  replace bl := below_trans b0 bl
  replace hT := hT.below (below_lit w7 #[.int .u8 (48 + g)] 5) (Nat.le_refl _)
  replace ma := ma.below (below_lit w7 #[.int .u8 (48 + g)] 5) (Nat.le_refl _)
  replace mb := mb.below (below_lit w7 #[.int .u8 (48 + g)] 5) (Nat.le_refl _)
  generalize w7.alloc (.cells #[.int .u8 (48 + g)] 5) = v0 at *
  replace b0 := bl
  clear bl
  have hcat : S ++ strB [48 + g] = strB (decL A ++ [48 + g]) := by rw [← HS.out, strB_append]
  have HZ1 : Hid (A ≠ 0 → (M.toList == (S ++ strB [48 + g]).toList) = true) := Lib.hid fun h1 => by
    have h3 : M = S ++ strB [48 + g] := by rw [hcat, ← HM.out, dec_more A g (by omega) hg0]
    rw [h3]; exact beq_self_eq_true _
  obtain ⟨X, hX⟩ : ∃ X, S ++ strB [48 + g] = X := ⟨_, rfl⟩
  have hXs : X.size = S.size + 1 := by rw [← hX, ByteArray.size_append, strB_size]; rfl
  have hx1 : 1 ≤ X.size := by omega
  have HZ0 : Hid (A = 0 → (M.toList == (X.extract 1 X.size).toList) = true) := Lib.hid fun h1 => by
    have h3 : M = strB [48 + g] := by rw [← HM.out, h1, Int.zero_mul, Int.zero_add, dec_digit g hg0]
    have h4 : decL A = [48] := by rw [h1]; rfl
    have h5 : bytesI (X.extract 1 X.size) = [48 + g] := by rw [bytesI_drop1, ← hX, hcat, h4, bytesI_strB (fun y hy => by simp at hy; omega)]; rfl
    have h6 : M = X.extract 1 X.size := by rw [h3, ← h5, strB_bytesI]
    rw [h6]; exact beq_self_eq_true _
  rw [hX] at HZ1
  rw [hX]
  clear hcat hX hXs HM
  go_cut [41] (fun s41 wx => ∃ t : Bool, s41 = .bool t ∧ Hid (t = decide (A = 0)) ∧ v0 = wx)
  case first =>
    by_cases hA0 : A = 0
    · have hm := ma
      rw [hA0] at hm
      have hN := num_len _ _ _ _ v0 hm (by omega)
      rw [bitsOf_zero] at hN
      have HN := Lib.hid hN
      have HA0 := Lib.hid hA0
      clear hm hN hA0
      go_wp2_with fail
      with_reducible refine (HN.out).mono ?_
      rintro e w' ⟨rfl, rfl⟩
      clear HN
      go_wp2_with fail
      go_meet
      case rel => exact ⟨_, rfl, Lib.hid (decide_eq_true HA0.out).symm, rfl⟩
    · have hbp := bitsOf_pos A (by omega)
      obtain ⟨bb, hbb⟩ : ∃ bb, bitsOf A = bb := ⟨_, rfl⟩
      have hN := num_len _ _ _ _ v0 ma (by omega)
      rw [hbb] at hN hbp
      have HN := Lib.hid hN
      have hbf : (bb == 0) = false := by simp; omega
      have HA0 := Lib.hid hA0
      clear hbb hN hA0
      go_wp2_with fail
      with_reducible refine (HN.out).mono ?_
      rintro e w' ⟨rfl, rfl⟩
      clear HN
      go_wp2_with fail
      go_meet
      case rel => exact ⟨_, rfl, Lib.hid (decide_eq_false HA0.out).symm, rfl⟩
  case rest =>
    obtain ⟨t, rfl, ht, rfl⟩ := hcut
    go_upto_if 41 with (fail)
    go_cut [11] (fun s11 wx => ∃ T : ByteArray, s11 = .string T ∧ (M.toList == T.toList) = true ∧ v0 = wx)
    case first =>
      cases t
      · have hq := HZ1.out (of_decide_eq_false ht.out.symm)
        go_wp2_with fail
        go_meet
        case rel => exact ⟨_, rfl, hq, rfl⟩
      · have hq := HZ0.out (of_decide_eq_true ht.out.symm)
        go_wp2_with fail
        go_meet
        case rel => exact ⟨_, rfl, hq, rfl⟩
    case rest =>
      obtain ⟨T, rfl, hMT, rfl⟩ := hcut
      clear ht HZ0 HZ1
      obtain ⟨cc, hcc⟩ : ∃ cc, cmpI A B = cc := ⟨_, rfl⟩
      have hL := less_calls (decL A) (decL B) v0 DA DB (by omega) (by omega)
      rw [HLESS.out, HS.out, HSB.out, hcc] at hL
      have HLL := Lib.hid hL
      clear hL
      have hC := num_cmp _ _ _ _ _ _ _ _ v0 ma mb (by omega) (by omega)
      rw [hcc] at hC
      have HC := Lib.hid hC
      clear hC hcc
      have hsz0 : ((S.size : Int) == 0) = false := by rw [beq_eq_false_iff_ne]; omega
      go_upto_region 8 with (fail)
      go_cut [70] (fun s70 wx => s70 = .bool false ∧ ∃ q, wx = World.drewN v0 q)
      case first =>
        by_cases hs1 : 1 < S.size
        · have hs2 := decL_top A ZA (by rw [← HSZ.out]; exact hs1)
          have hgt := bytesI_get S 0 spos
          have hbs : bytesI S = decL A := by rw [← HS.out]; exact bytesI_strB DA
          rw [hbs] at hgt
          have bx := DA.get (by omega) 0
          obtain ⟨c, hc⟩ : ∃ c, (decL A)[0]?.getD 0 = c := ⟨_, rfl⟩
          rw [hc] at hgt bx hs2
          have hx2 : (S[0].toNat : Int) = c := hgt.symm
          have hc0 : (c == 48) = false := by simpa using hs2
          clear hgt hc hs2 hbs
          go_wp2_with fail
          with_reducible refine (HLL.out).mono ?_
          rintro e w' ⟨rfl, rfl⟩
          go_wp2_with fail
          with_reducible refine (HC.out).mono ?_
          rintro e w' ⟨rfl, q, rfl⟩
          go_wp2_with fail
          go_meet
          case rel => exact ⟨rfl, q, rfl⟩
        · go_wp2_with fail
          with_reducible refine (HLL.out).mono ?_
          rintro e w' ⟨rfl, rfl⟩
          go_wp2_with fail
          with_reducible refine (HC.out).mono ?_
          rintro e w' ⟨rfl, q, rfl⟩
          go_wp2_with fail
          go_meet
          case rel => exact ⟨rfl, q, rfl⟩
      case rest =>
        obtain ⟨rfl, q, rfl⟩ := hcut
        have b := below_drewN (Below.refl v0.heap.size v0) q
        clear HLL HC hMT hsz0
        generalize World.drewN v0 q = u0 at *
        replace hT := hT.below b (Nat.le_refl _)
        replace ma := ma.below b (Nat.le_refl _)
        replace mb := mb.below b (Nat.le_refl _)
        replace b0 := below_trans b0 b
        clear b
        by_cases hbig : 262144 < na
        · have hbi : (262144 : Int) < (na : Int) := by omega
          have h := Lib.hid (lives2_calls u0 hT)
          go_wp2_with fail
          with_reducible refine (h.out).mono ?_
          rintro e w8 ⟨rfl, b⟩
          clear h
          replace hT := hT.below b (Nat.le_refl _)
          replace ma := ma.below b (Nat.le_refl _)
          replace mb := mb.below b (Nat.le_refl _)
          replace b0 := below_trans b0 b
          clear b
          go_wp2_with fail
          go_ret
          exact ⟨rfl, b0⟩
        · have hbi : ¬ (262144 : Int) < (na : Int) := by omega
          obtain ⟨rd1, rd2⟩ := read_dec A ZA (Nat.le_trans (dg_length_le 4294967296 (by omega) na A TA.out) (by omega))
          have hbs : bytesI S = decL A := by rw [← HS.out]; exact bytesI_strB DA
          have hR := num_read S u0 (by omega)
          rw [hbs, rd1, rd2] at hR
          clear rd1 rd2
          have h := Lib.hid (hR)
          go_wp2_with fail
          with_reducible refine (h.out).mono ?_
          rintro e w8 ⟨fd, fn, fc, rfl, ff, b⟩
          clear h
          replace hT := hT.below b (Nat.le_refl _)
          replace ma := ma.below b (Nat.le_refl _)
          replace mb := mb.below b (Nat.le_refl _)
          replace b0 := below_trans b0 b
          clear b
          clear hR
          have hfn : fn ≤ na := ff.len_le na TA.out
          have hz2 : bytesI (({ data := #[48] } : ByteArray) ++ S) = 48 :: decL A := by
            rw [show ({ data := #[48] } : ByteArray) = strB [48] from rfl, ← HS.out, strB_append, bytesI_strB (Dig.append (show Dig 256 [48] from fun y hy => by simp at hy; omega) DA)]; rfl
          have hz3 := read_zero (decL A) (List.ne_nil_of_length_pos pA)
          have catok : ({ data := #[48] } : ByteArray).size + S.size ≤ 9223372036854775807 := by show 1 + S.size ≤ _; omega
          have hR := num_read (({ data := #[48] } : ByteArray) ++ S) w8 (by rw [ByteArray.size_append]; have := HSZ.out; show 1 + S.size ≤ _; omega)
          rw [hz2, hz3] at hR
          clear hz2 hz3
          have h := Lib.hid (hR)
          go_wp2_with fail
          with_reducible refine (h.out).mono ?_
          rintro e w9 ⟨gd, gn, gc, rfl, fg, b⟩
          clear h
          replace hT := hT.below b (Nat.le_refl _)
          replace ma := ma.below b (Nat.le_refl _)
          replace mb := mb.below b (Nat.le_refl _)
          replace ff := ff.below b (Nat.le_refl _)
          replace b0 := below_trans b0 b
          clear b
          clear hR fg
          have hC := num_cmp _ _ _ _ _ _ _ _ w9 (ff.num ZA) ma (by omega) (by omega)
          rw [cmpI_eq rfl] at hC
          have h := Lib.hid (hC)
          go_wp2_with fail
          with_reducible refine (h.out).mono ?_
          rintro e w' ⟨rfl, q, rfl⟩
          have b := below_drewN (Below.refl w9.heap.size w9) q
          replace b : Below w9.heap.size w9 _ := b
          generalize World.drewN w9 q = w10 at *
          clear h
          replace hT := hT.below b (Nat.le_refl _)
          replace ma := ma.below b (Nat.le_refl _)
          replace mb := mb.below b (Nat.le_refl _)
          replace ff := ff.below b (Nat.le_refl _)
          replace b0 := below_trans b0 b
          clear b
          clear hC
          have h := Lib.hid (tight_calls _ _ _ _ w10 ff (by omega))
          go_wp2_with fail
          with_reducible refine (h.out).mono ?_
          rintro e w' ⟨rfl, rfl⟩
          clear h
          have h := Lib.hid (lives2_calls w10 hT)
          go_wp2_with fail
          with_reducible refine (h.out).mono ?_
          rintro e w12 ⟨rfl, b⟩
          clear h
          replace hT := hT.below b (Nat.le_refl _)
          replace ma := ma.below b (Nat.le_refl _)
          replace mb := mb.below b (Nat.le_refl _)
          replace ff := ff.below b (Nat.le_refl _)
          replace b0 := below_trans b0 b
          clear b
          go_wp2_with fail
          go_ret
          exact ⟨rfl, b0⟩
end Go.Proofs.YtgnophflogmmaaaDoor
