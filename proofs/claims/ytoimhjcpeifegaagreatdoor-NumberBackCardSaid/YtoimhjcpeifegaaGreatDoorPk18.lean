/- Contracts of functions, and plain facts, part 18. -/
import Derived.Deep.DeepCutAuto
import Derived.IntWalk
import Derived.Test.YtoimhjcpeifegaaGreatDoorPk12
import Derived.Test.YtoimhjcpeifegaaGreatDoorPk13
import Derived.Test.YtoimhjcpeifegaaGreatDoorPk15
set_option linter.unusedVariables false
set_option linter.unusedSimpArgs false
/- Printed by ieee3.py. -/
namespace Go.Proofs.YtoimhjcpeifegaaGreatDoor
open Go.RowKit

set_option maxRecDepth 100000 in
set_option maxHeartbeats 4000000 in
theorem round_64 (w : World) (hS : Shapes w) (neg : Bool) (ad : Option Addr) (n c : Nat) (V p : Int) (more : Bool) (h : Num w ad n c V) (hn : n ≤ 1099511627776) (hp : -9223372036854775808 ≤ p ∧ p < 9223372036854775808) :
    Calls Tryz.prog 62 #[.bool neg, .slice ad n c, .int .i64 p, .bool more] w (fun e w' => e = .returned (.int .u64 (roundW 64 neg V p more)) ∧ Below w.heap.size w w') := by
  have HW := Lib.hid (show Wide 64 by unfold Wide; omega)
  have HSn := Lib.hid (fun (w : World) (hS : Shapes w) (z : Int) (hz : 0 ≤ z ∧ z < 9223372036854775808) => signed_64 w hS neg z hz)
  have HIn := Lib.hid (shinf_64)
  have HIW := Lib.hid (show (9218868437227405312 : Int) = (infN 64 : Nat) by decide)
  have hN := h.bits_le
  have hV := h.nonneg
  have HVn := Lib.hid h.lt
  obtain ⟨N, hNe⟩ : ∃ N, N = bitsOf V := ⟨_, rfl⟩
  rw [← hNe] at hN
  have HN0 := Lib.hid (show N = 0 ↔ V = 0 by rw [hNe]; exact bits_zero_iff V hV)
  have HNe := Lib.hid hNe
  clear hNe
  have HR := Lib.hid (show roundW 64 neg V p more = (if neg then sgnW 64 else 0) + (nearE 64 (rM V more) (rE p more) : Nat) from rfl)
  generalize roundW 64 neg V p more = R at *
  generalize (if neg then sgnW 64 else 0) = sg at *
  have H1 := Lib.hid (of_64 w hS)
  go_enter Tryz.func62, Tryz.ntmps62
  go_wp2_with fail
  refine (H1.out).mono ?_
  rintro e w1 ⟨rfl, b1⟩
  have bA : Below w1.heap.size w1 (w1.alloc (.cells #[.int .i64 52, .int .i64 (-1074), .int .i64 11] 95)) := (Below.refl _ _).alloc (Nat.le_refl _) _
  have sh2 : ShAt 52 (-1074) 11 w1.heap.size (w1.alloc (.cells #[.int .i64 52, .int .i64 (-1074), .int .i64 11] 95)) := ShAt.made _ _ _ _
  have h2 := (h.below b1 (Nat.le_refl _)).below bA (Nat.le_refl _)
  have hS2 := (hS.below b1 (Nat.le_refl _)).below bA (Nat.le_refl _)
  have b2 := below_trans b1 bA
  have HLen := Lib.hid (num_len ad n c V _ h2 (by omega))
  rw [← HNe.out] at HLen
  clear h hS bA b1
  go_wp2_with fail
  refine (HLen.out).mono ?_
  rintro e w' ⟨rfl, rfl⟩
  clear HLen
  generalize (w1.alloc (.cells #[.int .i64 52, .int .i64 (-1074), .int .i64 11] 95)) = w2 at *
  generalize w1.heap.size = b at *
  obtain ⟨c0, c1, c2⟩ := sh2
  by_cases hz : V = 0 ∧ more = false
  · obtain ⟨rfl, rfl⟩ := hz
    obtain rfl : N = 0 := HN0.out.2 rfl
    have HE := Lib.hid (show R = sg by rw [HR.out]; show sg + (nearE 64 0 p : Int) = _; rw [nearE_zero HW.out]; omega)
    go_wp2_with fail
    refine (HSn.out w2 hS2 0 (by omega)).mono ?_
    rintro e w3 ⟨rfl, b3⟩
    go_wp2
    go_ret
    rw [HE.out]
    exact ⟨rfl, below_trans b2 b3⟩
  · have HZ := Lib.hid hz
    have HZ2 : Hid (N = 0 → more = true) := fun hN0 => by
      have := HN0.out.1 hN0
      cases more
      · exact absurd ⟨this, rfl⟩ hz
      · rfl
    clear hz
    go_upto_region 3 with (fail)
    go_cut [20] (fun s20 wx => s20 = .bool false ∧ w2 = wx)
    case first =>
      by_cases hn0 : N = 0
      · obtain rfl := HZ2.out hn0
        subst hn0
        go_wp2_with fail
        go_meet
        case rel => exact ⟨rfl, rfl⟩
      · have hn1 : (N == 0) = false := by simpa using hn0
        clear hn0
        go_wp2_with fail
        go_meet
        case rel => exact ⟨rfl, rfl⟩
    case rest =>
      obtain ⟨rfl, rfl⟩ := hcut
      by_cases hp1 : 2000 < p
      · have HE := Lib.hid (show R = sg + 9218868437227405312 by rw [HR.out, prog_big HW.out V p more hV HZ.out hp1, HIW.out])
        go_wp2_with fail
        refine (HIn.out _).mono ?_
        rintro e w3 ⟨rfl, b3⟩
        go_wp2_with fail
        refine (HSn.out w3 (hS2.below b3 (Nat.le_refl _)) 9218868437227405312 (by omega)).mono ?_
        rintro e w4 ⟨rfl, b4⟩
        go_wp2
        go_ret
        rw [HE.out]
        exact ⟨rfl, below_trans b2 (below_trans b3 b4)⟩
      · have W1 : IntKind.i64.wrap (-3000 - N) = -3000 - N := IntWalk.i64_in _ (by omega)
        by_cases hp2 : p < -3000 - N
        · have HE := Lib.hid (show R = sg by rw [HR.out, prog_zero HW.out V p more hV (by rw [← HNe.out]; exact hp2)]; omega)
          go_wp2_with fail
          refine (HSn.out w2 hS2 0 (by omega)).mono ?_
          rintro e w3 ⟨rfl, b3⟩
          go_wp2
          go_ret
          rw [HE.out]
          exact ⟨rfl, below_trans b2 b3⟩
        · go_upto_if 43 with (fail)
          go_cut [1, 2, 10] (fun s1 s2 s10 wx => ∃ ad' n' c' M p' N', s1 = .slice ad' n' c' ∧ s2 = .int .i64 p' ∧ s10 = .int .i64 N' ∧ PNum 64 52 (-1074) 11 b w wx (nearE 64 (rM V more) (rE p more)) ad' n' c' M p' N')
          case first =>
            cases more
            · have hV0 : 0 < V := by have := HZ.out; simp at this; omega
              go_wp2_with fail
              go_meet
              case rel => exact ⟨_, _, _, _, _, _, rfl, rfl, rfl, h2, hV0, by omega, by omega, by omega, HNe.out, rfl, ⟨c0, c1, c2⟩, hS2, b2⟩
            · have NE : Hid (nearE 64 (rM V true) (rE p true) = nearE 64 (V + V + 1).toNat (p - 1)) := by
                show nearE 64 (2 * V.toNat + 1) (p - 1) = _
                rw [show (V + V + 1).toNat = 2 * V.toNat + 1 by omega]
              have NB := Lib.hid (show N + 1 = bitsOf (V + V + 1) by rw [bitsOf_double V hV, HNe.out])
              have A1 := Lib.hid (num_add ad ad n n c c V V w2 h2 h2 (by omega) (by omega))
              have L1 := Lib.hid (double_lt hV HVn.out)
              go_wp2_with fail
              refine (A1.out).mono ?_
              rintro e w3 ⟨ad3, n3, c3, rfl, f3, b3⟩
              have l3 := f3.len_le (n + 1) (by have := L1.out; omega)
              have bB : Below w3.heap.size w3 (w3.alloc (.cells #[.int .u32 1] 23)) := (Below.refl _ _).alloc (Nat.le_refl _) _
              have A2 := Lib.hid (num_add ad3 _ n3 1 c3 1 (V + V) 1 _ ((f3.num (by omega)).below bB (Nat.le_refl _)) (num_one w3) (by omega) (by omega))
              go_wp2_with fail
              refine (A2.out).mono ?_
              rintro e w4 ⟨ad4, n4, c4, rfl, f4, b4⟩
              have l4 := f4.len_le (n + 1) L1.out
              have b24 := below_trans b3 (below_trans bB b4)
              have W2 : IntKind.i64.wrap (p - 1) = p - 1 := IntWalk.i64_in _ (by omega)
              have W3 : IntKind.i64.wrap (N + 1) = N + 1 := IntWalk.i64_in _ (by omega)
              go_wp2_with fail
              go_meet
              case rel => exact ⟨_, _, _, _, _, _, rfl, rfl, rfl, f4.num (by omega), by omega, by omega, by omega, by omega, NB.out, NE.out, ShAt.below ⟨c0, c1, c2⟩ b24, hS2.below b24 (Nat.le_refl _), below_trans b2 b24⟩
          case rest =>
            obtain ⟨ad3, n3, c3, M, p3, N3, rfl, rfl, rfl, hm⟩ := hcut
            have hpos := hm.pos
            have hbd := hm.bd
            have hnb := hm.nb
            have hlen := hm.len
            have HM := Lib.hid hm
            clear hm
            obtain ⟨w5, hw5⟩ : ∃ x, x = wc := ⟨_, rfl⟩
            subst hw5
            obtain ⟨last, hmax⟩ : ∃ last, max (N3 - 52 - 1 + p3) (-1074) = last := ⟨_, rfl⟩
            have hl1 : N3 - 52 - 1 + p3 ≤ last := by omega
            have hl2 : -1074 ≤ last := by omega
            have HL3 := Lib.hid (show last = -1074 ∨ last = N3 - 52 - 1 + p3 by omega)
            have hl4 : last ≤ 1125899906852625 := by omega
            obtain ⟨c0, c1, c2⟩ := HM.out.sh
            have W1 : IntKind.i64.wrap (N3 - 52) = N3 - 52 := IntWalk.i64_in _ (by omega)
            have W2 : IntKind.i64.wrap (N3 - 52 - 1) = N3 - 52 - 1 := IntWalk.i64_in _ (by omega)
            have W3 : IntKind.i64.wrap (N3 - 52 - 1 + p3) = N3 - 52 - 1 + p3 := IntWalk.i64_in _ (by omega)
            have W4 : IntKind.i64.wrap (last - (-1074)) = last - (-1074) := IntWalk.i64_in _ (by omega)
            go_upto_region 13 with (fail)
            clear W1 W2 W3 hmax
            have e1 : shF 64 = 52 := rfl
            have e2 : shL 64 = -1074 := rfl
            have e3 : (2 : Int) ^ shE 64 = 2046 + 2 := by decide
            have HK := Lib.hid (And.intro e1 (And.intro e2 e3))
            clear e1 e2 e3
            by_cases hd : 2046 ≤ last - (-1074)
            · have HE := Lib.hid (show R = sg + 9218868437227405312 by
                rw [HR.out, HM.out.near.out, prog_inf HW.out M p3 last hpos (by rw [HK.out.1, ← HM.out.bits.out]; have := HL3.out; omega) (by rw [HK.out.2.1, HK.out.2.2]; omega), HIW.out])
              have hd2 : decide (2046 ≤ last + 1074) = true := decide_eq_true (by omega)
              go_cut [71] (fun s71 wx => s71 = .bool true ∧ PNum 64 52 (-1074) 11 b w wx (nearE 64 (rM V more) (rE p more)) ad3 n3 c3 M p3 N3)
              case first =>
                go_quiet (fail)
                go_wp2_with fail
                go_meet
                case rel => exact ⟨by first | rfl | rw [hd2], HM.out.below (below_drewN (Below.refl _ _) _)⟩
              case rest =>
                obtain ⟨rfl, hm6⟩ := hcut
                obtain ⟨c0, c1, c2⟩ := hm6.sh
                have HM6 := Lib.hid hm6
                clear hm6
                go_wp2_with fail
                refine (HIn.out _).mono ?_
                rintro e w7 ⟨rfl, b7⟩
                have HM7 := Lib.hid (HM6.out.below b7)
                go_wp2_with fail
                refine (HSn.out w7 HM7.out.shp 9218868437227405312 (by omega)).mono ?_
                rintro e w8 ⟨rfl, b8⟩
                go_wp2
                go_ret
                rw [HE.out]
                exact ⟨rfl, below_trans HM7.out.bel b8⟩
            · have hd2 : decide (2046 ≤ last + 1074) = false := decide_eq_false (by omega)
              go_cut [71] (fun s71 wx => s71 = .bool false ∧ PNum 64 52 (-1074) 11 b w wx (nearE 64 (rM V more) (rE p more)) ad3 n3 c3 M p3 N3)
              case first =>
                go_quiet (fail)
                go_wp2_with fail
                go_meet
                case rel => exact ⟨by first | rfl | rw [hd2], HM.out.below (below_drewN (Below.refl _ _) _)⟩
              case rest =>
                obtain ⟨rfl, hm6⟩ := hcut
                obtain ⟨w6, hw6⟩ : ∃ x, x = wc := ⟨_, rfl⟩
                subst hw6
                have HM6 := Lib.hid hm6
                clear hm6 c0 c1 c2 HM
                generalize nearE 64 (rM V more) (rE p more) = T at *
                go_upto_if 78 with (fail)
                go_cut [12] (fun s12 wx => ∃ kept : Int, s12 = .int .u64 kept ∧ (0 ≤ kept ∧ kept ≤ 9007199254740992) ∧ Hid ((T : Int) = (last - (-1074)) * 4503599627370496 + kept) ∧ (last = -1074 ∨ 4503599627370496 ≤ kept) ∧ PAt 52 (-1074) 11 b w wx)
                case first =>
                  by_cases hlp : last ≤ p3
                  · have K := prog_exact HW.out M p3 N3 last (last - (-1074)) hpos HM6.out.bits.out (by rw [HK.out.1]; exact hl1) (by rw [HK.out.2.1]) (by omega) (by rw [HK.out.2.2]; omega) (by rw [HK.out.1]; have := HL3.out; omega) hlp
                    rw [HK.out.1, show (2 : Int) ^ 52 = 4503599627370496 from by decide, show (2 : Int) ^ (52 + 1) = 9007199254740992 from by decide, ← HM6.out.near.out] at K
                    obtain ⟨kp, hkp⟩ : ∃ kp, M * 2 ^ (p3 - last).toNat = kp := ⟨_, rfl⟩
                    rw [hkp] at K
                    obtain ⟨K1, K2, K3, K4⟩ := K
                    have hkp0 : 0 ≤ kp := by rw [← hkp]; exact Int.mul_nonneg (by omega) (Int.le_of_lt (Int.pow_pos (by omega)))
                    have HU := num_uint ad3 n3 c3 M w6 HM6.out.num (by omega)
                    rw [show low64 M = M by unfold low64; rw [if_pos (by omega)]] at HU
                    generalize fits64 M = ff at *
                    have HU1 := Lib.hid HU
                    have K1' := Lib.hid K1
                    have W5 : IntKind.i64.wrap (p3 - last) = p3 - last := IntWalk.i64_in _ (by omega)
                    have W6 : IntKind.u64.wrap kp = kp := by rw [IntKind.wrap_u64]; omega
                    have W7 : kp % 18446744073709551616 = kp := by omega
                    clear HU K1
                    go_wp2_with fail
                    refine (HU1.out).mono ?_
                    rintro e w' ⟨rfl, rfl⟩
                    go_wp2_with fail
                    go_meet
                    case rel => exact ⟨kp, rfl, by omega, K1'.out, by omega, HM6.out.sh, HM6.out.shp, HM6.out.bel⟩
                  · obtain ⟨q, hq⟩ : ∃ q, q = M / 2 ^ (last - p3 - 1).toNat := ⟨_, rfl⟩
                    obtain ⟨rest, hr⟩ : ∃ rest, rest = decide (M % 2 ^ (last - p3 - 1).toNat ≠ 0) := ⟨_, rfl⟩
                    have K := prog_cut HW.out M p3 N3 last (last - (-1074)) q hpos HM6.out.bits.out (by rw [HK.out.1]; exact hl1) (by rw [HK.out.2.1]) (by omega) (by rw [HK.out.2.2]; omega) (by rw [HK.out.1]; have := HL3.out; omega) (by omega) hq rest hr
                    rw [HK.out.1, show (2 : Int) ^ 52 = 4503599627370496 from by decide, show (2 : Int) ^ (52 + 2) = 18014398509481984 from by decide, ← HM6.out.near.out] at K
                    obtain ⟨K1, K2, K3, K4⟩ := K
                    have HS := num_shr ad3 n3 c3 M (last - p3 - 1) w6 HM6.out.num (by omega) (by omega)
                    rw [show shrNum M (last - p3 - 1) = q by unfold shrNum; rw [if_pos (by omega), hq], show shrMore M (last - p3 - 1) = rest by unfold shrMore; rw [decide_eq_true (by omega : 0 ≤ last - p3 - 1), Bool.true_and, hr]] at HS
                    have HS1 := Lib.hid HS
                    have K1' := Lib.hid K1
                    clear HS K1 hq hr
                    have W5 : IntKind.i64.wrap (last - p3) = last - p3 := IntWalk.i64_in _ (by omega)
                    have W6 : IntKind.i64.wrap (last - p3 - 1) = last - p3 - 1 := IntWalk.i64_in _ (by omega)
                    go_wp2_with fail
                    refine (HS1.out).mono ?_
                    rintro e w7 ⟨adq, lq, cq, rfl, fq, b7⟩
                    have hlq := fq.len_le 2 (Int.lt_of_lt_of_le K3 (by decide))
                    have HU := num_uint adq lq cq q w7 (fq.num K2) (by omega)
                    rw [show low64 q = q by unfold low64; rw [if_pos (by omega)]] at HU
                    generalize fits64 q = ff at *
                    have HU1 := Lib.hid HU
                    have HM7 := Lib.hid (HM6.out.below b7)
                    clear HU W5 W6
                    go_wp2_with fail
                    refine (HU1.out).mono ?_
                    rintro e w' ⟨rfl, rfl⟩
                    have A1 := and_one q ⟨K2, by omega⟩
                    have A2 := and_one (q / 2) ⟨by omega, by omega⟩
                    have W5 : IntKind.u64.wrap (q / 2 + 1) = q / 2 + 1 := by rw [IntKind.wrap_u64]; omega
                    have W6 : (q / 2 + 1) % 18446744073709551616 = q / 2 + 1 := by omega
                    by_cases hodd : q % 2 = 1
                    · have hc1 : rest = true ∨ (rest = false ∧ q / 2 % 2 = 1) ∨ (rest = false ∧ q / 2 % 2 = 0) := by cases rest <;> simp <;> omega
                      rcases hc1 with rfl | ⟨rfl, he⟩ | ⟨rfl, he⟩
                      · have K5 := Lib.hid (show (T : Int) = (last - (-1074)) * 4503599627370496 + (q / 2 + 1) by rw [K1'.out, if_pos ⟨hodd, .inl rfl⟩])
                        rw [hodd] at A1
                        go_wp2_with fail
                        go_meet
                        case rel => exact ⟨q / 2 + 1, rfl, by omega, K5.out, by omega, HM7.out.sh, HM7.out.shp, HM7.out.bel⟩
                      · have K5 := Lib.hid (show (T : Int) = (last - (-1074)) * 4503599627370496 + (q / 2 + 1) by rw [K1'.out, if_pos ⟨hodd, .inr he⟩])
                        rw [hodd] at A1
                        rw [he] at A2
                        go_wp2_with fail
                        go_meet
                        case rel => exact ⟨q / 2 + 1, rfl, by omega, K5.out, by omega, HM7.out.sh, HM7.out.shp, HM7.out.bel⟩
                      · have K5 := Lib.hid (show (T : Int) = (last - (-1074)) * 4503599627370496 + q / 2 by rw [K1'.out, if_neg (by rintro ⟨-, h | h⟩; exact absurd h (by decide); omega)])
                        rw [hodd] at A1
                        rw [he] at A2
                        go_wp2_with fail
                        go_meet
                        case rel => exact ⟨q / 2, rfl, by omega, K5.out, by omega, HM7.out.sh, HM7.out.shp, HM7.out.bel⟩
                    · have K5 := Lib.hid (show (T : Int) = (last - (-1074)) * 4503599627370496 + q / 2 by rw [K1'.out, if_neg (fun h => hodd h.1)])
                      rw [show q % 2 = 0 by omega] at A1
                      clear hodd
                      go_wp2_with fail
                      go_meet
                      case rel => exact ⟨q / 2, rfl, by omega, K5.out, by omega, HM7.out.sh, HM7.out.shp, HM7.out.bel⟩
                case rest =>
                  obtain ⟨kept, rfl, hk, HT, hor, hat⟩ := hcut
                  obtain ⟨w8, hw8⟩ : ∃ x, x = wc := ⟨_, rfl⟩
                  subst hw8
                  obtain ⟨sh8, hS8, b8⟩ := hat
                  obtain ⟨c0, c1, c2⟩ := sh8
                  clear HM6
                  by_cases hk0 : kept < 4503599627370496
                  · have HE := Lib.hid (show R = sg + kept by rw [HR.out, HT.out]; omega)
                    have hk1 : (kept / 4503599627370496 == 0) = true := by simp; omega
                    clear HT
                    go_wp2_with fail
                    refine (HSn.out w8 hS8 kept (by omega)).mono ?_
                    rintro e w9 ⟨rfl, b9⟩
                    go_wp2
                    go_ret
                    rw [HE.out]
                    exact ⟨rfl, below_trans b8 b9⟩
                  · have HE := Lib.hid (show R = sg + ((last + 1074) * 4503599627370496 + kept) by rw [HR.out, HT.out]; omega)
                    have hk1 : (kept / 4503599627370496 == 0) = false := by simp; omega
                    have W5 : IntKind.u64.wrap (last + 1074) = last + 1074 := by rw [IntKind.wrap_u64]; omega
                    have W6 : IntKind.u64.wrap ((last + 1074) * 4503599627370496) = (last + 1074) * 4503599627370496 := by rw [IntKind.wrap_u64]; omega
                    have W7 : IntKind.u64.wrap ((last + 1074) * 4503599627370496 + kept) = (last + 1074) * 4503599627370496 + kept := by rw [IntKind.wrap_u64]; omega
                    have V5 : (last + 1074) % 18446744073709551616 = last + 1074 := by omega
                    have V6 : (last + 1074) * 4503599627370496 % 18446744073709551616 = (last + 1074) * 4503599627370496 := by omega
                    have V7 : ((last + 1074) * 4503599627370496 + kept) % 18446744073709551616 = (last + 1074) * 4503599627370496 + kept := by omega
                    clear HT
                    go_wp2_with fail
                    refine (HSn.out w8 hS8 ((last + 1074) * 4503599627370496 + kept) (by omega)).mono ?_
                    rintro e w9 ⟨rfl, b9⟩
                    go_wp2
                    go_ret
                    rw [HE.out]
                    exact ⟨rfl, below_trans b8 b9⟩
end Go.Proofs.YtoimhjcpeifegaaGreatDoor

