/- nat.Sub: the difference, or that there is none. -/
import Derived.Test.YtemllpbpnndgeaaNCmp
import Derived.Test.YtemllpbpnndgeaaBitsSub
import Derived.Test.YtemllpbpnndgeaaAddMath
import Derived.Test.YtemllpbpnndgeaaRetLB
set_option linter.unusedVariables false
set_option linter.unusedSimpArgs false
namespace Go.Proofs.Ytemllpbpnndgeaa
open Go.RowKit

def SubR (w : World) (xs zs : List Int) (n i : Nat) (c : Int) (wr : World) : Prop :=
  ∃ ys, Blk wr w.heap.size 28 .u32 ys ∧ ys.length = n ∧ Dig 4294967296 ys ∧ Below w.heap.size w wr ∧ 0 ≤ c ∧ c ≤ 1 ∧
    val 4294967296 (ys.take i) + val 4294967296 (zs.take i) = val 4294967296 (xs.take i) + c * 4294967296 ^ i

theorem brw_mod (x z c : Int) (hx : 0 ≤ x ∧ x < 4294967296) (hz : 0 ≤ z ∧ z < 4294967296) (hc : 0 ≤ c ∧ c ≤ 1) :
    (x - z - c) % 4294967296 = x - z - c + brw x z c * 4294967296 ∧ 0 ≤ brw x z c ∧ brw x z c ≤ 1 := by
  unfold brw
  split <;> omega

set_option maxHeartbeats 1000000 in
theorem nsub_calls (ad bd : Option Addr) (na nb ca cb : Nat) (la lb : List Int) (w : World) (hna : na ≤ 70368744177664) (hnb : nb ≤ 70368744177664) (hac : na ≤ ca) (hbc : nb ≤ cb)
    (ha : Rds w .u32 ad na la) (hb : Rds w .u32 bd nb lb) (da : Dig 4294967296 la) (db : Dig 4294967296 lb) :
    Calls Try.prog 32 #[.slice ad na ca, .slice bd nb cb] w (RetLB 28 .u32 (dg 4294967296 (val 4294967296 la - val 4294967296 lb)) (decide (val 4294967296 lb ≤ val 4294967296 la)) w) := by
  have hc := Lib.hid (ncmp_calls ad bd na nb ca cb la lb w hna hnb hac hbc ha hb da db)
  by_cases hle : val 4294967296 lb ≤ val 4294967296 la
  · have hcm : (cmpI (val 4294967296 la) (val 4294967296 lb)) < 0 ↔ False := by unfold cmpI; simp; split <;> omega
    have HD := Lib.hid (decide_eq_true hle)
    have hcn : ¬ (cmpI (val 4294967296 la) (val 4294967296 lb)) < 0 := by simp [hcm]
    clear hcm
    generalize cmpI (val 4294967296 la) (val 4294967296 lb) = cc at *
    have rx := ha.norm
    have rz := hb.norm
    have dx := norm_dig da
    have dz := norm_dig db
    have hma := norm_length_le la
    have hnb' := norm_length_le lb
    rw [ha.len] at hma
    rw [hb.len] at hnb'
    have C1 := Lib.hid (fun q => cut_calls ad na ca la (w.drewN q) (by omega) hac (ha.drewN q))
    have C2 := Lib.hid (fun q => cut_calls bd nb cb lb (w.drewN q) (by omega) hbc (hb.drewN q))
    have hle2 : (norm lb).length ≤ (norm la).length := by
      rcases Nat.lt_or_ge (norm la).length (norm lb).length with h | h
      · have := lt_of_len (b := 4294967296) (by omega) dx dz (norm_norm lb) h
        rw [val_norm, val_norm] at this
        omega
      · exact h
    have HL := Lib.hid hle
    rw [← val_norm 4294967296 la, ← val_norm 4294967296 lb] at HL
    rw [← val_norm 4294967296 la, ← val_norm 4294967296 lb]
    rw [← val_norm 4294967296 la, ← val_norm 4294967296 lb] at HD
    clear ha hb da db hle
    generalize norm la = xs at *
    generalize norm lb = zs at *
    obtain ⟨m, hm⟩ : ∃ m, xs.length = m := ⟨_, rfl⟩
    obtain ⟨n, hn⟩ : ∃ n, zs.length = n := ⟨_, rfl⟩
    rw [hm] at rx hma C1 hle2
    rw [hn] at rz hnb' C2 hle2
    have HM := Lib.hid hm
    have HN := Lib.hid hn
    clear hm hn
    have hmk := make_rule (P := Try.prog) 23 28 .u32 4 Try.underlying23 info_limb (by omega) m (by omega) (m : Int) rfl
    go_enter Try.func32, Try.ntmps32
    go_wp2_with fail
    refine (hc.out).mono ?_
    rintro e w' ⟨rfl, q, rfl⟩
    have b0 := below_drewN (Below.refl w.heap.size w) q
    have C1' := Lib.hid (C1.out q)
    have C2' := Lib.hid (C2.out q)
    have rx' := rx.drewN q
    have rz' := rz.drewN q
    clear C1 C2 rx rz
    have hsz : (w.drewN q).heap.size = w.heap.size := rfl
    generalize w.drewN q = w1 at *
    go_wp2_with fail
    refine (C1'.out).mono ?_
    rintro e w' ⟨rfl, rfl⟩
    go_wp2_with fail
    refine (C2'.out).mono ?_
    rintro e w' ⟨rfl, rfl⟩
    clear hc C1' C2'
    have HS := Lib.hid hsz
    clear hsz
    have hr0 : SubR w1 xs zs m 0 0 (w1.alloc (.cells (nums .u32 (List.replicate m 0)).toArray 28)) :=
      ⟨_, Blk.made _ _ _ _ _ rfl, by simp, Dig.replicate _ (by omega) _, (Below.refl _ _).alloc (Nat.le_refl _) _, by omega, by omega, by simp [val]⟩
    go_wp2_with fail
    clear hmk
    go_loopw [23, 7] (fun i cy wr => ∃ k : Nat, ∃ c : Int, k ≤ m ∧ i = .int .i64 k ∧ cy = .int .u32 c ∧ SubR w1 xs zs m k c wr) (fun i _ _ => m - (intOf i).toNat)
    case atStart => exact ⟨0, 0, Nat.zero_le _, rfl, rfl, hr0⟩
    case round =>
      clear hr0
      obtain ⟨k, c, hk, rfl, rfl, ys, h1, h2, h3, h4, hc0, hc1, h5⟩ := hrel
      have H2 := Lib.hid h2
      have H5 := Lib.hid h5
      clear h2 h5
      by_cases hkm : k < m
      · obtain ⟨a, rfl, hxl⟩ := (rx'.below h4 (Nat.le_refl _)).cell k hkm
        have hf := h1.free k
        have hy := h1.cell k (by rw [H2.out]; omega)
        have bx := dx.get (by omega) k
        have bz := dz.get (by omega) k
        have bm := brw_mod _ _ c bx bz ⟨hc0, hc1⟩
        have HS2 := Lib.hid (sub_step 4294967296 xs zs ys k (by rw [H2.out]; omega) c _ _ bm.1 H5.out)
        obtain ⟨bm0, bb0, bb1⟩ := bm
        clear bm0
        clear H5
        by_cases hkn : k < n
        · obtain ⟨b, rfl, hzl⟩ := (rz'.below h4 (Nat.le_refl _)).cell k hkn
          have hs := Lib.hid (sub32_calls (xs[k]?.getD 0) (zs[k]?.getD 0) c wr bx bz ⟨hc0, hc1⟩)
          generalize xs[k]?.getD 0 = x at *
          generalize zs[k]?.getD 0 = z at *
          generalize brw x z c = bo at *
          go_wp2_with fail
          refine (hs.out).mono ?_
          rintro e w' ⟨rfl, rfl⟩
          clear hs
          go_wp2
          go_roundw
          case rel => exact ⟨k + 1, _, by omega, by go_num, rfl, _, h1.set k _, by simp [H2.out], h3.set (by omega) (by omega) _, below_set h4 _ _ _ (Nat.le_refl _), bb0, bb1, HS2.out⟩
          case measure => simp [intOf]; omega
        · have hz0 : zs[k]?.getD 0 = 0 := by rw [List.getElem?_eq_none (by rw [HN.out]; omega)]; rfl
          rw [hz0] at HS2 bb0 bb1
          have hs := Lib.hid (sub32_calls (xs[k]?.getD 0) 0 c wr bx (by omega) ⟨hc0, hc1⟩)
          rw [Int.sub_zero] at HS2 hs
          clear hz0 bz
          generalize xs[k]?.getD 0 = x at *
          generalize brw x 0 c = bo at *
          go_wp2_with fail
          refine (hs.out).mono ?_
          rintro e w' ⟨rfl, rfl⟩
          clear hs
          go_wp2
          go_roundw
          case rel => exact ⟨k + 1, _, by omega, by go_num, rfl, _, h1.set k _, by simp [H2.out], h3.set (by omega) (by omega) _, below_set h4 _ _ _ (Nat.le_refl _), bb0, bb1, HS2.out⟩
          case measure => simp [intOf]; omega
      · obtain rfl : k = m := by omega
        have HV := Lib.hid (sub_end 4294967296 (by omega) xs zs ys k h3 HM.out (by rw [HN.out]; exact hle2) H2.out c hc0 HL.out H5.out)
        have hcut := Lib.hid (cut_calls (some ⟨w1.heap.size, 0, none⟩) k k _ wr (by omega) (Nat.le_refl _) (by have := h1.rds; rwa [H2.out] at this))
        have R := h1.ret (Nat.le_refl _) (by rw [H2.out]; omega) h3 _ HV.out h4
        obtain ⟨rd, rn, rc, re, ro, rb⟩ := R
        have RE := Lib.hid re
        clear re
        go_wp2_with fail
        refine (hcut.out).mono ?_
        rintro e w' ⟨rfl, rfl⟩
        go_wp2_with fail
        go_ret2
        rw [HD.out]
        have re := RE.out
        injection re with re
        injection re with e1 e2 e3
        refine ⟨rd, rn, rc, ?_, ?_, ?_⟩
        · rw [← e1, ← e2, ← e3]; rfl
        · rw [← HS.out]; exact ro
        · rw [← HS.out] at b0 ⊢
          exact below_then b0 (Nat.le_refl _) rb
  · have hcn : (cmpI (val 4294967296 la) (val 4294967296 lb)) < 0 := by unfold cmpI; split <;> omega
    have HD := Lib.hid (decide_eq_false hle)
    have HZ := Lib.hid (show dg 4294967296 (val 4294967296 la - val 4294967296 lb) = [] by
      unfold dg
      rw [digs_nil _ _ (by omega)]
      omega)
    generalize cmpI (val 4294967296 la) (val 4294967296 lb) = cc at *
    clear hle
    go_enter Try.func32, Try.ntmps32
    go_wp2_with fail
    refine (hc.out).mono ?_
    rintro e w' ⟨rfl, q, rfl⟩
    go_wp2
    go_ret2
    rw [HD.out, HZ.out]
    exact ⟨none, 0, 0, rfl, Own.nil _ _ _ _ _, below_drewN (Below.refl _ _) q⟩
end Go.Proofs.Ytemllpbpnndgeaa
