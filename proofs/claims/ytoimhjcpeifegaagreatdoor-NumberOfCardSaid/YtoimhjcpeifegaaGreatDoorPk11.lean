/- Contracts of functions, and plain facts, part 11. -/
import Derived.Test.YtoimhjcpeifegaaGreatDoorPk4
import Derived.Test.YtoimhjcpeifegaaGreatDoorPk6
import Derived.Test.YtoimhjcpeifegaaGreatDoorPk7
import Derived.Test.YtoimhjcpeifegaaGreatDoorPk10
set_option linter.unusedVariables false
set_option linter.unusedSimpArgs false
/- nat.Sub: the difference, or that there is none. -/
namespace Go.Proofs.YtoimhjcpeifegaaGreatDoor
open Go.RowKit

def SubR (w : World) (xs zs : List Int) (n i : Nat) (c : Int) (wr : World) : Prop :=
  ∃ ys, Blk wr w.heap.size 23 .u32 ys ∧ ys.length = n ∧ Dig 4294967296 ys ∧ Below w.heap.size w wr ∧ 0 ≤ c ∧ c ≤ 1 ∧
    val 4294967296 (ys.take i) + val 4294967296 (zs.take i) = val 4294967296 (xs.take i) + c * 4294967296 ^ i

theorem brw_mod (x z c : Int) (hx : 0 ≤ x ∧ x < 4294967296) (hz : 0 ≤ z ∧ z < 4294967296) (hc : 0 ≤ c ∧ c ≤ 1) :
    (x - z - c) % 4294967296 = x - z - c + brw x z c * 4294967296 ∧ 0 ≤ brw x z c ∧ brw x z c ≤ 1 := by
  unfold brw
  split <;> omega

set_option maxHeartbeats 1000000 in
theorem nsub_calls (ad bd : Option Addr) (na nb ca cb : Nat) (la lb : List Int) (w : World) (hna : na ≤ 70368744177664) (hnb : nb ≤ 70368744177664) (hac : na ≤ ca) (hbc : nb ≤ cb)
    (ha : Rds w .u32 ad na la) (hb : Rds w .u32 bd nb lb) (da : Dig 4294967296 la) (db : Dig 4294967296 lb) :
    Calls Tryz.prog 164 #[.slice ad na ca, .slice bd nb cb] w (RetLB 23 .u32 (dg 4294967296 (val 4294967296 la - val 4294967296 lb)) (decide (val 4294967296 lb ≤ val 4294967296 la)) w) := by
  have hc := Lib.hid (ncmp_calls ad bd na nb ca cb la lb w hna hnb hac hbc ha hb da db)
  by_cases hle : val 4294967296 lb ≤ val 4294967296 la
  · have hcm : (cmpI (val 4294967296 la) (val 4294967296 lb)) < 0 ↔ False := by unfold cmpI; simp; split <;> omega
    have HD := Lib.hid (decide_eq_true hle)
    have hcn : ¬ (cmpI (val 4294967296 la) (val 4294967296 lb)) < 0 := by simp [hcm]
    clear hcm
    generalize cmpI (val 4294967296 la) (val 4294967296 lb) = cc at *
    have rx := ha.norm
    have rz := hb.norm
    have dx := norm_dig da
    have dz := norm_dig db
    have hma := norm_length_le la
    have hnb' := norm_length_le lb
    rw [ha.len] at hma
    rw [hb.len] at hnb'
    have C1 := Lib.hid (fun q => cut_calls ad na ca la (w.drewN q) (by omega) hac (ha.drewN q))
    have C2 := Lib.hid (fun q => cut_calls bd nb cb lb (w.drewN q) (by omega) hbc (hb.drewN q))
    have hle2 : (norm lb).length ≤ (norm la).length := by
      rcases Nat.lt_or_ge (norm la).length (norm lb).length with h | h
      · have := lt_of_len (b := 4294967296) (by omega) dx dz (norm_norm lb) h
        rw [val_norm, val_norm] at this
        omega
      · exact h
    have HL := Lib.hid hle
    rw [← val_norm 4294967296 la, ← val_norm 4294967296 lb] at HL
    rw [← val_norm 4294967296 la, ← val_norm 4294967296 lb]
    rw [← val_norm 4294967296 la, ← val_norm 4294967296 lb] at HD
    clear ha hb da db hle
    generalize norm la = xs at *
    generalize norm lb = zs at *
    obtain ⟨m, hm⟩ : ∃ m, xs.length = m := ⟨_, rfl⟩
    obtain ⟨n, hn⟩ : ∃ n, zs.length = n := ⟨_, rfl⟩
    rw [hm] at rx hma C1 hle2
    rw [hn] at rz hnb' C2 hle2
    have HM := Lib.hid hm
    have HN := Lib.hid hn
    clear hm hn
    have hmk := make_rule (P := Tryz.prog) 32 23 .u32 4 Tryz.underlying32 info_limb (by omega) m (by omega) (m : Int) rfl
    go_enter Tryz.func164, Tryz.ntmps164
    go_wp2_with fail
    refine (hc.out).mono ?_
    rintro e w' ⟨rfl, q, rfl⟩
    have b0 := below_drewN (Below.refl w.heap.size w) q
    have C1' := Lib.hid (C1.out q)
    have C2' := Lib.hid (C2.out q)
    have rx' := rx.drewN q
    have rz' := rz.drewN q
    clear C1 C2 rx rz
    have hsz : (w.drewN q).heap.size = w.heap.size := rfl
    generalize w.drewN q = w1 at *
    go_wp2_with fail
    refine (C1'.out).mono ?_
    rintro e w' ⟨rfl, rfl⟩
    go_wp2_with fail
    refine (C2'.out).mono ?_
    rintro e w' ⟨rfl, rfl⟩
    clear hc C1' C2'
    have HS := Lib.hid hsz
    clear hsz
    have hr0 : SubR w1 xs zs m 0 0 (w1.alloc (.cells (nums .u32 (List.replicate m 0)).toArray 23)) :=
      ⟨_, Blk.made _ _ _ _ _ rfl, by simp, Dig.replicate _ (by omega) _, (Below.refl _ _).alloc (Nat.le_refl _) _, by omega, by omega, by simp [val]⟩
    go_wp2_with fail
    clear hmk
    go_loopw [23, 7] (fun i cy wr => ∃ k : Nat, ∃ c : Int, k ≤ m ∧ i = .int .i64 k ∧ cy = .int .u32 c ∧ SubR w1 xs zs m k c wr) (fun i _ _ => m - (intOf i).toNat)
    case atStart => exact ⟨0, 0, Nat.zero_le _, rfl, rfl, hr0⟩
    case round =>
      clear hr0
      obtain ⟨k, c, hk, rfl, rfl, ys, h1, h2, h3, h4, hc0, hc1, h5⟩ := hrel
      have H2 := Lib.hid h2
      have H5 := Lib.hid h5
      clear h2 h5
      by_cases hkm : k < m
      · obtain ⟨a, rfl, hxl⟩ := (rx'.below h4 (Nat.le_refl _)).cell k hkm
        have hf := h1.free k
        have hy := h1.cell k (by rw [H2.out]; omega)
        have bx := dx.get (by omega) k
        have bz := dz.get (by omega) k
        have bm := brw_mod _ _ c bx bz ⟨hc0, hc1⟩
        have HS2 := Lib.hid (sub_step 4294967296 xs zs ys k (by rw [H2.out]; omega) c _ _ bm.1 H5.out)
        obtain ⟨bm0, bb0, bb1⟩ := bm
        clear bm0
        clear H5
        by_cases hkn : k < n
        · obtain ⟨b, rfl, hzl⟩ := (rz'.below h4 (Nat.le_refl _)).cell k hkn
          have hs := Lib.hid (sub32_calls (xs[k]?.getD 0) (zs[k]?.getD 0) c wr bx bz ⟨hc0, hc1⟩)
          generalize xs[k]?.getD 0 = x at *
          generalize zs[k]?.getD 0 = z at *
          generalize brw x z c = bo at *
          go_wp2_with fail
          refine (hs.out).mono ?_
          rintro e w' ⟨rfl, rfl⟩
          clear hs
          go_wp2
          go_roundw
          case rel => exact ⟨k + 1, _, by omega, by go_num, rfl, _, h1.set k _, by simp [H2.out], h3.set (by omega) (by omega) _, below_set h4 _ _ _ (Nat.le_refl _), bb0, bb1, HS2.out⟩
          case measure => simp [intOf]; omega
        · have hz0 : zs[k]?.getD 0 = 0 := by rw [List.getElem?_eq_none (by rw [HN.out]; omega)]; rfl
          rw [hz0] at HS2 bb0 bb1
          have hs := Lib.hid (sub32_calls (xs[k]?.getD 0) 0 c wr bx (by omega) ⟨hc0, hc1⟩)
          rw [Int.sub_zero] at HS2 hs
          clear hz0 bz
          generalize xs[k]?.getD 0 = x at *
          generalize brw x 0 c = bo at *
          go_wp2_with fail
          refine (hs.out).mono ?_
          rintro e w' ⟨rfl, rfl⟩
          clear hs
          go_wp2
          go_roundw
          case rel => exact ⟨k + 1, _, by omega, by go_num, rfl, _, h1.set k _, by simp [H2.out], h3.set (by omega) (by omega) _, below_set h4 _ _ _ (Nat.le_refl _), bb0, bb1, HS2.out⟩
          case measure => simp [intOf]; omega
      · obtain rfl : k = m := by omega
        have HV := Lib.hid (sub_end 4294967296 (by omega) xs zs ys k h3 HM.out (by rw [HN.out]; exact hle2) H2.out c hc0 HL.out H5.out)
        have hcut := Lib.hid (cut_calls (some ⟨w1.heap.size, 0, none⟩) k k _ wr (by omega) (Nat.le_refl _) (by have := h1.rds; rwa [H2.out] at this))
        have R := h1.ret (Nat.le_refl _) (by rw [H2.out]; omega) h3 _ HV.out h4
        obtain ⟨rd, rn, rc, re, ro, rb⟩ := R
        have RE := Lib.hid re
        clear re
        go_wp2_with fail
        refine (hcut.out).mono ?_
        rintro e w' ⟨rfl, rfl⟩
        go_wp2_with fail
        go_ret2
        rw [HD.out]
        have re := RE.out
        injection re with re
        injection re with e1 e2 e3
        refine ⟨rd, rn, rc, ?_, ?_, ?_⟩
        · rw [← e1, ← e2, ← e3]; rfl
        · rw [← HS.out]; exact ro
        · rw [← HS.out] at b0 ⊢
          exact below_then b0 (Nat.le_refl _) rb
  · have hcn : (cmpI (val 4294967296 la) (val 4294967296 lb)) < 0 := by unfold cmpI; split <;> omega
    have HD := Lib.hid (decide_eq_false hle)
    have HZ := Lib.hid (show dg 4294967296 (val 4294967296 la - val 4294967296 lb) = [] by
      unfold dg
      rw [digs_nil _ _ (by omega)]
      omega)
    generalize cmpI (val 4294967296 la) (val 4294967296 lb) = cc at *
    clear hle
    go_enter Tryz.func164, Tryz.ntmps164
    go_wp2_with fail
    refine (hc.out).mono ?_
    rintro e w' ⟨rfl, q, rfl⟩
    go_wp2
    go_ret2
    rw [HD.out, HZ.out]
    exact ⟨none, 0, 0, rfl, Own.nil _ _ _ _ _, below_drewN (Below.refl _ _) q⟩
end Go.Proofs.YtoimhjcpeifegaaGreatDoor

/- NCmp by worth alone. -/
namespace Go.Proofs.YtoimhjcpeifegaaGreatDoor
open Go.RowKit

theorem num_cmp (ad bd : Option Addr) (n m c d : Nat) (V U : Int) (w : World) (h : Num w ad n c V) (k : Num w bd m d U) (hn : n ≤ 70368744177663) (hm : m ≤ 70368744177663) :
    Calls Tryz.prog 114 #[.slice ad n c, .slice bd m d] w (RetI (cmpI V U) w) := by
  obtain ⟨xs, h1, h2, rfl⟩ := h.row
  obtain ⟨zs, k1, k2, rfl⟩ := k.row
  exact (ncmp_calls ad bd n m c d xs zs w (by omega) (by omega) h.le k.le h1 k1 h2 k2).mono fun e w' q => q
end Go.Proofs.YtoimhjcpeifegaaGreatDoor

/- crucibleref01.at, Add: the sum. -/
namespace Go.Proofs.YtoimhjcpeifegaaGreatDoor
open Go.RowKit

theorem at_calls (ad : Option Addr) (n c : Nat) (xs : List Int) (j : Nat) (w : World) (hn : n ≤ 9223372036854775807) (hr : Rds w .i64 ad n xs) :
    Calls Tryz.prog 189 #[.slice ad n c, .int .i64 j] w fun e w' => e = .returned (.int .i64 (xs[j]?.getD 0)) ∧ w = w' := by
  by_cases hj : j < n
  · obtain ⟨a, rfl, hxl⟩ := hr.cell j hj
    clear hr
    generalize xs[j]?.getD 0 = x at *
    go_enter Tryz.func189, Tryz.ntmps189
    go_wp2
    go_ret
    exact ⟨rfl, rfl⟩
  · have h0 := Lib.hid (show xs[j]?.getD 0 = 0 by rw [List.getElem?_eq_none (by rw [hr.len]; omega)]; rfl)
    clear hr
    go_enter Tryz.func189, Tryz.ntmps189
    go_wp2
    go_ret
    rw [h0.out]
    exact ⟨rfl, rfl⟩

def RAddR (w : World) (xs zs : List Int) (k : Nat) (c : Int) (v : Value) (wr : World) : Prop :=
  ∃ ad cp ds, v = .slice ad k cp ∧ App w.heap.size wr 3 .i64 ad k cp ds ∧ Dig 256 ds ∧ Below w.heap.size w wr ∧ w.heap.size ≤ wr.heap.size ∧ 0 ≤ c ∧ c ≤ 1 ∧
    val 256 ds + c * 256 ^ k = val 256 (xs.take k) + val 256 (zs.take k)

theorem radd_step (xs zs ds : List Int) (k : Nat) (hk : ds.length = k) (c T : Int) (hT : T = xs[k]?.getD 0 + zs[k]?.getD 0 + c)
    (E : val 256 ds + c * 256 ^ k = val 256 (xs.take k) + val 256 (zs.take k)) :
    val 256 (ds ++ [T % 256]) + (T / 256) * 256 ^ (k + 1) = val 256 (xs.take (k + 1)) + val 256 (zs.take (k + 1)) := by
  rw [val_snoc, hk, val_take_succ', val_take_succ', Int.pow_succ]
  have h := Int.emod_add_mul_ediv T 256
  generalize xs[k]?.getD 0 = x at *
  generalize zs[k]?.getD 0 = z at *
  generalize T / 256 = q at *
  generalize T % 256 = r at *
  generalize (256 : Int) ^ k = P at *
  generalize val 256 ds = Y at *
  generalize val 256 (xs.take k) = X at *
  generalize val 256 (zs.take k) = Z at *
  have e : r = x + z + c - 256 * q := by omega
  subst e
  grind

set_option maxHeartbeats 1000000 in
theorem radd_calls (ad bd : Option Addr) (na nb ca cb : Nat) (la lb : List Int) (w : World) (hna : na ≤ 1099511627776) (hnb : nb ≤ 1099511627776)
    (ha : Rds w .u32 ad na la) (hb : Rds w .u32 bd nb lb) (da : Dig 4294967296 la) (db : Dig 4294967296 lb) :
    Calls Tryz.prog 172 #[.slice ad na ca, .slice bd nb cb] w (RetL 23 .u32 (dg 4294967296 (val 4294967296 la + val 4294967296 lb)) w) := by
  have l1 := bytes_len ha.len da
  have l2 := bytes_len hb.len db
  have C1 := Lib.hid (bytes_calls ad na ca la w (by omega) ha da)
  have C2 := Lib.hid (fun (w1 : World) (h : Below w.heap.size w w1) => bytes_calls bd nb cb lb w1 (by omega) (hb.below h (Nat.le_refl _)) db)
  have vx := Lib.hid (val_dg 256 (by omega) (val 4294967296 la) (val_nonneg (by omega) da))
  have vz := Lib.hid (val_dg 256 (by omega) (val 4294967296 lb) (val_nonneg (by omega) db))
  have dx : Dig 256 (dg 256 (val 4294967296 la)) := dg_dig 256 (by omega) _
  have dz : Dig 256 (dg 256 (val 4294967296 lb)) := dg_dig 256 (by omega) _
  clear ha hb da db
  generalize dg 256 (val 4294967296 la) = xs at *
  generalize dg 256 (val 4294967296 lb) = zs at *
  go_enter Tryz.func172, Tryz.ntmps172
  go_wp2_with fail
  refine (C1.out).mono ?_
  rintro e w1 ⟨xd, m, cx, rfl, ox, b1⟩
  have C2' := Lib.hid (C2.out w1 b1)
  clear C2 C1
  go_wp2_with fail
  refine (C2'.out).mono ?_
  rintro e w2 ⟨zd, n, cz, rfl, oz, b2⟩
  clear C2'
  have rx := (ox.below b2 (Nat.le_refl _)).rds
  have rz := oz.rds
  have BB := below_trans b1 b2
  have HM := Lib.hid rx.len
  have HN := Lib.hid rz.len
  rw [HM.out] at l1
  rw [HN.out] at l2
  clear ox oz b1 b2
  obtain ⟨M, hM1, hM2, hM3⟩ : ∃ M, m ≤ M ∧ n ≤ M ∧ M ≤ 4398046511104 := ⟨max m n, Nat.le_max_left _ _, Nat.le_max_right _ _, by omega⟩
  have hr0 : RAddR w2 xs zs 0 0 (.slice none 0 0) w2 := ⟨none, 0, [], rfl, App.nil _ _ _ _, Dig.nil _, Below.refl _ _, Nat.le_refl _, by omega, by omega, by simp [val]⟩
  go_wp2_with fail
  go_loopw [9, 8, 7] (fun i cy v wr => ∃ k : Nat, ∃ c : Int, k ≤ M + 1 ∧ (k ≤ M ∨ c = 0) ∧ i = .int .i64 k ∧ cy = .int .i64 c ∧ RAddR w2 xs zs k c v wr) (fun i _ _ _ => M + 1 - (intOf i).toNat)
  case atStart => exact ⟨0, 0, by omega, .inr rfl, rfl, rfl, hr0⟩
  case round =>
    clear hr0
    obtain ⟨k, c, hk, hkc, rfl, rfl, ad3, c3, ds, rfl, g1, g2, g3, g4, g5, g6, g7⟩ := hrel
    have H7 := Lib.hid g7
    have HKC := Lib.hid hkc
    clear g7 hkc
    by_cases hgo : k < m ∨ k < n ∨ 0 < c
    · have hkM : k ≤ M := by rcases HKC.out with h | h <;> omega
      have rx' := rx.below g3 (Nat.le_refl _)
      have rz' := rz.below g3 (Nat.le_refl _)
      have a1 := Lib.hid (at_calls xd m cx xs k wr (by omega) rx')
      have a2 := Lib.hid (at_calls zd n cz zs k wr (by omega) rz')
      have bx := dx.get (by omega) k
      have bz := dz.get (by omega) k
      have HE := Lib.hid (radd_step xs zs ds k g1.len c (xs[k]?.getD 0 + zs[k]?.getD 0 + c) rfl H7.out)
      have HC := Lib.hid (show (k + 1 ≤ M ∨ (xs[k]?.getD 0 + zs[k]?.getD 0 + c) / 256 = 0) by
        rcases Nat.lt_or_ge k M with h | h
        · exact .inl h
        · refine .inr ?_
          rw [List.getElem?_eq_none (by rw [HM.out]; omega), List.getElem?_eq_none (by rw [HN.out]; omega)]
          simp
          omega)
      clear rx' rz' H7 HKC
      generalize xs[k]?.getD 0 = x at *
      generalize zs[k]?.getD 0 = z at *
      have fin : ∀ w3 ad4 c4, App w2.heap.size w3 3 .i64 ad4 (k + 1) c4 (ds ++ [(x + z + c) % 256]) → Below w2.heap.size w2 w3 → w2.heap.size ≤ w3.heap.size → RAddR w2 xs zs (k + 1) ((x + z + c) / 256) (.slice ad4 (k + 1) c4) w3 :=
        fun w3 ad4 c4 h1 h2 h3 => ⟨ad4, c4, _, rfl, h1, g2.append (Dig.cons (by omega) (by omega) (Dig.nil _)), h2, h3, by omega, by omega, HE.out⟩
      have FIN := Lib.hid fin
      clear fin
      by_cases t1 : k < m
      case pos =>
        clear hgo
        go_wp2_with fail
        refine (a1.out).mono ?_
        rintro e w' ⟨rfl, rfl⟩
        go_wp2_with fail
        refine (a2.out).mono ?_
        rintro e w' ⟨rfl, rfl⟩
        go_wp2_with (at_builtin; refine app_one w2.heap.size rfl (.tmp 40) (.tmp 43) 182 3 .i64 8 rfl Tryz.underlying182 info_int (by omega) ad3 k c3 ds ((x + z + c) % 256) rfl rfl g1 g3 g4 (by omega) ?_; intro ad4 c4 w4 k1 k2 k3)
        go_roundw
        case rel => exact ⟨k + 1, _, by omega, HC.out, by go_num, rfl, FIN.out _ _ _ k1 k2 k3⟩
        case measure => simp [intOf]; omega
      case neg =>
        by_cases t2 : k < n
        case pos =>
          clear hgo
          go_wp2_with fail
          refine (a1.out).mono ?_
          rintro e w' ⟨rfl, rfl⟩
          go_wp2_with fail
          refine (a2.out).mono ?_
          rintro e w' ⟨rfl, rfl⟩
          go_wp2_with (at_builtin; refine app_one w2.heap.size rfl (.tmp 40) (.tmp 43) 182 3 .i64 8 rfl Tryz.underlying182 info_int (by omega) ad3 k c3 ds ((x + z + c) % 256) rfl rfl g1 g3 g4 (by omega) ?_; intro ad4 c4 w4 k1 k2 k3)
          go_roundw
          case rel => exact ⟨k + 1, _, by omega, HC.out, by go_num, rfl, FIN.out _ _ _ k1 k2 k3⟩
          case measure => simp [intOf]; omega
        case neg =>
          have t3 : 0 < c := by omega
          clear hgo
          go_wp2_with fail
          refine (a1.out).mono ?_
          rintro e w' ⟨rfl, rfl⟩
          go_wp2_with fail
          refine (a2.out).mono ?_
          rintro e w' ⟨rfl, rfl⟩
          go_wp2_with (at_builtin; refine app_one w2.heap.size rfl (.tmp 40) (.tmp 43) 182 3 .i64 8 rfl Tryz.underlying182 info_int (by omega) ad3 k c3 ds ((x + z + c) % 256) rfl rfl g1 g3 g4 (by omega) ?_; intro ad4 c4 w4 k1 k2 k3)
          go_roundw
          case rel => exact ⟨k + 1, _, by omega, HC.out, by go_num, rfl, FIN.out _ _ _ k1 k2 k3⟩
          case measure => simp [intOf]; omega
    · have t1 : ¬ k < m := by omega
      have t2 : ¬ k < n := by omega
      obtain rfl : c = 0 := by omega
      clear hgo
      have hv : val 256 ds = val 4294967296 la + val 4294967296 lb := by
        have := H7.out
        rw [List.take_of_length_le (by rw [HM.out]; omega), List.take_of_length_le (by rw [HN.out]; omega)] at this
        rw [show val 256 xs = val 4294967296 la from vx.out, show val 256 zs = val 4294967296 lb from vz.out] at this
        simpa using this
      have hl := limbs_calls ad3 k c3 ds wr (by omega) g1.own.le g1.rds g2
      rw [hv] at hl
      have HL := Lib.hid hl
      clear hv hl
      go_wp2_with fail
      refine (HL.out).mono ?_
      rintro e w' hr
      obtain ⟨rd, nr, cr, rfl, or, br⟩ := hr.after (below_trans BB g3)
      go_wp2_with fail
      go_ret
      exact ⟨_, _, _, rfl, or, br⟩
end Go.Proofs.YtoimhjcpeifegaaGreatDoor

/- RCmp by worth alone. -/
namespace Go.Proofs.YtoimhjcpeifegaaGreatDoor
open Go.RowKit

theorem num_rcmp (ad bd : Option Addr) (n m c d : Nat) (V U : Int) (w : World) (h : Num w ad n c V) (k : Num w bd m d U) (hn : n ≤ 1099511627776) (hm : m ≤ 1099511627776) :
    Calls Tryz.prog 130 #[.slice ad n c, .slice bd m d] w (RetIB (cmpI V U) w) := by
  obtain ⟨xs, h1, h2, rfl⟩ := h.row
  obtain ⟨zs, k1, k2, rfl⟩ := k.row
  exact (rcmp_calls ad bd n m c d xs zs w (by omega) (by omega) h1 k1 h2 k2).mono fun e w' q => q
end Go.Proofs.YtoimhjcpeifegaaGreatDoor

/- RNorm by worth alone. -/
namespace Go.Proofs.YtoimhjcpeifegaaGreatDoor
open Go.RowKit

theorem num_rnorm (ad : Option Addr) (n c : Nat) (V : Int) (w : World) (h : Num w ad n c V) (hn : n ≤ 1099511627776) :
    Calls Tryz.prog 128 #[.slice ad n c] w (RetC V w) := by
  obtain ⟨xs, h1, h2, rfl⟩ := h.row
  exact (rnorm_calls ad n c xs w (by omega) h1 h2).mono fun e w' q => q.can
end Go.Proofs.YtoimhjcpeifegaaGreatDoor

/- crucibleref01.Len: how many bits it has. -/
namespace Go.Proofs.YtoimhjcpeifegaaGreatDoor
open Go.RowKit
theorem rlen_calls (ad : Option Addr) (n c : Nat) (la : List Int) (w : World) (hn : n ≤ 1099511627776) (hr : Rds w .u32 ad n la) (da : Dig 4294967296 la) :
    Calls Tryz.prog 144 #[.slice ad n c] w fun e w' => e = .returned (.int .i64 (bitsOf (val 4294967296 la))) ∧ Below w.heap.size w w' := by
  have l1 := bytes_len hr.len da
  have C1 := Lib.hid (bytes_calls ad n c la w (by omega) hr da)
  have V0 := val_nonneg (b := 4294967296) (by omega) da
  have vx := Lib.hid (val_dg 256 (by omega) (val 4294967296 la) V0)
  have nx := Lib.hid (norm_dg 256 (by omega) (val 4294967296 la))
  have dx : Dig 256 (dg 256 (val 4294967296 la)) := dg_dig 256 (by omega) _
  clear hr da
  generalize dg 256 (val 4294967296 la) = xs at *
  generalize val 4294967296 la = V at *
  go_enter Tryz.func144, Tryz.ntmps144
  go_wp2_with fail
  refine (C1.out).mono ?_
  rintro e w1 ⟨xd, m, cx, rfl, ox, b1⟩
  have rx := ox.rds
  have HM := Lib.hid ox.len
  rw [HM.out] at l1
  clear C1 ox
  by_cases h0 : m = 0
  · subst h0
    have HB := Lib.hid (show bitsOf V = 0 by
      have e : xs = [] := List.eq_nil_of_length_eq_zero HM.out
      have e0 : val 256 xs = V := vx.out
      rw [← e0, e]
      rfl)
    go_wp2
    go_ret
    rw [HB.out]
    exact ⟨rfl, b1⟩
  · obtain ⟨t, rfl⟩ : ∃ t, m = t + 1 := ⟨m - 1, by omega⟩
    have bx := dx.get (by omega) t
    have HB := Lib.hid (show bitsOf V = 8 * (t : Int) + (blen (xs[t]?.getD 0).toNat : Nat) by
      have e0 : val 256 xs = V := vx.out
      unfold bitsOf
      rw [← e0, blen_list 8 256 (by decide) xs dx nx.out t HM.out]
      simp)
    clear h0
    obtain ⟨a, rfl, hxl⟩ := rx.cell t (by omega)
    generalize xs[t]?.getD 0 = x at *
    have hmm : ((((t + 1 : Nat) : Int)) == 0) = false := by simp; omega
    go_wp2
    go_loop [4, 5] (fun s p => ∃ q : Int, ∃ y : Int, 0 ≤ y ∧ y ≤ x ∧ 0 ≤ q ∧ q ≤ 8 * (t : Int) + x ∧ s = .int .i64 q ∧ p = .int .i64 y ∧ Hid (q + (blen y.toNat : Nat) = bitsOf V) ∧ Hid (q + y ≤ 8 * (t : Int) + x)) (fun _ p => (intOf p).toNat)
    case atStart => exact ⟨8 * (t : Int), x, by omega, by omega, by omega, by omega, rfl, rfl, HB.out.symm, Int.le_refl _⟩
    case round =>
      obtain ⟨q, y, hy0, hy1, hq0, hq1, rfl, rfl, hs, hs2⟩ := hrel
      by_cases hy : 0 < y
      · have HS := Lib.hid (show (q + 1) + (blen (y / 2).toNat : Nat) = bitsOf V by
          have := hs.out
          rw [blen_half y.toNat (by omega)] at this
          rw [show (y / 2).toNat = y.toNat / 2 by omega]
          omega)
        have h3 := hs2.out
        go_wp2
        go_round
        case rel => exact ⟨q + 1, y / 2, by omega, by omega, by omega, by omega, rfl, rfl, HS.out, by show q + 1 + y / 2 ≤ _; omega⟩
        case measure => simp [intOf]; omega
      · obtain rfl : y = 0 := by omega
        have HS := Lib.hid (show q = bitsOf V by have := hs.out; simpa [blen] using this)
        clear HB hs
        go_wp2
        go_ret
        rw [← HS.out]
        exact ⟨rfl, b1⟩
end Go.Proofs.YtoimhjcpeifegaaGreatDoor

/- The shapes of the three widths, and what a pattern is: plain definitions. -/
namespace Go.Proofs.YtoimhjcpeifegaaGreatDoor

/-- Of a width (16, 32; all others: 64): digits of the fraction, digits of the exponent, the least power. -/
def shF (W : Nat) : Nat := if W = 16 then 10 else if W = 32 then 23 else 52
def shE (W : Nat) : Nat := if W = 16 then 5 else if W = 32 then 8 else 11
def shL (W : Nat) : Int := if W = 16 then -24 else if W = 32 then -149 else -1074
/-- The sign bit, the infinite pattern, the one for no number. -/
def sgnW (W : Nat) : Int := 2 ^ (W - 1)
def infW (W : Nat) : Int := (2 ^ shE W - 1) * 2 ^ shF W
def nanW (W : Nat) : Int := infW W + 2 ^ (shF W - 1)
def negW (W : Nat) (x : Int) : Bool := decide (sgnW W ≤ x)
def sizeW (W : Nat) (x : Int) : Int := if sgnW W ≤ x then x - sgnW W else x

/-- The three widths. -/
def Wide (W : Nat) : Prop := W = 16 ∨ W = 32 ∨ W = 64

theorem sgn16 : sgnW 16 = 32768 := by decide
theorem sgn32 : sgnW 32 = 2147483648 := by decide
theorem sgn64 : sgnW 64 = 9223372036854775808 := by decide
theorem inf16 : infW 16 = 31744 := by decide
theorem inf32 : infW 32 = 2139095040 := by decide
theorem inf64 : infW 64 = 9218868437227405312 := by decide
theorem nan16 : nanW 16 = 32256 := by decide
theorem nan32 : nanW 32 = 2143289344 := by decide
theorem nan64 : nanW 64 = 9221120237041090560 := by decide

theorem size_bounds {W : Nat} (hW : Wide W) (x : Int) (h : 0 ≤ x ∧ x < 2 ^ W) : 0 ≤ sizeW W x ∧ sizeW W x < sgnW W := by
  have e : (2 : Int) ^ W = sgnW W + sgnW W := by rcases hW with rfl | rfl | rfl <;> decide
  unfold sizeW
  split <;> omega

/-- The class: 0 none, as api names them. -/
def isNaN (W : Nat) (x : Int) : Bool := decide (infW W < sizeW W x)

/-- The order of all patterns. -/
def totalW (W : Nat) (x y : Int) : Int :=
  if negW W x then (if negW W y then cmpI y x else -1) else (if negW W y then 1 else cmpI x y)
def cmpW (W : Nat) (x y : Int) : Int × Bool :=
  if isNaN W x || isNaN W y then (0, false) else if sizeW W x = 0 ∧ sizeW W y = 0 then (0, true) else (totalW W x y, true)
def nextW (W : Nat) (x : Int) : Int :=
  if infW W < sizeW W x ∨ x = infW W then x else if sizeW W x = 0 then 1 else if negW W x then x - 1 else x + 1
end Go.Proofs.YtoimhjcpeifegaaGreatDoor

/- NLen by worth alone. -/
namespace Go.Proofs.YtoimhjcpeifegaaGreatDoor
open Go.RowKit

theorem num_len (ad : Option Addr) (n c : Nat) (V : Int) (w : World) (h : Num w ad n c V) (hn : n ≤ 70368744177663) :
    Calls Tryz.prog 86 #[.slice ad n c] w (fun e w' => e = .returned (.int .i64 (bitsOf V)) ∧ w = w') := by
  obtain ⟨xs, h1, h2, rfl⟩ := h.row
  exact (nlen_calls ad n c xs w (by omega) h.le h1 h2).mono fun e w' q => q
end Go.Proofs.YtoimhjcpeifegaaGreatDoor
