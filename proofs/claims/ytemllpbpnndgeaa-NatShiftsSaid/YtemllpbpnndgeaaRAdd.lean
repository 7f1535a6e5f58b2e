/- crucibleref01.at, Add: the sum. -/
import Derived.Test.YtemllpbpnndgeaaBytes
import Derived.Test.YtemllpbpnndgeaaAddMath
set_option linter.unusedVariables false
set_option linter.unusedSimpArgs false
namespace Go.Proofs.Ytemllpbpnndgeaa
open Go.RowKit

theorem at_calls (ad : Option Addr) (n c : Nat) (xs : List Int) (j : Nat) (w : World) (hn : n ≤ 9223372036854775807) (hr : Rds w .i64 ad n xs) :
    Calls Try.prog 48 #[.slice ad n c, .int .i64 j] w fun e w' => e = .returned (.int .i64 (xs[j]?.getD 0)) ∧ w = w' := by
  by_cases hj : j < n
  · obtain ⟨a, rfl, hxl⟩ := hr.cell j hj
    clear hr
    generalize xs[j]?.getD 0 = x at *
    go_enter Try.func48, Try.ntmps48
    go_wp2
    go_ret
    exact ⟨rfl, rfl⟩
  · have h0 := Lib.hid (show xs[j]?.getD 0 = 0 by rw [List.getElem?_eq_none (by rw [hr.len]; omega)]; rfl)
    clear hr
    go_enter Try.func48, Try.ntmps48
    go_wp2
    go_ret
    rw [h0.out]
    exact ⟨rfl, rfl⟩

def RAddR (w : World) (xs zs : List Int) (k : Nat) (c : Int) (v : Value) (wr : World) : Prop :=
  ∃ ad cp ds, v = .slice ad k cp ∧ App w.heap.size wr 3 .i64 ad k cp ds ∧ Dig 256 ds ∧ Below w.heap.size w wr ∧ w.heap.size ≤ wr.heap.size ∧ 0 ≤ c ∧ c ≤ 1 ∧
    val 256 ds + c * 256 ^ k = val 256 (xs.take k) + val 256 (zs.take k)

theorem radd_step (xs zs ds : List Int) (k : Nat) (hk : ds.length = k) (c T : Int) (hT : T = xs[k]?.getD 0 + zs[k]?.getD 0 + c)
    (E : val 256 ds + c * 256 ^ k = val 256 (xs.take k) + val 256 (zs.take k)) :
    val 256 (ds ++ [T % 256]) + (T / 256) * 256 ^ (k + 1) = val 256 (xs.take (k + 1)) + val 256 (zs.take (k + 1)) := by
  rw [val_snoc, hk, val_take_succ', val_take_succ', Int.pow_succ]
  have h := Int.emod_add_mul_ediv T 256
  generalize xs[k]?.getD 0 = x at *
  generalize zs[k]?.getD 0 = z at *
  generalize T / 256 = q at *
  generalize T % 256 = r at *
  generalize (256 : Int) ^ k = P at *
  generalize val 256 ds = Y at *
  generalize val 256 (xs.take k) = X at *
  generalize val 256 (zs.take k) = Z at *
  have e : r = x + z + c - 256 * q := by omega
  subst e
  grind

set_option maxHeartbeats 1000000 in
theorem radd_calls (ad bd : Option Addr) (na nb ca cb : Nat) (la lb : List Int) (w : World) (hna : na ≤ 1099511627776) (hnb : nb ≤ 1099511627776)
    (ha : Rds w .u32 ad na la) (hb : Rds w .u32 bd nb lb) (da : Dig 4294967296 la) (db : Dig 4294967296 lb) :
    Calls Try.prog 37 #[.slice ad na ca, .slice bd nb cb] w (RetL 28 .u32 (dg 4294967296 (val 4294967296 la + val 4294967296 lb)) w) := by
  have l1 := bytes_len ha.len da
  have l2 := bytes_len hb.len db
  have C1 := Lib.hid (bytes_calls ad na ca la w (by omega) ha da)
  have C2 := Lib.hid (fun (w1 : World) (h : Below w.heap.size w w1) => bytes_calls bd nb cb lb w1 (by omega) (hb.below h (Nat.le_refl _)) db)
  have vx := Lib.hid (val_dg 256 (by omega) (val 4294967296 la) (val_nonneg (by omega) da))
  have vz := Lib.hid (val_dg 256 (by omega) (val 4294967296 lb) (val_nonneg (by omega) db))
  have dx : Dig 256 (dg 256 (val 4294967296 la)) := dg_dig 256 (by omega) _
  have dz : Dig 256 (dg 256 (val 4294967296 lb)) := dg_dig 256 (by omega) _
  clear ha hb da db
  generalize dg 256 (val 4294967296 la) = xs at *
  generalize dg 256 (val 4294967296 lb) = zs at *
  go_enter Try.func37, Try.ntmps37
  go_wp2_with fail
  refine (C1.out).mono ?_
  rintro e w1 ⟨xd, m, cx, rfl, ox, b1⟩
  have C2' := Lib.hid (C2.out w1 b1)
  clear C2 C1
  go_wp2_with fail
  refine (C2'.out).mono ?_
  rintro e w2 ⟨zd, n, cz, rfl, oz, b2⟩
  clear C2'
  have rx := (ox.below b2 (Nat.le_refl _)).rds
  have rz := oz.rds
  have BB := below_trans b1 b2
  have HM := Lib.hid rx.len
  have HN := Lib.hid rz.len
  rw [HM.out] at l1
  rw [HN.out] at l2
  clear ox oz b1 b2
  obtain ⟨M, hM1, hM2, hM3⟩ : ∃ M, m ≤ M ∧ n ≤ M ∧ M ≤ 4398046511104 := ⟨max m n, Nat.le_max_left _ _, Nat.le_max_right _ _, by omega⟩
  have hr0 : RAddR w2 xs zs 0 0 (.slice none 0 0) w2 := ⟨none, 0, [], rfl, App.nil _ _ _ _, Dig.nil _, Below.refl _ _, Nat.le_refl _, by omega, by omega, by simp [val]⟩
  go_wp2_with fail
  go_loopw [9, 8, 7] (fun i cy v wr => ∃ k : Nat, ∃ c : Int, k ≤ M + 1 ∧ (k ≤ M ∨ c = 0) ∧ i = .int .i64 k ∧ cy = .int .i64 c ∧ RAddR w2 xs zs k c v wr) (fun i _ _ _ => M + 1 - (intOf i).toNat)
  case atStart => exact ⟨0, 0, by omega, .inr rfl, rfl, rfl, hr0⟩
  case round =>
    clear hr0
    obtain ⟨k, c, hk, hkc, rfl, rfl, ad3, c3, ds, rfl, g1, g2, g3, g4, g5, g6, g7⟩ := hrel
    have H7 := Lib.hid g7
    have HKC := Lib.hid hkc
    clear g7 hkc
    by_cases hgo : k < m ∨ k < n ∨ 0 < c
    · have hkM : k ≤ M := by rcases HKC.out with h | h <;> omega
      have rx' := rx.below g3 (Nat.le_refl _)
      have rz' := rz.below g3 (Nat.le_refl _)
      have a1 := Lib.hid (at_calls xd m cx xs k wr (by omega) rx')
      have a2 := Lib.hid (at_calls zd n cz zs k wr (by omega) rz')
      have bx := dx.get (by omega) k
      have bz := dz.get (by omega) k
      have HE := Lib.hid (radd_step xs zs ds k g1.len c (xs[k]?.getD 0 + zs[k]?.getD 0 + c) rfl H7.out)
      have HC := Lib.hid (show (k + 1 ≤ M ∨ (xs[k]?.getD 0 + zs[k]?.getD 0 + c) / 256 = 0) by
        rcases Nat.lt_or_ge k M with h | h
        · exact .inl h
        · refine .inr ?_
          rw [List.getElem?_eq_none (by rw [HM.out]; omega), List.getElem?_eq_none (by rw [HN.out]; omega)]
          simp
          omega)
      clear rx' rz' H7 HKC
      generalize xs[k]?.getD 0 = x at *
      generalize zs[k]?.getD 0 = z at *
      have fin : ∀ w3 ad4 c4, App w2.heap.size w3 3 .i64 ad4 (k + 1) c4 (ds ++ [(x + z + c) % 256]) → Below w2.heap.size w2 w3 → w2.heap.size ≤ w3.heap.size → RAddR w2 xs zs (k + 1) ((x + z + c) / 256) (.slice ad4 (k + 1) c4) w3 :=
        fun w3 ad4 c4 h1 h2 h3 => ⟨ad4, c4, _, rfl, h1, g2.append (Dig.cons (by omega) (by omega) (Dig.nil _)), h2, h3, by omega, by omega, HE.out⟩
      have FIN := Lib.hid fin
      clear fin
      by_cases t1 : k < m
      case pos =>
        clear hgo
        go_wp2_with fail
        refine (a1.out).mono ?_
        rintro e w' ⟨rfl, rfl⟩
        go_wp2_with fail
        refine (a2.out).mono ?_
        rintro e w' ⟨rfl, rfl⟩
        go_wp2_with (at_builtin; refine app_one w2.heap.size rfl (.tmp 40) (.tmp 43) 53 3 .i64 8 rfl Try.underlying53 info_int (by omega) ad3 k c3 ds ((x + z + c) % 256) rfl rfl g1 g3 g4 (by omega) ?_; intro ad4 c4 w4 k1 k2 k3)
        go_roundw
        case rel => exact ⟨k + 1, _, by omega, HC.out, by go_num, rfl, FIN.out _ _ _ k1 k2 k3⟩
        case measure => simp [intOf]; omega
      case neg =>
        by_cases t2 : k < n
        case pos =>
          clear hgo
          go_wp2_with fail
          refine (a1.out).mono ?_
          rintro e w' ⟨rfl, rfl⟩
          go_wp2_with fail
          refine (a2.out).mono ?_
          rintro e w' ⟨rfl, rfl⟩
          go_wp2_with (at_builtin; refine app_one w2.heap.size rfl (.tmp 40) (.tmp 43) 53 3 .i64 8 rfl Try.underlying53 info_int (by omega) ad3 k c3 ds ((x + z + c) % 256) rfl rfl g1 g3 g4 (by omega) ?_; intro ad4 c4 w4 k1 k2 k3)
          go_roundw
          case rel => exact ⟨k + 1, _, by omega, HC.out, by go_num, rfl, FIN.out _ _ _ k1 k2 k3⟩
          case measure => simp [intOf]; omega
        case neg =>
          have t3 : 0 < c := by omega
          clear hgo
          go_wp2_with fail
          refine (a1.out).mono ?_
          rintro e w' ⟨rfl, rfl⟩
          go_wp2_with fail
          refine (a2.out).mono ?_
          rintro e w' ⟨rfl, rfl⟩
          go_wp2_with (at_builtin; refine app_one w2.heap.size rfl (.tmp 40) (.tmp 43) 53 3 .i64 8 rfl Try.underlying53 info_int (by omega) ad3 k c3 ds ((x + z + c) % 256) rfl rfl g1 g3 g4 (by omega) ?_; intro ad4 c4 w4 k1 k2 k3)
          go_roundw
          case rel => exact ⟨k + 1, _, by omega, HC.out, by go_num, rfl, FIN.out _ _ _ k1 k2 k3⟩
          case measure => simp [intOf]; omega
    · have t1 : ¬ k < m := by omega
      have t2 : ¬ k < n := by omega
      obtain rfl : c = 0 := by omega
      clear hgo
      have hv : val 256 ds = val 4294967296 la + val 4294967296 lb := by
        have := H7.out
        rw [List.take_of_length_le (by rw [HM.out]; omega), List.take_of_length_le (by rw [HN.out]; omega)] at this
        rw [show val 256 xs = val 4294967296 la from vx.out, show val 256 zs = val 4294967296 lb from vz.out] at this
        simpa using this
      have hl := limbs_calls ad3 k c3 ds wr (by omega) g1.own.le g1.rds g2
      rw [hv] at hl
      have HL := Lib.hid hl
      clear hv hl
      go_wp2_with fail
      refine (HL.out).mono ?_
      rintro e w' hr
      obtain ⟨rd, nr, cr, rfl, or, br⟩ := hr.after (below_trans BB g3)
      go_wp2_with fail
      go_ret
      exact ⟨_, _, _, rfl, or, br⟩
end Go.Proofs.Ytemllpbpnndgeaa
