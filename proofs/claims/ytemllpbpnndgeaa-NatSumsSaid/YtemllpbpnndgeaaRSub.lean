/- crucibleref01.Sub: the difference, or that there is none. -/
import Derived.Test.YtemllpbpnndgeaaRAdd
import Derived.Test.YtemllpbpnndgeaaRCmp
import Derived.Test.YtemllpbpnndgeaaNSub
set_option linter.unusedVariables false
set_option linter.unusedSimpArgs false
namespace Go.Proofs.Ytemllpbpnndgeaa
open Go.RowKit

def RSubR (w : World) (xs zs : List Int) (k : Nat) (c : Int) (v : Value) (wr : World) : Prop :=
  ∃ ad cp ds, v = .slice ad k cp ∧ App w.heap.size wr 3 .i64 ad k cp ds ∧ Dig 256 ds ∧ Below w.heap.size w wr ∧ w.heap.size ≤ wr.heap.size ∧ 0 ≤ c ∧ c ≤ 1 ∧
    val 256 ds + val 256 (zs.take k) = val 256 (xs.take k) + c * 256 ^ k

theorem rsub_step (xs zs ds : List Int) (k : Nat) (hk : ds.length = k) (c D c' : Int) (hD : D = xs[k]?.getD 0 - zs[k]?.getD 0 - c + c' * 256)
    (E : val 256 ds + val 256 (zs.take k) = val 256 (xs.take k) + c * 256 ^ k) :
    val 256 (ds ++ [D]) + val 256 (zs.take (k + 1)) = val 256 (xs.take (k + 1)) + c' * 256 ^ (k + 1) := by
  rw [val_snoc, hk, val_take_succ', val_take_succ', Int.pow_succ]
  generalize xs[k]?.getD 0 = x at *
  generalize zs[k]?.getD 0 = z at *
  generalize (256 : Int) ^ k = P at *
  generalize val 256 ds = Y at *
  generalize val 256 (xs.take k) = X at *
  generalize val 256 (zs.take k) = Z at *
  subst hD
  grind

set_option maxHeartbeats 1000000 in
theorem rsub_calls (ad bd : Option Addr) (na nb ca cb : Nat) (la lb : List Int) (w : World) (hna : na ≤ 1099511627776) (hnb : nb ≤ 1099511627776)
    (ha : Rds w .u32 ad na la) (hb : Rds w .u32 bd nb lb) (da : Dig 4294967296 la) (db : Dig 4294967296 lb) :
    Calls Try.prog 33 #[.slice ad na ca, .slice bd nb cb] w (RetLB 28 .u32 (dg 4294967296 (val 4294967296 la - val 4294967296 lb)) (decide (val 4294967296 lb ≤ val 4294967296 la)) w) := by
  have hc := Lib.hid (rcmp_calls ad bd na nb ca cb la lb w hna hnb ha hb da db)
  by_cases hle : val 4294967296 lb ≤ val 4294967296 la
  · have hcn : ¬ (cmpI (val 4294967296 la) (val 4294967296 lb)) < 0 := by unfold cmpI; split <;> (try split) <;> omega
    have HD := Lib.hid (decide_eq_true hle)
    have HLE := Lib.hid hle
    generalize cmpI (val 4294967296 la) (val 4294967296 lb) = cc at *
    have l1 := bytes_len ha.len da
    have l2 := bytes_len hb.len db
    have C1 := Lib.hid (fun (w1 : World) (h : Below w.heap.size w w1) => bytes_calls ad na ca la w1 (by omega) (ha.below h (Nat.le_refl _)) da)
    have C2 := Lib.hid (fun (w1 : World) (h : Below w.heap.size w w1) => bytes_calls bd nb cb lb w1 (by omega) (hb.below h (Nat.le_refl _)) db)
    have vx := Lib.hid (val_dg 256 (by omega) (val 4294967296 la) (val_nonneg (by omega) da))
    have vz := Lib.hid (val_dg 256 (by omega) (val 4294967296 lb) (val_nonneg (by omega) db))
    have nz := Lib.hid (norm_dg 256 (by omega) (val 4294967296 lb))
    have dx : Dig 256 (dg 256 (val 4294967296 la)) := dg_dig 256 (by omega) _
    have dz : Dig 256 (dg 256 (val 4294967296 lb)) := dg_dig 256 (by omega) _
    clear ha hb da db hle
    generalize dg 256 (val 4294967296 la) = xs at *
    generalize dg 256 (val 4294967296 lb) = zs at *
    have hle2 : zs.length ≤ xs.length := by
      rcases Nat.lt_or_ge xs.length zs.length with h | h
      · have := lt_of_len (b := 256) (by omega) dx dz nz.out h
        rw [show val 256 xs = val 4294967296 la from vx.out, show val 256 zs = val 4294967296 lb from vz.out] at this
        have := HLE.out
        omega
      · exact h
    go_enter Try.func33, Try.ntmps33
    go_wp2_with fail
    refine (hc.out).mono ?_
    rintro e w0 ⟨rfl, b0⟩
    have C1' := Lib.hid (C1.out w0 b0)
    clear C1 hc
    go_wp2_with fail
    refine (C1'.out).mono ?_
    rintro e w1 ⟨xd, m, cx, rfl, ox, b1⟩
    have b01 := below_trans b0 b1
    have C2' := Lib.hid (C2.out w1 b01)
    clear C2 C1'
    go_wp2_with fail
    refine (C2'.out).mono ?_
    rintro e w2 ⟨zd, n, cz, rfl, oz, b2⟩
    clear C2'
    have rx := (ox.below b2 (Nat.le_refl _)).rds
    have rz := oz.rds
    have BB := below_trans b01 b2
    have HM := Lib.hid rx.len
    have HN := Lib.hid rz.len
    rw [HM.out] at l1 hle2
    rw [HN.out] at l2 hle2
    clear ox oz b1 b2 b0 b01
    have hr0 : RSubR w2 xs zs 0 0 (.slice none 0 0) w2 := ⟨none, 0, [], rfl, App.nil _ _ _ _, Dig.nil _, Below.refl _ _, Nat.le_refl _, by omega, by omega, by simp [val]⟩
    go_wp2_with fail
    go_loopw [10, 9, 8] (fun i cy v wr => ∃ k : Nat, ∃ c : Int, k ≤ m ∧ i = .int .i64 k ∧ cy = .int .i64 c ∧ RSubR w2 xs zs k c v wr) (fun i _ _ _ => m - (intOf i).toNat)
    case atStart => exact ⟨0, 0, by omega, rfl, rfl, hr0⟩
    case round =>
      clear hr0
      obtain ⟨k, c, hk, rfl, rfl, ad3, c3, ds, rfl, g1, g2, g3, g4, g5, g6, g7⟩ := hrel
      have H7 := Lib.hid g7
      clear g7
      by_cases hkm : k < m
      · obtain ⟨a, rfl, hxl⟩ := (rx.below g3 (Nat.le_refl _)).cell k hkm
        have a2 := Lib.hid (fun w3 (h : Rds w3 .i64 zd n zs) => at_calls zd n cz zs k w3 (by omega) h)
        have rz' := rz.below g3 (Nat.le_refl _)
        have bx := dx.get (by omega) k
        have bz := dz.get (by omega) k
        have HE := Lib.hid (fun D c' hD => rsub_step xs zs ds k g1.len c D c' hD H7.out)
        clear H7
        generalize xs[k]?.getD 0 = x at *
        generalize zs[k]?.getD 0 = z at *
        have W1 : IntKind.i64.wrap (x - z) = x - z := IntWalk.i64_in _ (by omega)
        have W2 : IntKind.i64.wrap (x - z - c) = x - z - c := IntWalk.i64_in _ (by omega)
        go_wp2_with fail
        go_quiet ((go_at_call 48; exact quiet_left (a2.out _ (rz'.drewN _))))
        clear W1 W2
        have g1' := g1.drewN nq
        have g3' := below_drewN g3 nq
        have g4' : w2.heap.size ≤ (wr.drewN nq).heap.size := g4
        clear g1 g3 g4 a2 rz' hxl
        generalize wr.drewN nq = w3 at *
        by_cases hs : x - z - c < 0
        · go_wp2_with (at_builtin; refine app_one w2.heap.size rfl (.tmp 40) (.tmp 42) 53 3 .i64 8 rfl Try.underlying53 info_int (by omega) ad3 k c3 ds (x - z - c + 256) rfl rfl g1' g3' g4' (by omega) ?_; intro ad4 c4 w4 k1 k2 k3)
          go_roundw
          case rel => exact ⟨k + 1, 1, by omega, by go_num, rfl, ad4, c4, _, rfl, k1, g2.append (Dig.cons (by omega) (by omega) (Dig.nil _)), k2, k3, by omega, by omega, HE.out _ 1 (by omega)⟩
          case measure => simp [intOf]; omega
        · go_wp2_with (at_builtin; refine app_one w2.heap.size rfl (.tmp 40) (.tmp 42) 53 3 .i64 8 rfl Try.underlying53 info_int (by omega) ad3 k c3 ds (x - z - c) rfl rfl g1' g3' g4' (by omega) ?_; intro ad4 c4 w4 k1 k2 k3)
          go_roundw
          case rel => exact ⟨k + 1, 0, by omega, by go_num, rfl, ad4, c4, _, rfl, k1, g2.append (Dig.cons (by omega) (by omega) (Dig.nil _)), k2, k3, by omega, by omega, HE.out _ 0 (by omega)⟩
          case measure => simp [intOf]; omega
      · obtain rfl : k = m := by omega
        have hv : val 256 ds = val 4294967296 la - val 4294967296 lb := by
          have h1 := sub_end 256 (by omega) xs zs ds k g2 HM.out (by rw [HN.out]; exact hle2) g1.len c g5 (by rw [show val 256 xs = val 4294967296 la from vx.out, show val 256 zs = val 4294967296 lb from vz.out]; exact HLE.out)
            (by rw [List.take_of_length_le (show ds.length ≤ k by rw [g1.len]; exact Nat.le_refl _)]; exact H7.out)
          rw [show val 256 xs = val 4294967296 la from vx.out, show val 256 zs = val 4294967296 lb from vz.out] at h1
          exact h1
        have hl := limbs_calls ad3 k c3 ds wr (by omega) g1.own.le g1.rds g2
        rw [hv] at hl
        have HL := Lib.hid hl
        clear hv hl
        go_wp2_with fail
        refine (HL.out).mono ?_
        rintro e w' hr
        obtain ⟨rd, nr, cr, rfl, or, br⟩ := hr.after (below_trans BB g3)
        go_wp2_with fail
        go_ret2
        rw [HD.out]
        exact ⟨_, _, _, rfl, or, br⟩
  · have hcn : (cmpI (val 4294967296 la) (val 4294967296 lb)) < 0 := by unfold cmpI; split <;> omega
    have HD := Lib.hid (decide_eq_false hle)
    have HZ := Lib.hid (show dg 4294967296 (val 4294967296 la - val 4294967296 lb) = [] by
      unfold dg
      rw [digs_nil _ _ (by omega)]
      omega)
    generalize cmpI (val 4294967296 la) (val 4294967296 lb) = cc at *
    clear hle
    go_enter Try.func33, Try.ntmps33
    go_wp2_with fail
    refine (hc.out).mono ?_
    rintro e w' ⟨rfl, b0⟩
    go_wp2
    go_ret2
    rw [HD.out, HZ.out]
    exact ⟨none, 0, 0, rfl, Own.nil _ _ _ _ _, b0⟩
end Go.Proofs.Ytemllpbpnndgeaa
