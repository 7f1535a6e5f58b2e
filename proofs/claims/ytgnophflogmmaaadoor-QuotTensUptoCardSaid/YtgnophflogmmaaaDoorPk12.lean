/- Contracts of functions, and plain facts, part 12. -/
import Derived.Deep.LoopGhost
import Derived.Test.YtgnophflogmmaaaDoorPk1
import Derived.Test.YtgnophflogmmaaaDoorPk2
import Derived.Test.YtgnophflogmmaaaDoorPk3
import Derived.Test.YtgnophflogmmaaaDoorPk4
import Derived.Test.YtgnophflogmmaaaDoorPk6
import Derived.Test.YtgnophflogmmaaaDoorPk7
import Derived.Test.YtgnophflogmmaaaDoorPk8
import Derived.Test.YtgnophflogmmaaaDoorPk9
import Derived.Test.YtgnophflogmmaaaDoorPk10
import Derived.Test.YtgnophflogmmaaaDoorPk11
set_option linter.unusedVariables false
set_option linter.unusedSimpArgs false
/- quot.Div: quotient and rest. -/
namespace Go.Proofs.YtgnophflogmmaaaDoor
open Go.RowKit

/-- What is left; by 0: 0. -/
def remI (V U : Int) : Int := if U = 0 then 0 else V % U

theorem dg_one {V : Int} (h0 : 0 < V) (h1 : V < 4294967296) : dg 4294967296 V = [V] := by
  rw [dg_pos 4294967296 V (by omega) h0, show V % ((4294967296 : Nat) : Int) = V by omega, show V / ((4294967296 : Nat) : Int) = 0 by omega, dg_zero]

theorem div_calls' (ad bd : Option Addr) (na nb ca cb : Nat) (la lb : List Int) (w : World) (hna : na ≤ 70368744177662) (hnb : nb ≤ 70368744177662) (hac : na ≤ ca) (hbc : nb ≤ cb)
    (ha : Rds w .u32 ad na la) (hb : Rds w .u32 bd nb lb) (da : Dig 4294967296 la) (db : Dig 4294967296 lb) (zs rs : List Int) (ok : Bool)
    (HZ : Hid (zs = dg 4294967296 (val 4294967296 la / val 4294967296 lb))) (HR : Hid (rs = dg 4294967296 (remI (val 4294967296 la) (val 4294967296 lb)))) (HO : Hid (ok = decide (val 4294967296 lb ≠ 0))) :
    Calls Tryd.prog 12 #[.slice ad na ca, .slice bd nb cb] w (RetLLB 32 .u32 zs rs ok w) := by
  have N1 := Lib.hid (norm_calls ad na ca la w (by omega) hac ha da)
  have N2 := fun (w1 : World) (b1 : Below w.heap.size w w1) => Lib.hid (norm_calls bd nb cb lb w1 (by omega) hbc (hb.below b1 (Nat.le_refl _)) db)
  have V0 := val_nonneg (show (0 : Int) < 4294967296 by omega) da
  have U0 := val_nonneg (show (0 : Int) < 4294967296 by omega) db
  have V1 := Lib.hid (val_lt (show (0 : Int) < 4294967296 by omega) da)
  have U1 := Lib.hid (val_lt (show (0 : Int) < 4294967296 by omega) db)
  rw [ha.len] at V1
  rw [hb.len] at U1
  clear ha hb da db
  generalize val 4294967296 la = V at *
  generalize val 4294967296 lb = U at *
  go_enter Tryd.func12, Tryd.ntmps12
  go_wp2_with fail
  with_reducible refine (N1.out).mono ?_
  rintro e w1 ⟨ad1, n, c1, rfl, o1, b1⟩
  have N2' := N2 w1 b1
  clear N1 N2
  go_wp2_with fail
  with_reducible refine (N2'.out).mono ?_
  rintro e w2 ⟨bd1, m, c2, rfl, o2, b2⟩
  have p1 := o1.below b2 (Nat.le_refl _)
  have p2 : Own w.heap.size w2 32 .u32 bd1 m c2 (dg 4294967296 U) := o2.mono b1.size
  have b12 := below_trans b1 b2
  have ln := Lib.hid o1.len
  have lm := Lib.hid o2.len
  have hn1 : n ≤ na := by rw [← ln.out]; exact dg_length_le 4294967296 (by omega) na V V1.out
  have hm1 : m ≤ nb := by rw [← lm.out]; exact dg_length_le 4294967296 (by omega) nb U U1.out
  have hnc := o1.le
  have hmc := o2.le
  have eV := val_dg 4294967296 (by omega) V V0
  have eU := val_dg 4294967296 (by omega) U U0
  rw [show ((4294967296 : Nat) : Int) = 4294967296 from rfl] at eV eU
  have EV := Lib.hid eV
  have EU := Lib.hid eU
  clear N2' o1 b1 b2 eV eU
  by_cases hU : U = 0
  · subst hU
    obtain rfl : m = 0 := by rw [← lm.out, dg_zero]; rfl
    have E1 : Hid (zs = []) := by have := HZ.out; rw [Int.ediv_zero, dg_zero] at this; exact this
    have E2 : Hid (rs = []) := by have := HR.out; unfold remI at this; rw [if_pos rfl, dg_zero] at this; exact this
    have E3 : Hid (ok = false) := Lib.hid (by have := HO.out; simpa using this)
    go_wp2_with fail
    go_ret3
    rw [E1.out, E2.out, E3.out]
    exact ⟨_, _, _, _, _, _, rfl, Own.nil _ _ _ _ _, Own.nil _ _ _ _ _, b12, fun h => by omega⟩
  · have E3 : Hid (ok = true) := Lib.hid (by have := HO.out; simpa [hU] using this)

    have E2 : Hid (rs = dg 4294967296 (V % U)) := by have := HR.out; unfold remI at this; rw [if_neg hU] at this; exact this
    have hUp : 0 < U := by omega
    have hm0 : 0 < m := by
      rcases Nat.eq_zero_or_pos m with h | h
      · exfalso
        have e := lm.out
        rw [h, List.length_eq_zero_iff, dg_nil 4294967296 U (by omega) U0] at e
        omega
      · exact h
    clear HR HO hU
    obtain rfl := E3.out
    clear E3

    by_cases hmm : m = 1
    · subst hmm
      have hU2 : U < 4294967296 := by
        have := dg_lt_of_len 4294967296 (by omega) 1 U U0 (by rw [lm.out]; omega)
        simpa using this
      obtain ⟨a, rfl, hc⟩ := o2.rds.cell 0 (by omega)
      have ea : a.add 0 = a := by unfold Addr.add; simp
      rw [dg_one hUp hU2, ea] at hc
      have hc2 : w2.cell? a = some (.int .u32 U) := by simpa using hc
      have S := small_calls ad1 n c1 (dg 4294967296 V) U w2 (by omega) p1.rds (dg_dig 4294967296 (by omega) _) ⟨hUp, hU2⟩
      rw [EV.out] at S
      have HS := Lib.hid S
      have r0 := Int.emod_nonneg V (show U ≠ 0 by omega)
      have r1 := Int.emod_lt_of_pos V hUp
      have HF := fun (w3 : World) => Lib.hid (from_calls (V % U) w3 r0 (by omega))
      clear hc S ea hm0
      go_wp2_with fail
      with_reducible refine (HS.out).mono ?_
      rintro e w3 ⟨qd, qn, qc, rfl, oq, b3⟩
      have HF3 := HF w3
      clear HF HS
      go_wp2_with fail
      with_reducible refine (HF3.out).mono ?_
      rintro e w4 ⟨rd, rn, rc, rfl, or, b4⟩
      clear HF3
      go_wp2_with fail
      go_ret3
      rw [HZ.out, E2.out]
      refine ⟨_, _, _, _, _, _, rfl, (oq.mono b12.size).below b4 (Nat.le_refl _), or.mono (by have := b3.size; have := b12.size; omega), below_trans b12 (below_trans b3 b4), fun c1 c2 a a2 e1 e2 => ?_⟩
      obtain ⟨x1, _, f1, _, f3, _⟩ := oq.row c1
      obtain ⟨x2, _, k1, k2, _⟩ := or.row c2
      rw [f1] at e1
      rw [k1] at e2
      injection e1 with e1
      injection e2 with e2
      subst e1 e2
      have := (Array.getElem?_eq_some_iff.1 f3).1
      show x1 ≠ x2
      omega
    · have hm2 : 2 ≤ m := by omega
      have hme0 : ((m : Int) == 0) = false := by simp; omega
      have hme1 : ((m : Int) == 1) = false := by simp; omega
      have C := ncmp_calls ad1 bd1 n m c1 c2 (dg 4294967296 V) (dg 4294967296 U) w2 (by omega) (by omega) hnc hmc p1.rds p2.rds (dg_dig 4294967296 (by omega) _) (dg_dig 4294967296 (by omega) _)
      rw [EV.out, EU.out] at C
      by_cases hlt : V < U
      · rw [cmpI_lt hlt] at C
        have HC := Lib.hid C
        have E1 : Hid (zs = []) := by have := HZ.out; rw [Int.ediv_eq_zero_of_lt V0 hlt, dg_zero] at this; exact this
        have E4 : Hid (rs = dg 4294967296 V) := by have := E2.out; rw [Int.emod_eq_of_lt V0 hlt] at this; exact this
        clear C hmm
        go_wp2_with fail
        with_reducible refine (HC.out).mono ?_
        rintro e w3 ⟨rfl, q, rfl⟩
        clear HC
        go_wp2_with fail
        go_ret3
        rw [E1.out, E4.out]
        exact ⟨_, _, _, _, _, _, rfl, Own.nil _ _ _ _ _, p1.below (below_drewN (Below.refl _ _) q) (Nat.le_refl _), below_drewN b12 q, fun h => by omega⟩
      · have hge : ¬ cmpI V U < 0 := by have := cmpI_ge (show U ≤ V by omega); omega
        have hle : m ≤ n := by
          rcases Nat.lt_or_ge n m with h | h
          · exfalso
            have k := lt_of_len (b := 4294967296) (by omega) (dg_dig 4294967296 (by omega) V.toNat) (dg_dig 4294967296 (by omega) U.toNat) (norm_dg 4294967296 (by omega) U) (show (dg 4294967296 V).length < (dg 4294967296 U).length by rw [ln.out, lm.out]; exact h)
            have k2 : val 4294967296 (dg 4294967296 V) < val 4294967296 (dg 4294967296 U) := k
            rw [EV.out, EU.out] at k2
            omega
          · exact h
        have htop := norm_last (b := 4294967296) (norm_dg 4294967296 (by omega) U) (m - 1) (by rw [lm.out]; omega)
        have L := fun (w3 : World) (b3 : Below w2.heap.size w2 w3) => long_calls ad1 bd1 n m c1 c2 (dg 4294967296 V) (dg 4294967296 U) w3 (by omega) hm2 hle hnc hmc (p1.rds.below b3 (Nat.le_refl _)) (p2.rds.below b3 (Nat.le_refl _)) (dg_dig 4294967296 (by omega) _) (dg_dig 4294967296 (by omega) _) htop
        rw [EV.out, EU.out, ← HZ.out, ← E2.out] at L
        have HC := Lib.hid C
        obtain ⟨cc, hcc⟩ : ∃ cc, cmpI V U = cc := ⟨_, rfl⟩
        rw [hcc] at HC hge
        clear C hcc htop hmm
        have HL := fun (w3 : World) (b3 : Below w2.heap.size w2 w3) => Lib.hid (L w3 b3)
        clear L
        go_wp2_with fail
        with_reducible refine (HC.out).mono ?_
        rintro e w3 ⟨rfl, q, rfl⟩
        have b3 := below_drewN (Below.refl w2.heap.size w2) q
        have HL3 := HL _ b3
        generalize w2.drewN q = w3 at *
        clear HC HL
        go_wp2_with fail
        with_reducible refine (HL3.out).mono ?_
        rintro e w4 ⟨qd, qn, qc, rd, rn, rc, rfl, oq, or, b4, hsep⟩
        clear HL3
        go_wp2_with fail
        go_ret3
        have b13 := below_trans b12 b3
        exact ⟨_, _, _, _, _, _, rfl, oq.mono b13.size, or.mono b13.size, below_trans b13 b4, hsep⟩

theorem div_calls (ad bd : Option Addr) (na nb ca cb : Nat) (la lb : List Int) (w : World) (hna : na ≤ 70368744177662) (hnb : nb ≤ 70368744177662) (hac : na ≤ ca) (hbc : nb ≤ cb)
    (ha : Rds w .u32 ad na la) (hb : Rds w .u32 bd nb lb) (da : Dig 4294967296 la) (db : Dig 4294967296 lb) :
    Calls Tryd.prog 12 #[.slice ad na ca, .slice bd nb cb] w
      (RetLLB 32 .u32 (dg 4294967296 (val 4294967296 la / val 4294967296 lb)) (dg 4294967296 (remI (val 4294967296 la) (val 4294967296 lb))) (decide (val 4294967296 lb ≠ 0)) w) :=
  div_calls' ad bd na nb ca cb la lb w hna hnb hac hbc ha hb da db _ _ _ (Lib.hid rfl) (Lib.hid rfl) (Lib.hid rfl)
end Go.Proofs.YtgnophflogmmaaaDoor

/- quot.Bytes: a number as bytes, the highest first. -/
namespace Go.Proofs.YtgnophflogmmaaaDoor
open Go.RowKit

set_option maxHeartbeats 1000000 in
set_option maxRecDepth 20000 in
theorem bytes_calls (ad : Option Addr) (na ca : Nat) (la : List Int) (w : World) (hna : na ≤ 35184372088831) (hac : na ≤ ca) (ha : Rds w .u32 ad na la) (da : Dig 4294967296 la) :
    Calls Tryd.prog 22 #[.slice ad na ca] w (RetS (strB (dg 256 (val 4294967296 la)).reverse) w) := by
  have N1 := Lib.hid (norm_calls ad na ca la w (by omega) hac ha da)
  have V0 := val_nonneg (show (0 : Int) < 4294967296 by omega) da
  have V1 := Lib.hid (val_lt (show (0 : Int) < 4294967296 by omega) da)
  rw [ha.len] at V1
  clear ha da
  generalize val 4294967296 la = V at *
  obtain ⟨S, HS⟩ : ∃ S, Hid (S = strB (dg 256 V).reverse) := ⟨_, rfl⟩
  rw [← HS.out]
  go_enter Tryd.func22, Tryd.ntmps22
  go_wp2_with fail
  with_reducible refine (N1.out).mono ?_
  rintro e w1 ⟨x0, n, c0, rfl, o1, b1⟩
  clear N1
  have hn0 : n ≤ na := by rw [← o1.len]; exact dg_length_le 4294967296 (by omega) na V V1.out
  have HL := Lib.hid o1.len
  have hs1 := b1.size
  have dv := dg_dig 4294967296 (by omega) V.toNat
  have eV := val_dg 4294967296 (by omega) V V0
  rw [show ((4294967296 : Nat) : Int) = 4294967296 from rfl] at eV
  change Dig 4294967296 (dg 4294967296 V) at dv
  have EV := Lib.hid eV
  have DV := Lib.hid dv
  have rx := o1.rds
  have HNN := Lib.hid (dg_nil 4294967296 V (by omega) V0)
  clear o1 eV dv V1
  generalize dg 4294967296 V = ls at *
  go_wp2_with fail
  go_loopw [3, 9] (fun s3 s9 wr => ∃ (bd : Option Addr) (bc k : Nat) (ds : List Int), s3 = .slice bd (4 * k) bc ∧ s9 = .int .i64 k ∧ k ≤ n ∧ App w1.heap.size wr 5 .u8 bd (4 * k) bc ds ∧ Dig 256 ds ∧ Below w1.heap.size w1 wr ∧ w1.heap.size ≤ wr.heap.size ∧ Hid (k = 0 → bd = none ∧ bc = 0) ∧ Hid (val 256 ds = val 4294967296 (ls.take k))) (fun _ s9 _ => n - (intOf s9).toNat)
  case atStart => exact ⟨none, 0, 0, [], rfl, rfl, by omega, App.nil _ _ _ _, Dig.nil _, Below.refl _ _, Nat.le_refl _, Lib.hid (fun _ => ⟨rfl, rfl⟩), Lib.hid rfl⟩
  case round =>
    obtain ⟨bd, bc, k, ds, rfl, rfl, hk, happ, dds, hb1, hsz, hnil, hval⟩ := hrel
    by_cases hkn : k < n
    · obtain ⟨a, rfl, hc⟩ := (rx.below hb1 (Nat.le_refl _)).cell k hkn
      have bx := DV.out.get (by omega) k
      have hf := four_step ls ds k (by rw [HL.out]; exact hkn) happ.len hval.out bx
      obtain ⟨x, hx⟩ : ∃ x, ls[k]?.getD 0 = x := ⟨_, rfl⟩
      rw [hx] at hc bx hf
      have HF := Lib.hid hf
      have DD := Lib.hid (dds.append (four_dig x))
      have HCS : Hid (#[Value.int .u8 (x % 256), Value.int .u8 (x / 256 % 256), Value.int .u8 (x / 65536 % 256), Value.int .u8 (x / 16777216)] = (nums .u8 (four x)).toArray) := Lib.hid (by
        have : x / 16777216 % 256 = x / 16777216 := by omega
        simp [four, nums, this])
      clear hf hx hval dds
      go_wp2_with (at_builtin; refine app_many (w0 := w1) w1.heap.size rfl (.tmp 13) (.tmp 25) 40 5 .u8 1 rfl Tryd.underlying40 info_byte (by omega) bd (4 * k) bc ds (four x) 4 rfl (by omega) _ HCS.out rfl rfl happ hb1 hsz (by omega) ?_; intro ad3 c3 w5 k1 k2 k3)
      go_roundw
      case rel => exact ⟨ad3, c3, k + 1, _, rfl, by go_num, by omega, k1, DD.out, k2, k3, Lib.hid (fun h => by omega), Lib.hid HF.out.2⟩
      case measure => simp [intOf]; omega
    · obtain rfl : k = n := by omega
      have hV : Hid (val 256 ds = V) := Lib.hid (by rw [hval.out, List.take_of_length_le (by rw [HL.out]; omega), EV.out])
      have HDL := Lib.hid happ.len
      have DDS := Lib.hid dds
      have hrd := happ.rds
      have hbel := below_trans b1 hb1
      clear hval rx hb1 b1
      by_cases hk0 : k = 0
      · have hV0 : V = 0 := HNN.out.1 (List.length_eq_zero_iff.1 (by rw [HL.out]; exact hk0))
        have hS : Hid (S = ByteArray.empty) := Lib.hid (by rw [HS.out, hV0, dg_zero]; rfl)
        obtain ⟨rfl, rfl⟩ := hnil.out hk0
        subst hk0
        have HR := Lib.hid (rev_nil wr)
        have hcv := run_convert_bytes_nil (P := Tryd.prog) wr 40 5 Tryd.underlying40 Tryd.underlying5 0 0 9 Tryd.underlying9
        clear happ hV0 HS hnil
        go_wp2_with fail
        refine wp_loop_rounds 1 ?_
        rw [rounds_succ]
        go_wp2_with fail
        with_reducible refine (HR.out).mono ?_
        rintro e w' ⟨rfl, rfl⟩
        clear HR
        go_wp2_with fail
        go_ret
        rw [hS.out]
        exact ⟨rfl, hbel⟩
      · have hkp : 0 < k := by omega
        obtain ⟨g, rfl, hg, hrow⟩ := happ.own.rowAt (by omega)
        have hbc := happ.own.le
        have hD := Lib.hid (norm_eq 256 (by omega) DDS.out)
        clear happ hk0
        go_wp2_with fail
        go_loop [3] (fun s3 => ∃ q : Nat, q ≤ 4 * k ∧ s3 = .slice (some ⟨g, 0, none⟩) q bc ∧ Hid (∀ j, q ≤ j → ds[j]?.getD 0 = 0)) (fun v => match v with | .slice _ q _ => q | _ => 0)
        case atStart => exact ⟨4 * k, Nat.le_refl _, rfl, Lib.hid fun j hj => by rw [List.getElem?_eq_none (by rw [HDL.out]; exact hj)]; rfl⟩
        case round =>
          obtain ⟨q, hq, rfl, hz⟩ := hrel
          by_cases hq0 : q = 0
          · exfalso
            have : ds = List.replicate (4 * k) 0 := by
              refine List.ext_getElem? fun j => ?_
              rcases Nat.lt_or_ge j (4 * k) with h1 | h1
              · have := hz.out j (by omega)
                rw [List.getElem?_replicate, if_pos h1]
                rw [List.getElem?_eq_getElem (by rw [HDL.out]; exact h1), Option.getD_some] at this
                rw [List.getElem?_eq_getElem (by rw [HDL.out]; exact h1), this]
              · rw [List.getElem?_eq_none (by rw [HDL.out]; exact h1), List.getElem?_eq_none (by simp; omega)]
            have hv0 : V = 0 := by rw [← hV.out, this, val_replicate]
            have := HNN.out.2 hv0
            have h2 := HL.out
            rw [this] at h2
            simp at h2
            omega
          · obtain ⟨p, rfl⟩ : ∃ p, q = p + 1 := ⟨q - 1, by omega⟩
            obtain ⟨a, ha, hc⟩ := hrd.cell p (by omega)
            injection ha with ha
            subst ha
            rw [plain_add] at hc
            have bx := DDS.out.get (by omega) p
            obtain ⟨x, hx⟩ : ∃ x, ds[p]?.getD 0 = x := ⟨_, rfl⟩
            rw [hx] at hc bx
            have HX := Lib.hid hx
            have W1 : ((p : Int) + 1 - 1) = (p : Int) := by omega
            clear hx hq0
            by_cases hx0 : x = 0
            · subst hx0
              go_wp2_with fail
              go_round
              case rel => exact ⟨p, by omega, rfl, Lib.hid fun j hj => by
                rcases Nat.lt_or_ge j (p + 1) with h1 | h1
                · obtain rfl : j = p := by omega
                  exact HX.out
                · exact hz.out j h1⟩
              case measure => simp
            · have hx1 : (x == 0) = false := by simpa using hx0
              have hN := norm_stop ds (p + 1) (by rw [HDL.out]; exact hq) hz.out (.inr (by rw [Nat.add_sub_cancel, HX.out]; exact hx0))
              rw [hD.out, show ((256 : Nat) : Int) = 256 from rfl, hV.out] at hN
              have hlt : (ds.take (p + 1)).length = p + 1 := by rw [List.length_take, HDL.out]; omega
              have hS : Hid (S = strB (ds.take (p + 1)).reverse) := Lib.hid (by rw [HS.out, hN])
              have HR := Lib.hid (rev_calls g (p + 1) bc 5 (ds.take (p + 1)) wr (by omega) (by omega) (hrow.first (p + 1) (by rw [HDL.out]; exact hq)) hlt)
              have HRD := Lib.hid (DDS.out.take (p + 1)).reverse
              have HRL := Lib.hid (show (ds.take (p + 1)).reverse.length = p + 1 by rw [List.length_reverse]; exact hlt)
              clear hN hlt hx0 hrow HX hz
              go_wp2_with fail
              with_reducible refine (HR.out).mono ?_
              rintro e w4 ⟨rfl, r1, o1⟩
              have rd := r1.rds
              rw [HRL.out] at rd
              have hcv := conv_str (P := Tryd.prog) 40 9 5 Tryd.underlying40 Tryd.underlying5 Tryd.underlying9 w4 _ (p + 1) bc _ rd HRD.out
              have hb4 := Only.below hbel (show w.heap.size ≤ g by omega) o1
              clear HR r1 o1 rd
              go_wp2_with fail
              go_ret
              rw [hS.out]
              exact ⟨rfl, hb4⟩
end Go.Proofs.YtgnophflogmmaaaDoor

/- quot.Div by worth alone; lists written out. -/
namespace Go.Proofs.YtgnophflogmmaaaDoor
open Go.RowKit

def RetCCB (V R : Int) (ok : Bool) (w : World) (e : Ending) (w' : World) : Prop :=
  ∃ ad n c ad2 n2 c2, e = .returned (.tuple #[.slice ad n c, .slice ad2 n2 c2, .bool ok]) ∧ Can w' ad n c V ∧ Can w' ad2 n2 c2 R ∧ Below w.heap.size w w'
theorem RetLLB.can {V R : Int} {ok : Bool} {w : World} {e : Ending} {w' : World} (h : RetLLB 32 .u32 (dg 4294967296 V) (dg 4294967296 R) ok w e w') : RetCCB V R ok w e w' := by
  obtain ⟨ad, n, c, ad2, n2, c2, e1, o1, o2, hb, _⟩ := h
  exact ⟨ad, n, c, ad2, n2, c2, e1, ⟨o1.le, o1.rds⟩, ⟨o2.le, o2.rds⟩, hb⟩

theorem num_div (ad bd : Option Addr) (n m c d : Nat) (V U : Int) (w : World) (h : Num w ad n c V) (k : Num w bd m d U) (hn : n ≤ 70368744177662) (hm : m ≤ 70368744177662) :
    Calls Tryd.prog 12 #[.slice ad n c, .slice bd m d] w (RetCCB (V / U) (remI V U) (decide (U ≠ 0)) w) := by
  obtain ⟨xs, h1, h2, rfl⟩ := h.row
  obtain ⟨zs, k1, k2, rfl⟩ := k.row
  exact (div_calls ad bd n m c d xs zs w (by omega) (by omega) h.le k.le h1 k1 h2 k2).mono fun e w' q => q.can
theorem remI_nonneg (V U : Int) (hV : 0 ≤ V) : 0 ≤ remI V U := by
  unfold remI
  split
  · omega
  · exact Int.emod_nonneg _ ‹_›
theorem remI_lt (V U : Int) (hU : 0 < U) : remI V U < U := by
  unfold remI
  rw [if_neg (by omega)]
  exact Int.emod_lt_of_pos _ hU
theorem remI_eq (V U : Int) (hU : U ≠ 0) : remI V U = V % U := by unfold remI; rw [if_neg hU]

/-- A list that is written out. -/
theorem num_cells (w : World) (b : Nat) (hb : w.heap.size = b) (ys : List Int) (n : Nat) (hn : ys.length = n) (hd : Dig 4294967296 ys) (cs : Array Value) (hcs : cs = (nums .u32 ys).toArray) (V : Int) (hV : val 4294967296 ys = V) :
    Num (w.alloc (.cells cs 32)) (some ⟨b, 0, none⟩) n n V := by
  subst hcs hn hb
  have k0 : Blk (w.alloc (.cells (nums .u32 ys).toArray 32)) w.heap.size 32 .u32 ys := Blk.made w 32 .u32 ys _ rfl
  exact ⟨Nat.le_refl _, ys, k0.rds, hd, hV⟩
theorem can_cells (w : World) (b : Nat) (hb : w.heap.size = b) (ys : List Int) (n : Nat) (hn : ys.length = n) (hd : Dig 4294967296 ys) (cs : Array Value) (hcs : cs = (nums .u32 ys).toArray) (V : Int) (hV : val 4294967296 ys = V) (hno : norm ys = ys) :
    Can (w.alloc (.cells cs 32)) (some ⟨b, 0, none⟩) n n V := by
  subst hcs hn hb
  have k0 : Blk (w.alloc (.cells (nums .u32 ys).toArray 32)) w.heap.size 32 .u32 ys := Blk.made w 32 .u32 ys _ rfl
  have e := norm_eq 4294967296 (by omega) hd
  rw [hno, show ((4294967296 : Nat) : Int) = 4294967296 from rfl, hV] at e
  refine ⟨Nat.le_refl _, ?_⟩
  rw [← e]
  exact k0.rds
theorem below_lit (w : World) (cs : Array Value) (t : TypeId) : Below w.heap.size w (w.alloc (.cells cs t)) := (Below.refl _ _).alloc (Nat.le_refl _) _
theorem dig_lit (ys : List Int) (h : ys.all (fun y => decide (0 ≤ y ∧ y < 4294967296)) = true) : Dig 4294967296 ys := fun y hy => by
  have := List.all_eq_true.1 h y hy
  simpa using this
end Go.Proofs.YtgnophflogmmaaaDoor

/- quot.Digits, Read, Bytes by worth alone. -/
namespace Go.Proofs.YtgnophflogmmaaaDoor
open Go.RowKit

theorem num_digits (ad : Option Addr) (n c : Nat) (V : Int) (w : World) (h : Num w ad n c V) (hn : n ≤ 4398046511104) :
    Calls Tryd.prog 19 #[.slice ad n c] w (RetS (strB (decL V)) w) := by
  obtain ⟨xs, h1, h2, rfl⟩ := h.row
  exact digits_calls ad n c xs w (by omega) h.le h1 h2
theorem num_bytes (ad : Option Addr) (n c : Nat) (V : Int) (w : World) (h : Num w ad n c V) (hn : n ≤ 35184372088831) :
    Calls Tryd.prog 22 #[.slice ad n c] w (RetS (strB (dg 256 V).reverse) w) := by
  obtain ⟨xs, h1, h2, rfl⟩ := h.row
  exact bytes_calls ad n c xs w (by omega) h.le h1 h2
theorem num_read (s : ByteArray) (w : World) (hs : s.size ≤ 140737488351232) :
    Calls Tryd.prog 21 #[.string s] w (RetCB (readNum (bytesI s)) (readOk (bytesI s)) w) := (read_calls s w hs).mono fun e w' q => q.can
end Go.Proofs.YtgnophflogmmaaaDoor

/- quot.Gcd. -/
namespace Go.Proofs.YtgnophflogmmaaaDoor
open Go.RowKit

/-- The greatest number that divides both. -/
def gcdI (V U : Int) : Int := ((Nat.gcd V.toNat U.toNat : Nat) : Int)
theorem gcdI_zero (V : Int) (h : 0 ≤ V) : gcdI V 0 = V := by
  unfold gcdI
  rw [show (0 : Int).toNat = 0 from rfl, Nat.gcd_zero_right]
  omega
theorem gcdI_step (V U : Int) (hV : 0 ≤ V) (hU : 0 < U) : gcdI U (V % U) = gcdI V U := by
  unfold gcdI
  obtain ⟨v, rfl⟩ := Int.eq_ofNat_of_zero_le hV
  obtain ⟨u, rfl⟩ := Int.eq_ofNat_of_zero_le (Int.le_of_lt hU)
  rw [show ((v : Int) % (u : Int)) = ((v % u : Nat) : Int) by simp, Int.toNat_natCast, Int.toNat_natCast, Int.toNat_natCast, Nat.gcd_comm v u, Nat.gcd_rec u v, Nat.gcd_comm]

theorem gcd_calls (ad bd : Option Addr) (na nb ca cb : Nat) (la lb : List Int) (w : World) (hna : na ≤ 70368744177662) (hnb : nb ≤ 70368744177662) (hac : na ≤ ca) (hbc : nb ≤ cb)
    (ha : Rds w .u32 ad na la) (hb : Rds w .u32 bd nb lb) (da : Dig 4294967296 la) (db : Dig 4294967296 lb) :
    Calls Tryd.prog 8 #[.slice ad na ca, .slice bd nb cb] w (RetL 32 .u32 (dg 4294967296 (gcdI (val 4294967296 la) (val 4294967296 lb))) w) := by
  have N1 := Lib.hid (norm_calls ad na ca la w (by omega) hac ha da)
  have N2 := fun (w1 : World) (b1 : Below w.heap.size w w1) => Lib.hid (norm_calls bd nb cb lb w1 (by omega) hbc (hb.below b1 (Nat.le_refl _)) db)
  have V0 := val_nonneg (show (0 : Int) < 4294967296 by omega) da
  have U0 := val_nonneg (show (0 : Int) < 4294967296 by omega) db
  have V1 := Lib.hid (val_lt (show (0 : Int) < 4294967296 by omega) da)
  have U1 := Lib.hid (val_lt (show (0 : Int) < 4294967296 by omega) db)
  rw [ha.len] at V1
  rw [hb.len] at U1
  clear ha hb da db
  generalize val 4294967296 la = V at *
  generalize val 4294967296 lb = U at *
  obtain ⟨G, HG⟩ : ∃ G, Hid (gcdI V U = G) := ⟨_, rfl⟩
  rw [HG.out]
  obtain ⟨gs, HGS⟩ : ∃ gs, Hid (dg 4294967296 G = gs) := ⟨_, rfl⟩
  rw [HGS.out]
  go_enter Tryd.func8, Tryd.ntmps8
  go_wp2_with fail
  with_reducible refine (N1.out).mono ?_
  rintro e w1 ⟨ad1, n, c1, rfl, o1, b1⟩
  have N2' := N2 w1 b1
  clear N1 N2
  go_wp2_with fail
  with_reducible refine (N2'.out).mono ?_
  rintro e w2 ⟨bd1, m, c2, rfl, o2, b2⟩
  have p1 := o1.below b2 (Nat.le_refl _)
  have p2 : Own w.heap.size w2 32 .u32 bd1 m c2 (dg 4294967296 U) := o2.mono b1.size
  have b12 := below_trans b1 b2
  have hn1 : n ≤ na := by rw [← o1.len]; exact dg_length_le 4294967296 (by omega) na V V1.out
  have hm1 : m ≤ nb := by rw [← o2.len]; exact dg_length_le 4294967296 (by omega) nb U U1.out
  clear N2' o1 b1 b2
  go_wp2_with fail
  go_loopg [0, 1] U.toNat (fun g s0 s1 wr => ∃ (x y : Option Addr) (n m c d : Nat) (A Bv : Int), s0 = .slice x n c ∧ s1 = .slice y m d ∧ n ≤ 70368744177662 ∧ m ≤ 70368744177662 ∧ 0 ≤ A ∧ 0 ≤ Bv ∧
    Own w.heap.size wr 32 .u32 x n c (dg 4294967296 A) ∧ Own w.heap.size wr 32 .u32 y m d (dg 4294967296 Bv) ∧ Below w.heap.size w wr ∧ Hid (gcdI A Bv = G) ∧ Hid (g = Bv.toNat))
  case atStart => exact ⟨_, _, _, _, _, _, V, U, rfl, rfl, by omega, by omega, V0, U0, p1, p2, b12, HG, Lib.hid rfl⟩
  case round =>
    clear p1 p2 b12 hn1 hm1 V0 U0 V1 U1 HG
    obtain ⟨x, y, n, m, c, d, A, Bv, rfl, rfl, hn, hm, A0, B0, oa, ob, bw, hg, hme⟩ := hrel
    have lm := Lib.hid ob.len
    have ncle := oa.le
    have mdle := ob.le
    by_cases hz : Bv = 0
    · subst hz
      obtain rfl : m = 0 := by rw [← lm.out, dg_zero]; rfl
      have E : Hid (gs = dg 4294967296 A) := by have := HGS.out; rw [← hg.out, gcdI_zero A A0] at this; exact this.symm
      clear hg hme
      go_wp2_with fail
      go_ret
      rw [E.out]
      exact ⟨_, _, _, rfl, oa, bw⟩
    · have hB : 0 < Bv := by omega
      have hm0 : 0 < m := by
        rcases Nat.eq_zero_or_pos m with h | h
        · exfalso
          have e := lm.out
          rw [h, List.length_eq_zero_iff, dg_nil 4294967296 Bv (by omega) B0] at e
          omega
        · exact h
      have D := div_calls x y n m c d (dg 4294967296 A) (dg 4294967296 Bv) wr hn hm ncle mdle oa.rds ob.rds (dg_dig 4294967296 (by omega) _) (dg_dig 4294967296 (by omega) _)
      have eA := val_dg 4294967296 (by omega) A A0
      have eB := val_dg 4294967296 (by omega) Bv B0
      rw [show ((4294967296 : Nat) : Int) = 4294967296 from rfl] at eA eB
      rw [eA, eB, show remI A Bv = A % Bv by unfold remI; rw [if_neg hz]] at D
      have HD := Lib.hid D
      clear D eA eB hz
      go_wp2_with fail
      with_reducible refine (HD.out).mono ?_
      rintro e w3 ⟨qd, qn, qc, rd, rn, rc, rfl, oq, or, b3, _⟩
      have k1 := ob.below b3 (Nat.le_refl _)
      have k2 : Own w.heap.size w3 32 .u32 rd rn rc (dg 4294967296 (A % Bv)) := or.mono bw.size
      have k3 := below_trans bw b3
      have r0 := Int.emod_nonneg A (show Bv ≠ 0 by omega)
      have r1 := Int.emod_lt_of_pos A hB
      have hrn : rn ≤ m := by
        rw [← or.len]
        refine dg_length_le 4294967296 (by omega) m _ ?_
        have := dg_lt_of_len 4294967296 (by omega) m Bv B0 (by rw [lm.out]; omega)
        omega
      have HGn := Lib.hid (show gcdI Bv (A % Bv) = G by rw [gcdI_step A Bv A0 hB]; exact hg.out)
      have HM := Lib.hid (show (A % Bv).toNat < Bv.toNat by omega)
      clear HD oq or b3 oa ob bw hg lm
      go_wp2_with fail
      go_roundg ((A % Bv).toNat)
      case measure => have h1 := hme.out; have h2 := HM.out; omega

      case rel => exact ⟨_, _, _, _, _, _, Bv, A % Bv, rfl, rfl, hm, by omega, B0, r0, k1, k2, k3, HGn, Lib.hid rfl⟩
end Go.Proofs.YtgnophflogmmaaaDoor

/- quot.Gcd, FromBytes by worth alone. -/
namespace Go.Proofs.YtgnophflogmmaaaDoor
open Go.RowKit

theorem num_gcd (ad bd : Option Addr) (n m c d : Nat) (V U : Int) (w : World) (h : Num w ad n c V) (k : Num w bd m d U) (hn : n ≤ 70368744177662) (hm : m ≤ 70368744177662) :
    Calls Tryd.prog 8 #[.slice ad n c, .slice bd m d] w (RetC (gcdI V U) w) := by
  obtain ⟨xs, h1, h2, rfl⟩ := h.row
  obtain ⟨zs, k1, k2, rfl⟩ := k.row
  exact (gcd_calls ad bd n m c d xs zs w (by omega) (by omega) h.le k.le h1 k1 h2 k2).mono fun e w' q => q.can
theorem num_fromb (s : ByteArray) (w : World) (hs : s.size ≤ 140737488351232) :
    Calls Tryd.prog 23 #[.string s] w (RetCB (byteNum (bytesI s)) (byteOk (bytesI s)) w) := (fromb_calls s w hs).mono fun e w' q => q.can

theorem gcdI_nonneg (V U : Int) : 0 ≤ gcdI V U := by unfold gcdI; omega
end Go.Proofs.YtgnophflogmmaaaDoor

/- cruciblelaw02: tight, may. -/
namespace Go.Proofs.YtgnophflogmmaaaDoor
open Go.RowKit

theorem tight_calls (ad : Option Addr) (n c : Nat) (V : Int) (w : World) (h : Can w ad n c V) (hn : n ≤ 9223372036854775807) :
    Calls Tryd.prog 13 #[.slice ad n c] w (fun e w' => e = .returned (.bool true) ∧ w = w') := by
  have hl := h.rds.len
  by_cases h0 : n = 0
  · subst h0
    go_enter Tryd.func13, Tryd.ntmps13
    go_wp2
    go_ret
    exact ⟨rfl, rfl⟩
  · obtain ⟨k, rfl⟩ : ∃ k, n = k + 1 := ⟨n - 1, by omega⟩
    have hx := norm_last (b := 4294967296) (norm_dg 4294967296 (by omega) V) k hl
    obtain ⟨a, rfl, hc⟩ := h.rds.cell k (by omega)
    obtain ⟨x, hxx⟩ : ∃ x, (dg 4294967296 V)[k]?.getD 0 = x := ⟨_, rfl⟩
    rw [hxx] at hx hc
    have hx1 : (x != 0) = true := by simpa using hx
    have hk1 : ((k : Int) + 1 == 0) = false := by simp; omega
    have hk2 : ((k : Int) + 1 - 1) = (k : Int) := by omega
    clear hxx hx hl h0
    go_enter Tryd.func13, Tryd.ntmps13
    go_wp2
    go_ret
    exact ⟨rfl, rfl⟩

theorem powOk_mul (b n : Int) (hb : 2 ≤ b) (hn : 0 ≤ n) : powOk b n = decide (n * (blen b.toNat : Nat) ≤ 65536) := by
  unfold powOk
  have hp := blen_pos b.toNat (by omega)
  generalize blen b.toNat = l at *
  rw [decide_eq_decide]
  constructor
  · rintro ⟨_, h | h⟩
    · omega
    · exact (Int.le_ediv_iff_mul_le (by omega)).1 h
  · intro h
    exact ⟨hn, .inr ((Int.le_ediv_iff_mul_le (by omega)).2 h)⟩

theorem may_calls (b n : Int) (w : World) (hb : 0 ≤ b ∧ b < 4294967296) (hn : 0 ≤ n ∧ n ≤ 1000000) :
    Calls Tryd.prog 17 #[.int .u32 b, .int .i64 n] w (fun e w' => e = .returned (.bool (powOk b n)) ∧ Below w.heap.size w w') := by
  obtain ⟨p, hp⟩ : ∃ p, p = powOk b n := ⟨_, rfl⟩
  rw [← hp]
  by_cases hb2 : b < 2
  · have hpt : p = true := by rw [hp]; unfold powOk; exact decide_eq_true ⟨hn.1, .inl hb2⟩
    subst hpt
    clear hp
    go_enter Tryd.func17, Tryd.ntmps17
    go_wp2
    go_ret
    exact ⟨rfl, Below.refl _ _⟩
  · rw [powOk_mul b n (by omega) hn.1] at hp
    have x1 := num_cells w w.heap.size rfl [b] 1 rfl (fun y hy => by simp at hy; subst hy; exact hb) #[.int .u32 b] rfl b (by simp [val])
    have bl := below_lit w #[.int .u32 b] 32
    have h := num_len _ _ _ _ _ x1 (by omega)
    have hbits : bitsOf b = (blen b.toNat : Nat) := rfl
    rw [hbits] at h
    have hl0 := blen_pos b.toNat (by omega)
    have hl1 : blen b.toNat ≤ 32 := by
      have h1 := blen_ge b.toNat (by omega)
      have : blen b.toNat - 1 < 32 := (Nat.pow_lt_pow_iff_right (a := 2) (by omega)).1 (Nat.lt_of_le_of_lt h1 (by rw [show (2 : Nat) ^ 32 = 4294967296 from by decide]; omega))
      omega
    obtain ⟨l, hl⟩ : ∃ l : Int, (blen b.toNat : Int) = l := ⟨_, rfl⟩
    have hl0' : 0 < l := by omega
    have hl1' : l ≤ 32 := by omega
    rw [hl] at h hp
    have hm0 : 0 ≤ n * l := Int.mul_nonneg hn.1 (by omega)
    have hm1 : n * l ≤ 1000000 * 32 := Int.mul_le_mul hn.2 hl1' (by omega) (by omega)
    obtain ⟨m, hm⟩ : ∃ m, n * l = m := ⟨_, rfl⟩
    rw [hm] at hm0 hm1 hp
    have W1 : IntKind.i64.wrap (n * l) = m := by rw [hm]; exact IntWalk.i64_in _ (by omega)
    have HH := Lib.hid h
    have HP := Lib.hid hp
    clear h hbits hl hl0 hl1 hm x1 hp
    go_enter Tryd.func17, Tryd.ntmps17
    go_wp2_with fail
    with_reducible refine (HH.out).mono ?_
    rintro e w' ⟨rfl, rfl⟩
    clear HH
    go_wp2_with fail
    go_ret
    rw [HP.out]
    exact ⟨rfl, bl⟩

theorem powNum_lt (b n : Int) (hb : 0 ≤ b ∧ b < 4294967296) (L : Nat) (hL : L = 2048) : powNum b n < 4294967296 ^ L ∧ 0 ≤ powNum b n := by
  have hp : (1 : Int) < 4294967296 ^ L := by
    have := pow_le (b := 4294967296) (by omega) (show 1 ≤ L by omega)
    rw [Int.pow_succ, Int.pow_zero, Int.one_mul] at this
    omega
  unfold powNum
  split
  · rename_i h
    have h := of_decide_eq_true h
    by_cases hb2 : b < 2
    · rcases (show b = 0 ∨ b = 1 by omega) with rfl | rfl
      · rcases Nat.eq_zero_or_pos n.toNat with h0 | h0
        · rw [h0, Int.pow_zero]; exact ⟨hp, by omega⟩
        · rw [Int.zero_pow (by omega)]; exact ⟨by omega, by omega⟩
      · rw [Int.one_pow]; exact ⟨hp, by omega⟩
    · refine ⟨?_, Int.le_of_lt (Int.pow_pos (by omega))⟩
      have hn : n.toNat ≤ 65536 / blen b.toNat := by
        rcases h.2 with h2 | h2
        · omega
        · have : ((65536 / blen b.toNat : Nat) : Int) = 65536 / (blen b.toNat : Nat) := by simp
          omega
      obtain ⟨M, hM⟩ : ∃ M, M = 32 * L := ⟨_, rfl⟩
      have h1 := pow_bits b.toNat n.toNat M (by omega) (by omega) (by rw [hM, hL]; exact hn)
      rw [pow_limbs, ← hM]
      have e : b ^ n.toNat = ((b.toNat ^ n.toNat : Nat) : Int) := by
        rw [Int.natCast_pow, Int.toNat_of_nonneg hb.1]
      rw [e]
      exact Int.ofNat_lt.2 h1
  · exact ⟨by omega, by omega⟩
theorem pow_parts (b m n : Int) (hb : 0 ≤ b) (hm : 0 ≤ m) (hn : 0 ≤ n) (h : powOk b (m + n) = true) : powOk b m = true ∧ powOk b n = true ∧ powNum b m * powNum b n = powNum b (m + n) := by
  have h' := of_decide_eq_true h
  have h1 : powOk b m = true := decide_eq_true ⟨hm, by rcases h'.2 with h2 | h2
                                                       · exact .inl h2
                                                       · exact .inr (by omega)⟩
  have h2 : powOk b n = true := decide_eq_true ⟨hn, by rcases h'.2 with h2 | h2
                                                       · exact .inl h2
                                                       · exact .inr (by omega)⟩
  refine ⟨h1, h2, ?_⟩
  unfold powNum
  rw [if_pos h1, if_pos h2, if_pos h, ← Int.pow_add]
  congr 1
  omega
theorem pow_zero' (b : Int) : powOk b 0 = true ∧ powNum b 0 = 1 := by
  have h : powOk b 0 = true := by
    unfold powOk
    refine decide_eq_true ⟨by omega, .inr ?_⟩
    exact Int.ediv_nonneg (by omega) (by omega)
  refine ⟨h, ?_⟩
  unfold powNum
  rw [if_pos h]
  simp
end Go.Proofs.YtgnophflogmmaaaDoor
