/- Contracts of functions, and plain facts, part 13. -/
import Derived.Test.YtgnophflogmmaaaPk1
import Derived.Test.YtgnophflogmmaaaPk2
import Derived.Test.YtgnophflogmmaaaPk3
import Derived.Test.YtgnophflogmmaaaPk4
import Derived.Test.YtgnophflogmmaaaPk7
import Derived.Test.YtgnophflogmmaaaPk8
import Derived.Test.YtgnophflogmmaaaPk10
import Derived.Test.YtgnophflogmmaaaPk12
set_option linter.unusedVariables false
set_option linter.unusedSimpArgs false
/- quot.Bytes: a number as bytes, the highest first. -/
namespace Go.Proofs.Ytgnophflogmmaaa
open Go.RowKit

set_option maxHeartbeats 1000000 in
set_option maxRecDepth 20000 in
theorem qbytes_calls (ad : Option Addr) (na ca : Nat) (la : List Int) (w : World) (hna : na ≤ 35184372088831) (hac : na ≤ ca) (ha : Rds w .u32 ad na la) (da : Dig 4294967296 la) :
    Calls Try.prog 62 #[.slice ad na ca] w (RetS (strB (dg 256 (val 4294967296 la)).reverse) w) := by
  have N1 := Lib.hid (norm_calls ad na ca la w (by omega) hac ha da)
  have V0 := val_nonneg (show (0 : Int) < 4294967296 by omega) da
  have V1 := Lib.hid (val_lt (show (0 : Int) < 4294967296 by omega) da)
  rw [ha.len] at V1
  clear ha da
  generalize val 4294967296 la = V at *
  obtain ⟨S, HS⟩ : ∃ S, Hid (S = strB (dg 256 V).reverse) := ⟨_, rfl⟩
  rw [← HS.out]
  go_enter Try.func62, Try.ntmps62
  go_wp2_with fail
  with_reducible refine (N1.out).mono ?_
  rintro e w1 ⟨x0, n, c0, rfl, o1, b1⟩
  clear N1
  have hn0 : n ≤ na := by rw [← o1.len]; exact dg_length_le 4294967296 (by omega) na V V1.out
  have HL := Lib.hid o1.len
  have hs1 := b1.size
  have dv := dg_dig 4294967296 (by omega) V.toNat
  have eV := val_dg 4294967296 (by omega) V V0
  rw [show ((4294967296 : Nat) : Int) = 4294967296 from rfl] at eV
  change Dig 4294967296 (dg 4294967296 V) at dv
  have EV := Lib.hid eV
  have DV := Lib.hid dv
  have rx := o1.rds
  have HNN := Lib.hid (dg_nil 4294967296 V (by omega) V0)
  clear o1 eV dv V1
  generalize dg 4294967296 V = ls at *
  go_wp2_with fail
  go_loopw [3, 9] (fun s3 s9 wr => ∃ (bd : Option Addr) (bc k : Nat) (ds : List Int), s3 = .slice bd (4 * k) bc ∧ s9 = .int .i64 k ∧ k ≤ n ∧ App w1.heap.size wr 5 .u8 bd (4 * k) bc ds ∧ Dig 256 ds ∧ Below w1.heap.size w1 wr ∧ w1.heap.size ≤ wr.heap.size ∧ Hid (k = 0 → bd = none ∧ bc = 0) ∧ Hid (val 256 ds = val 4294967296 (ls.take k))) (fun _ s9 _ => n - (intOf s9).toNat)
  case atStart => exact ⟨none, 0, 0, [], rfl, rfl, by omega, App.nil _ _ _ _, Dig.nil _, Below.refl _ _, Nat.le_refl _, Lib.hid (fun _ => ⟨rfl, rfl⟩), Lib.hid rfl⟩
  case round =>
    obtain ⟨bd, bc, k, ds, rfl, rfl, hk, happ, dds, hb1, hsz, hnil, hval⟩ := hrel
    by_cases hkn : k < n
    · obtain ⟨a, rfl, hc⟩ := (rx.below hb1 (Nat.le_refl _)).cell k hkn
      have bx := DV.out.get (by omega) k
      have hf := four_step ls ds k (by rw [HL.out]; exact hkn) happ.len hval.out bx
      obtain ⟨x, hx⟩ : ∃ x, ls[k]?.getD 0 = x := ⟨_, rfl⟩
      rw [hx] at hc bx hf
      have HF := Lib.hid hf
      have DD := Lib.hid (dds.append (four_dig x))
      have HCS : Hid (#[Value.int .u8 (x % 256), Value.int .u8 (x / 256 % 256), Value.int .u8 (x / 65536 % 256), Value.int .u8 (x / 16777216)] = (nums .u8 (four x)).toArray) := Lib.hid (by
        have : x / 16777216 % 256 = x / 16777216 := by omega
        simp [four, nums, this])
      clear hf hx hval dds
      go_wp2_with (at_builtin; refine app_many (w0 := w1) w1.heap.size rfl (.tmp 13) (.tmp 25) 50 5 .u8 1 rfl Try.underlying50 info_byte (by omega) bd (4 * k) bc ds (four x) 4 rfl (by omega) _ HCS.out rfl rfl happ hb1 hsz (by omega) ?_; intro ad3 c3 w5 k1 k2 k3)
      go_roundw
      case rel => exact ⟨ad3, c3, k + 1, _, rfl, by go_num, by omega, k1, DD.out, k2, k3, Lib.hid (fun h => by omega), Lib.hid HF.out.2⟩
      case measure => simp [intOf]; omega
    · obtain rfl : k = n := by omega
      have hV : Hid (val 256 ds = V) := Lib.hid (by rw [hval.out, List.take_of_length_le (by rw [HL.out]; omega), EV.out])
      have HDL := Lib.hid happ.len
      have DDS := Lib.hid dds
      have hrd := happ.rds
      have hbel := below_trans b1 hb1
      clear hval rx hb1 b1
      by_cases hk0 : k = 0
      · have hV0 : V = 0 := HNN.out.1 (List.length_eq_zero_iff.1 (by rw [HL.out]; exact hk0))
        have hS : Hid (S = ByteArray.empty) := Lib.hid (by rw [HS.out, hV0, dg_zero]; rfl)
        obtain ⟨rfl, rfl⟩ := hnil.out hk0
        subst hk0
        have HR := Lib.hid (rev_nil wr)
        have hcv := run_convert_bytes_nil (P := Try.prog) wr 50 5 Try.underlying50 Try.underlying5 0 0 9 Try.underlying9
        clear happ hV0 HS hnil
        go_wp2_with fail
        refine wp_loop_rounds 1 ?_
        rw [rounds_succ]
        go_wp2_with fail
        with_reducible refine (HR.out).mono ?_
        rintro e w' ⟨rfl, rfl⟩
        clear HR
        go_wp2_with fail
        go_ret
        rw [hS.out]
        exact ⟨rfl, hbel⟩
      · have hkp : 0 < k := by omega
        obtain ⟨g, rfl, hg, hrow⟩ := happ.own.rowAt (by omega)
        have hbc := happ.own.le
        have hD := Lib.hid (norm_eq 256 (by omega) DDS.out)
        clear happ hk0
        go_wp2_with fail
        go_loop [3] (fun s3 => ∃ q : Nat, q ≤ 4 * k ∧ s3 = .slice (some ⟨g, 0, none⟩) q bc ∧ Hid (∀ j, q ≤ j → ds[j]?.getD 0 = 0)) (fun v => match v with | .slice _ q _ => q | _ => 0)
        case atStart => exact ⟨4 * k, Nat.le_refl _, rfl, Lib.hid fun j hj => by rw [List.getElem?_eq_none (by rw [HDL.out]; exact hj)]; rfl⟩
        case round =>
          obtain ⟨q, hq, rfl, hz⟩ := hrel
          by_cases hq0 : q = 0
          · exfalso
            have : ds = List.replicate (4 * k) 0 := by
              refine List.ext_getElem? fun j => ?_
              rcases Nat.lt_or_ge j (4 * k) with h1 | h1
              · have := hz.out j (by omega)
                rw [List.getElem?_replicate, if_pos h1]
                rw [List.getElem?_eq_getElem (by rw [HDL.out]; exact h1), Option.getD_some] at this
                rw [List.getElem?_eq_getElem (by rw [HDL.out]; exact h1), this]
              · rw [List.getElem?_eq_none (by rw [HDL.out]; exact h1), List.getElem?_eq_none (by simp; omega)]
            have hv0 : V = 0 := by rw [← hV.out, this, val_replicate]
            have := HNN.out.2 hv0
            have h2 := HL.out
            rw [this] at h2
            simp at h2
            omega
          · obtain ⟨p, rfl⟩ : ∃ p, q = p + 1 := ⟨q - 1, by omega⟩
            obtain ⟨a, ha, hc⟩ := hrd.cell p (by omega)
            injection ha with ha
            subst ha
            rw [plain_add] at hc
            have bx := DDS.out.get (by omega) p
            obtain ⟨x, hx⟩ : ∃ x, ds[p]?.getD 0 = x := ⟨_, rfl⟩
            rw [hx] at hc bx
            have HX := Lib.hid hx
            have W1 : ((p : Int) + 1 - 1) = (p : Int) := by omega
            clear hx hq0
            by_cases hx0 : x = 0
            · subst hx0
              go_wp2_with fail
              go_round
              case rel => exact ⟨p, by omega, rfl, Lib.hid fun j hj => by
                rcases Nat.lt_or_ge j (p + 1) with h1 | h1
                · obtain rfl : j = p := by omega
                  exact HX.out
                · exact hz.out j h1⟩
              case measure => simp
            · have hx1 : (x == 0) = false := by simpa using hx0
              have hN := norm_stop ds (p + 1) (by rw [HDL.out]; exact hq) hz.out (.inr (by rw [Nat.add_sub_cancel, HX.out]; exact hx0))
              rw [hD.out, show ((256 : Nat) : Int) = 256 from rfl, hV.out] at hN
              have hlt : (ds.take (p + 1)).length = p + 1 := by rw [List.length_take, HDL.out]; omega
              have hS : Hid (S = strB (ds.take (p + 1)).reverse) := Lib.hid (by rw [HS.out, hN])
              have HR := Lib.hid (rev_calls g (p + 1) bc 5 (ds.take (p + 1)) wr (by omega) (by omega) (hrow.first (p + 1) (by rw [HDL.out]; exact hq)) hlt)
              have HRD := Lib.hid (DDS.out.take (p + 1)).reverse
              have HRL := Lib.hid (show (ds.take (p + 1)).reverse.length = p + 1 by rw [List.length_reverse]; exact hlt)
              clear hN hlt hx0 hrow HX hz
              go_wp2_with fail
              with_reducible refine (HR.out).mono ?_
              rintro e w4 ⟨rfl, r1, o1⟩
              have rd := r1.rds
              rw [HRL.out] at rd
              have hcv := conv_str (P := Try.prog) 50 9 5 Try.underlying50 Try.underlying5 Try.underlying9 w4 _ (p + 1) bc _ rd HRD.out
              have hb4 := Only.below hbel (show w.heap.size ≤ g by omega) o1
              clear HR r1 o1 rd
              go_wp2_with fail
              go_ret
              rw [hS.out]
              exact ⟨rfl, hb4⟩
end Go.Proofs.Ytgnophflogmmaaa

/- whole: Cmp. (Printed by whole.py.) -/
namespace Go.Proofs.Ytgnophflogmmaaa
open Go.RowKit

theorem cmp_signs (N M V U : Int) (hV : V = N.natAbs) (hU : U = M.natAbs) : (sgI N < sgI M → cmpI N M = -1) ∧ (sgI M < sgI N → cmpI N M = 1) ∧ (sgI N = sgI M → sgI N * cmpI V U = cmpI N M) := by
  have hs : ∀ K : Int, (K < 0 ∧ sgI K = -1) ∨ (K = 0 ∧ sgI K = 0) ∨ (0 < K ∧ sgI K = 1) := fun K => by unfold sgI; split <;> (try split) <;> omega
  rcases hs N with ⟨a, e1⟩ | ⟨a, e1⟩ | ⟨a, e1⟩ <;> rcases hs M with ⟨c, e2⟩ | ⟨c, e2⟩ | ⟨c, e2⟩ <;> rw [e1, e2]
  all_goals refine ⟨fun h => ?_, fun h => ?_, fun h => ?_⟩
  all_goals first | (exfalso; omega) | skip
  all_goals first | (rw [cmpI_lt (by omega)]; done) | (rw [cmpI_gt (by omega)]; done) | skip
  · rcases Int.lt_trichotomy N M with k | k | k
    · rw [cmpI_lt k, cmpI_gt (by omega)]; rfl
    · rw [cmpI_eq k, cmpI_eq (by omega)]; rfl
    · rw [cmpI_gt k, cmpI_lt (by omega)]; rfl
  · rw [cmpI_eq (show N = M by omega)]; simp
  · rcases Int.lt_trichotomy N M with k | k | k
    · rw [cmpI_lt k, cmpI_lt (by omega)]; rfl
    · rw [cmpI_eq k, cmpI_eq (by omega)]; rfl
    · rw [cmpI_gt k, cmpI_gt (by omega)]; rfl

set_option maxHeartbeats 1000000 in
theorem wcmp_calls (ng1 : Bool) (ad1 : Option Addr) (n1 c1 : Nat) (V1 : Int) (ng2 : Bool) (ad2 : Option Addr) (n2 c2 : Nat) (V2 : Int) (w : World) (h1 : Num w ad1 n1 c1 V1) (hn1 : n1 ≤ 70368744177662) (h2 : Num w ad2 n2 c2 V2) (hn2 : n2 ≤ 70368744177662) :
    Calls Try.prog 37 #[.agg #[.bool ng1, .slice ad1 n1 c1], .agg #[.bool ng2, .slice ad2 n2 c2]] w (RetIB (cmpI (sI ng1 V1) (sI ng2 V2)) w) := by
  have hV0 := h1.nonneg
  have hU0 := h2.nonneg
  have T1 := Lib.hid h1.lt
  have T2 := Lib.hid h2.lt
  have b0 := Below.refl w.heap.size w
  have l0 : Below w.heap.size w (w.alloc (.cells #[.bool ng1, .slice ad1 n1 c1] 25)) := (Below.refl _ _).alloc (Nat.le_refl _) _
  have b1 : Below w.heap.size w (w.alloc (.cells #[.bool ng1, .slice ad1 n1 c1] 25)) := below_trans b0 l0
  have k0 : Cel (w.alloc (.cells #[.bool ng1, .slice ad1 n1 c1] 25)) w.heap.size 25 [.bool ng1, .slice ad1 n1 c1] := Cel.made _ _ _ _ (by simp)
  have l1 : Below (w.alloc (.cells #[.bool ng1, .slice ad1 n1 c1] 25)).heap.size (w.alloc (.cells #[.bool ng1, .slice ad1 n1 c1] 25)) ((w.alloc (.cells #[.bool ng1, .slice ad1 n1 c1] 25)).alloc (.cells #[.bool ng2, .slice ad2 n2 c2] 25)) := (Below.refl _ _).alloc (Nat.le_refl _) _
  have b2 : Below w.heap.size w ((w.alloc (.cells #[.bool ng1, .slice ad1 n1 c1] 25)).alloc (.cells #[.bool ng2, .slice ad2 n2 c2] 25)) := below_trans b1 l1
  have k1 : Cel ((w.alloc (.cells #[.bool ng1, .slice ad1 n1 c1] 25)).alloc (.cells #[.bool ng2, .slice ad2 n2 c2] 25)) (w.heap.size + 1) 25 [.bool ng2, .slice ad2 n2 c2] := Cel.made _ _ _ _ (by simp)
  replace k0 := k0.next l1
  replace h1 := h1.below b2 (Nat.le_refl _)
  replace h2 := h2.below b2 (Nat.le_refl _)
  clear b0 b1 l0 l1
  have hg0 : w.heap.size ≤ w.heap.size := Nat.le_refl _
  have hg1 : w.heap.size ≤ w.heap.size + 1 := Nat.le_add_right _ _
  have hS := wsigned_calls ng1 ad1 n1 c1 V1 ((w.alloc (.cells #[.bool ng1, .slice ad1 n1 c1] 25)).alloc (.cells #[.bool ng2, .slice ad2 n2 c2] 25)) h1 (by omega)
  have hS2 : Hid (∀ w2 : World, Below (((w.alloc (.cells #[.bool ng1, .slice ad1 n1 c1] 25)).alloc (.cells #[.bool ng2, .slice ad2 n2 c2] 25))).heap.size (((w.alloc (.cells #[.bool ng1, .slice ad1 n1 c1] 25)).alloc (.cells #[.bool ng2, .slice ad2 n2 c2] 25))) w2 → Calls Try.prog 50 #[.agg #[.bool ng2, .slice ad2 n2 c2]] w2 (fun e w' => ∃ ad' n' c', e = .returned (.tuple #[.int .i8 (sgI (sI ng2 V2)), .slice ad' n' c']) ∧ Can w' ad' n' c' V2 ∧ Below w2.heap.size w2 w')) := Lib.hid fun w2 b2 => wsigned_calls ng2 ad2 n2 c2 V2 w2 (h2.below b2 (Nat.le_refl _)) (by omega)
  have hA1 := (sI_abs ng1 V1 hV0).symm
  have hA2 := (sI_abs ng2 V2 hU0).symm
  generalize sI ng1 V1 = N at *
  generalize sI ng2 V2 = M at *
  clear h1 h2
  obtain ⟨z1, z2, z3⟩ := cmp_signs N M V1 V2 hA1 hA2
  obtain ⟨res, hres⟩ : ∃ res, res = cmpI N M := ⟨_, rfl⟩
  rw [← hres] at z1 z2 z3
  rw [← hres]
  have hs1 := sg_bd N
  have hs2 := sg_bd M
  generalize sgI N = s1 at *
  generalize sgI M = s2 at *
  have Z1 := Lib.hid z1
  have Z2 := Lib.hid z2
  have Z3 := Lib.hid z3
  have HRES := Lib.hid hres
  clear z1 z2 z3 hres hA1 hA2
  go_enter Try.func37, Try.ntmps37
  have h := Lib.hid hS
  clear hS
  have e0a := k0.cell 0 _ rfl
  have e0b := k0.cell 1 _ rfl
  have e1a := k1.cell 0 _ rfl
  have e1b := k1.cell 1 _ rfl
  go_wp2_with fail
  with_reducible refine (h.out).mono ?_
  rintro e v1 ⟨xd, xn, xc, rfl, f1, b⟩
  have hS3 := hS2.out _ b
  clear h hS2
  clear e0a e0b e1a e1b
  replace k0 := k0.next b
  replace k1 := k1.next b
  have bb := below_trans b2 b
  clear b b2
  have b2 := bb
  clear bb
  have h := Lib.hid (hS3)
  have e0a := k0.cell 0 _ rfl
  have e0b := k0.cell 1 _ rfl
  have e1a := k1.cell 0 _ rfl
  have e1b := k1.cell 1 _ rfl
  go_wp2_with fail
  with_reducible refine (h.out).mono ?_
  rintro e v2 ⟨yd, yn, yc, rfl, f2, b⟩
  clear h
  clear e0a e0b e1a e1b
  replace k0 := k0.next b
  replace k1 := k1.next b
  replace f1 := f1.below b (Nat.le_refl _)
  have bb := below_trans b2 b
  clear b b2
  have b2 := bb
  clear bb
  clear hS3
  have hxn : xn ≤ n1 := f1.len_le n1 T1.out
  have hyn : yn ≤ n2 := f2.len_le n2 T2.out
  rcases Int.lt_trichotomy s1 s2 with h | h | h
  · obtain rfl := Z1.out h
    go_wp2_with fail
    go_ret
    exact ⟨rfl, b2⟩
  · have hz := Z3.out h
    subst h
    have hl1 : ¬ s1 < s1 := by omega
    have hcb : -1 ≤ cmpI V1 V2 ∧ cmpI V1 V2 ≤ 1 := by unfold cmpI; split <;> (try split) <;> omega
    have hC := num_cmp xd yd xn yn xc yc V1 V2 v2 (f1.num hV0) (f2.num hU0) (by omega) (by omega)
    generalize cmpI V1 V2 = cc at *
    have hrb : -1 ≤ res ∧ res ≤ 1 := by rw [← hz]; rcases (show s1 = -1 ∨ s1 = 0 ∨ s1 = 1 by omega) with rfl | rfl | rfl <;> omega
    have W1 : IntKind.i64.wrap (s1 * cc) = res := by rw [hz]; exact IntWalk.i64_in _ (by omega)
    have HZ := Lib.hid hz
    clear hz
    have h := Lib.hid (hC)
    have e0a := k0.cell 0 _ rfl
    have e0b := k0.cell 1 _ rfl
    have e1a := k1.cell 0 _ rfl
    have e1b := k1.cell 1 _ rfl
    go_wp2_with fail
    with_reducible refine (h.out).mono ?_
    rintro e w' ⟨rfl, q, rfl⟩
    clear h
    clear e0a e0b e1a e1b
    have b : Below (v2).heap.size (v2) (World.drewN (v2) q) := below_drewN (Below.refl _ _) q
    generalize World.drewN (v2) q = v3 at *
    replace k0 := k0.next b
    replace k1 := k1.next b
    replace f1 := f1.below b (Nat.le_refl _)
    replace f2 := f2.below b (Nat.le_refl _)
    have bb := below_trans b2 b
    clear b b2
    have b2 := bb
    clear bb
    clear hC
    go_wp2_with fail
    go_ret
    exact ⟨rfl, b2⟩
  · obtain rfl := Z2.out h
    have hl1 : ¬ s1 < s2 := by omega
    go_wp2_with fail
    go_ret
    exact ⟨rfl, b2⟩
end Go.Proofs.Ytgnophflogmmaaa

/- whole: Int64. (Printed by whole.py.) -/
namespace Go.Proofs.Ytgnophflogmmaaa
open Go.RowKit

/-- Is it one of 64 bits? -/
def okI64 (N : Int) : Bool := decide (-9223372036854775808 ≤ N ∧ N < 9223372036854775808)
def okU64 (N : Int) : Bool := decide (0 ≤ N ∧ N < 18446744073709551616)
theorem xor_m1 (x : Int) (h : 0 ≤ x ∧ x < 9223372036854775808) : bits .xor .i64 (-1) x = -x - 1 := by
  obtain ⟨x, rfl⟩ := Int.eq_ofNat_of_zero_le h.1
  have hx : x < 9223372036854775808 := by omega
  have h2 : (BitVec.ofInt 64 (x : Int)).toNat = x := by
    rw [BitVec.ofInt_natCast, BitVec.toNat_ofNat]; exact Nat.mod_eq_of_lt (by omega)
  show IntKind.i64.wrap ((BitVec.ofInt 64 (-1) ^^^ BitVec.ofInt 64 (x : Int)).toNat : Int) = _
  rw [show BitVec.ofInt 64 (-1) = BitVec.allOnes 64 from by decide, BitVec.allOnes_xor, BitVec.toNat_not, h2]
  simp [IntKind.wrap, IntKind.bits, IntKind.signed]
  omega

set_option maxHeartbeats 1000000 in
theorem wint64_calls (ng1 : Bool) (ad1 : Option Addr) (n1 c1 : Nat) (V1 : Int) (w : World) (h1 : Num w ad1 n1 c1 V1) (hn1 : n1 ≤ 70368744177663) :
    Calls Try.prog 29 #[.agg #[.bool ng1, .slice ad1 n1 c1]] w (fun e w' => e = .returned (.tuple #[.int .i64 (if okI64 (sI ng1 V1) then sI ng1 V1 else 0), .bool (okI64 (sI ng1 V1))]) ∧ Below w.heap.size w w') := by
  have hV0 := h1.nonneg
  have T1 := Lib.hid h1.lt
  have b0 := Below.refl w.heap.size w
  have l0 : Below w.heap.size w (w.alloc (.cells #[.bool ng1, .slice ad1 n1 c1] 25)) := (Below.refl _ _).alloc (Nat.le_refl _) _
  have b1 : Below w.heap.size w (w.alloc (.cells #[.bool ng1, .slice ad1 n1 c1] 25)) := below_trans b0 l0
  have k0 : Cel (w.alloc (.cells #[.bool ng1, .slice ad1 n1 c1] 25)) w.heap.size 25 [.bool ng1, .slice ad1 n1 c1] := Cel.made _ _ _ _ (by simp)
  replace h1 := h1.below b1 (Nat.le_refl _)
  clear b0 l0
  have hg0 : w.heap.size ≤ w.heap.size := Nat.le_refl _
  have hS := wsigned_calls ng1 ad1 n1 c1 V1 (w.alloc (.cells #[.bool ng1, .slice ad1 n1 c1] 25)) h1 (by omega)
  have hA1 := (sI_abs ng1 V1 hV0).symm
  generalize sI ng1 V1 = N at *
  clear h1
  obtain ⟨ok, hok⟩ : ∃ ok, okI64 N = ok := ⟨_, rfl⟩
  obtain ⟨r, hr⟩ : ∃ r, (if ok then N else 0) = r := ⟨_, rfl⟩
  rw [hok, hr]
  have hsg : (N < 0 ∧ sgI N = -1) ∨ (0 ≤ N ∧ sgI N ≠ -1) := by unfold sgI; split <;> (try split) <;> omega
  generalize sgI N = s1 at *
  have HOK := Lib.hid hok
  have HR := Lib.hid hr
  have HSG := Lib.hid hsg
  clear hok hr hsg
  go_enter Try.func29, Try.ntmps29
  have h := Lib.hid (hS)
  have e0a := k0.cell 0 _ rfl
  have e0b := k0.cell 1 _ rfl
  go_wp2_with fail
  with_reducible refine (h.out).mono ?_
  rintro e v1 ⟨xd, xn, xc, rfl, f1, b⟩
  clear h
  clear e0a e0b
  replace k0 := k0.next b
  have bb := below_trans b1 b
  clear b b1
  have b1 := bb
  clear bb
  clear hS
  have hxn : xn ≤ n1 := f1.len_le n1 T1.out
  have hU := num_uint xd xn xc V1 v1 (f1.num hV0) (by omega)
  skip
  obtain ⟨u, hu⟩ : ∃ u, low64 V1 = u := ⟨_, rfl⟩
  obtain ⟨ft, hft⟩ : ∃ ft, fits64 V1 = ft := ⟨_, rfl⟩
  rw [hu, hft] at hU
  have HU := Lib.hid hu
  have HF := Lib.hid hft
  clear hu hft
  have h := Lib.hid (hU)
  have e0a := k0.cell 0 _ rfl
  have e0b := k0.cell 1 _ rfl
  go_wp2_with fail
  with_reducible refine (h.out).mono ?_
  rintro e w' ⟨rfl, rfl⟩
  clear h
  clear e0a e0b
  clear hU
  have hF := HF.out
  have hU := HU.out
  unfold fits64 at hF
  unfold low64 at hU
  rcases HSG.out with ⟨hN, hs⟩ | ⟨hN, hs⟩
  · subst hs
    by_cases hv : V1 < 18446744073709551616
    · obtain rfl : ft = true := by rw [← hF]; exact decide_eq_true hv
      obtain rfl : u = V1 := by rw [← hU]; simp [fits64, hv]
      have W1 : IntKind.u64.wrap (u - 1) = u - 1 := IntWalk.u64_in _ (by omega)
      by_cases hc : u - 1 < 9223372036854775808
      · skip
        obtain rfl : ok = true := by rw [← HOK.out]; exact decide_eq_true (by omega)
        obtain rfl : r = N := by rw [← HR.out]; simp
        clear hF hU
        go_wp2_with fail
        go_ret2
        refine ⟨?_, b1⟩
        rw [show bits .xor .i64 (-1) _ = r from by rw [xor_m1 _ (by omega)]; omega]
        rfl
      · skip
        obtain rfl : ok = false := by rw [← HOK.out]; exact decide_eq_false (by omega)
        obtain rfl : r = 0 := by rw [← HR.out]; simp
        clear hF hU
        go_wp2_with fail
        go_ret2
        exact ⟨rfl, b1⟩
    · obtain rfl : ft = false := by rw [← hF]; exact decide_eq_false hv
      obtain rfl : ok = false := by rw [← HOK.out]; exact decide_eq_false (by omega)
      obtain rfl : r = 0 := by rw [← HR.out]; simp
      clear hF hU
      go_wp2_with fail
      go_ret2
      exact ⟨rfl, b1⟩
  · have hs2 : (s1 == -1) = false := by rw [beq_eq_false_iff_ne]; exact hs
    by_cases hv : V1 < 18446744073709551616
    · obtain rfl : ft = true := by rw [← hF]; exact decide_eq_true hv
      obtain rfl : u = V1 := by rw [← hU]; simp [fits64, hv]
      by_cases hc : u < 9223372036854775808
      · skip
        obtain rfl : ok = true := by rw [← HOK.out]; exact decide_eq_true (by omega)
        obtain rfl : r = N := by rw [← HR.out]; simp
        clear hF hU
        go_wp2_with fail
        go_ret2
        refine ⟨?_, b1⟩
        rw [show ((r.natAbs : Nat) : Int) = r from by omega]
        rfl
      · skip
        obtain rfl : ok = false := by rw [← HOK.out]; exact decide_eq_false (by omega)
        obtain rfl : r = 0 := by rw [← HR.out]; simp
        clear hF hU
        go_wp2_with fail
        go_ret2
        exact ⟨rfl, b1⟩
    · obtain rfl : ft = false := by rw [← hF]; exact decide_eq_false hv
      obtain rfl : ok = false := by rw [← HOK.out]; exact decide_eq_false (by omega)
      obtain rfl : r = 0 := by rw [← HR.out]; simp
      clear hF hU
      go_wp2_with fail
      go_ret2
      exact ⟨rfl, b1⟩
end Go.Proofs.Ytgnophflogmmaaa

/- quot.Div by worth alone; lists written out. -/
namespace Go.Proofs.Ytgnophflogmmaaa
open Go.RowKit

def RetCCB (V R : Int) (ok : Bool) (w : World) (e : Ending) (w' : World) : Prop :=
  ∃ ad n c ad2 n2 c2, e = .returned (.tuple #[.slice ad n c, .slice ad2 n2 c2, .bool ok]) ∧ Can w' ad n c V ∧ Can w' ad2 n2 c2 R ∧ Below w.heap.size w w'
theorem RetLLB.can {V R : Int} {ok : Bool} {w : World} {e : Ending} {w' : World} (h : RetLLB 78 .u32 (dg 4294967296 V) (dg 4294967296 R) ok w e w') : RetCCB V R ok w e w' := by
  obtain ⟨ad, n, c, ad2, n2, c2, e1, o1, o2, hb, _⟩ := h
  exact ⟨ad, n, c, ad2, n2, c2, e1, ⟨o1.le, o1.rds⟩, ⟨o2.le, o2.rds⟩, hb⟩

theorem num_div (ad bd : Option Addr) (n m c d : Nat) (V U : Int) (w : World) (h : Num w ad n c V) (k : Num w bd m d U) (hn : n ≤ 70368744177662) (hm : m ≤ 70368744177662) :
    Calls Try.prog 51 #[.slice ad n c, .slice bd m d] w (RetCCB (V / U) (remI V U) (decide (U ≠ 0)) w) := by
  obtain ⟨xs, h1, h2, rfl⟩ := h.row
  obtain ⟨zs, k1, k2, rfl⟩ := k.row
  exact (div_calls ad bd n m c d xs zs w (by omega) (by omega) h.le k.le h1 k1 h2 k2).mono fun e w' q => q.can
theorem remI_nonneg (V U : Int) (hV : 0 ≤ V) : 0 ≤ remI V U := by
  unfold remI
  split
  · omega
  · exact Int.emod_nonneg _ ‹_›
theorem remI_lt (V U : Int) (hU : 0 < U) : remI V U < U := by
  unfold remI
  rw [if_neg (by omega)]
  exact Int.emod_lt_of_pos _ hU
theorem remI_eq (V U : Int) (hU : U ≠ 0) : remI V U = V % U := by unfold remI; rw [if_neg hU]

/-- A list that is written out. -/
theorem num_cells (w : World) (b : Nat) (hb : w.heap.size = b) (ys : List Int) (n : Nat) (hn : ys.length = n) (hd : Dig 4294967296 ys) (cs : Array Value) (hcs : cs = (nums .u32 ys).toArray) (V : Int) (hV : val 4294967296 ys = V) :
    Num (w.alloc (.cells cs 78)) (some ⟨b, 0, none⟩) n n V := by
  subst hcs hn hb
  have k0 : Blk (w.alloc (.cells (nums .u32 ys).toArray 78)) w.heap.size 78 .u32 ys := Blk.made w 78 .u32 ys _ rfl
  exact ⟨Nat.le_refl _, ys, k0.rds, hd, hV⟩
theorem can_cells (w : World) (b : Nat) (hb : w.heap.size = b) (ys : List Int) (n : Nat) (hn : ys.length = n) (hd : Dig 4294967296 ys) (cs : Array Value) (hcs : cs = (nums .u32 ys).toArray) (V : Int) (hV : val 4294967296 ys = V) (hno : norm ys = ys) :
    Can (w.alloc (.cells cs 78)) (some ⟨b, 0, none⟩) n n V := by
  subst hcs hn hb
  have k0 : Blk (w.alloc (.cells (nums .u32 ys).toArray 78)) w.heap.size 78 .u32 ys := Blk.made w 78 .u32 ys _ rfl
  have e := norm_eq 4294967296 (by omega) hd
  rw [hno, show ((4294967296 : Nat) : Int) = 4294967296 from rfl, hV] at e
  refine ⟨Nat.le_refl _, ?_⟩
  rw [← e]
  exact k0.rds
theorem below_lit (w : World) (cs : Array Value) (t : TypeId) : Below w.heap.size w (w.alloc (.cells cs t)) := (Below.refl _ _).alloc (Nat.le_refl _) _
theorem dig_lit (ys : List Int) (h : ys.all (fun y => decide (0 ≤ y ∧ y < 4294967296)) = true) : Dig 4294967296 ys := fun y hy => by
  have := List.all_eq_true.1 h y hy
  simpa using this
end Go.Proofs.Ytgnophflogmmaaa

/- quot.Digits, Read, Bytes by worth alone. -/
namespace Go.Proofs.Ytgnophflogmmaaa
open Go.RowKit

theorem num_digits (ad : Option Addr) (n c : Nat) (V : Int) (w : World) (h : Num w ad n c V) (hn : n ≤ 4398046511104) :
    Calls Try.prog 59 #[.slice ad n c] w (RetS (strB (decL V)) w) := by
  obtain ⟨xs, h1, h2, rfl⟩ := h.row
  exact digits_calls ad n c xs w (by omega) h.le h1 h2
theorem num_bytes (ad : Option Addr) (n c : Nat) (V : Int) (w : World) (h : Num w ad n c V) (hn : n ≤ 35184372088831) :
    Calls Try.prog 62 #[.slice ad n c] w (RetS (strB (dg 256 V).reverse) w) := by
  obtain ⟨xs, h1, h2, rfl⟩ := h.row
  exact qbytes_calls ad n c xs w (by omega) h.le h1 h2
theorem num_read (s : ByteArray) (w : World) (hs : s.size ≤ 140737488351232) :
    Calls Try.prog 57 #[.string s] w (RetCB (readNum (bytesI s)) (readOk (bytesI s)) w) := (read_calls s w hs).mono fun e w' q => q.can
end Go.Proofs.Ytgnophflogmmaaa

/- whole: Uint64. (Printed by whole.py.) -/
namespace Go.Proofs.Ytgnophflogmmaaa
open Go.RowKit


set_option maxHeartbeats 1000000 in
theorem wuint64_calls (ng1 : Bool) (ad1 : Option Addr) (n1 c1 : Nat) (V1 : Int) (w : World) (h1 : Num w ad1 n1 c1 V1) (hn1 : n1 ≤ 70368744177663) :
    Calls Try.prog 30 #[.agg #[.bool ng1, .slice ad1 n1 c1]] w (fun e w' => e = .returned (.tuple #[.int .u64 (if okU64 (sI ng1 V1) then sI ng1 V1 else 0), .bool (okU64 (sI ng1 V1))]) ∧ Below w.heap.size w w') := by
  have hV0 := h1.nonneg
  have T1 := Lib.hid h1.lt
  have b0 := Below.refl w.heap.size w
  have l0 : Below w.heap.size w (w.alloc (.cells #[.bool ng1, .slice ad1 n1 c1] 25)) := (Below.refl _ _).alloc (Nat.le_refl _) _
  have b1 : Below w.heap.size w (w.alloc (.cells #[.bool ng1, .slice ad1 n1 c1] 25)) := below_trans b0 l0
  have k0 : Cel (w.alloc (.cells #[.bool ng1, .slice ad1 n1 c1] 25)) w.heap.size 25 [.bool ng1, .slice ad1 n1 c1] := Cel.made _ _ _ _ (by simp)
  replace h1 := h1.below b1 (Nat.le_refl _)
  clear b0 l0
  have hg0 : w.heap.size ≤ w.heap.size := Nat.le_refl _
  have hS := wsigned_calls ng1 ad1 n1 c1 V1 (w.alloc (.cells #[.bool ng1, .slice ad1 n1 c1] 25)) h1 (by omega)
  have hA1 := (sI_abs ng1 V1 hV0).symm
  generalize sI ng1 V1 = N at *
  clear h1
  obtain ⟨ok, hok⟩ : ∃ ok, okU64 N = ok := ⟨_, rfl⟩
  obtain ⟨r, hr⟩ : ∃ r, (if ok then N else 0) = r := ⟨_, rfl⟩
  rw [hok, hr]
  have hsg : (N < 0 ∧ sgI N = -1) ∨ (0 ≤ N ∧ sgI N ≠ -1) := by unfold sgI; split <;> (try split) <;> omega
  generalize sgI N = s1 at *
  have HOK := Lib.hid hok
  have HR := Lib.hid hr
  have HSG := Lib.hid hsg
  clear hok hr hsg
  go_enter Try.func30, Try.ntmps30
  have h := Lib.hid (hS)
  have e0a := k0.cell 0 _ rfl
  have e0b := k0.cell 1 _ rfl
  go_wp2_with fail
  with_reducible refine (h.out).mono ?_
  rintro e v1 ⟨xd, xn, xc, rfl, f1, b⟩
  clear h
  clear e0a e0b
  replace k0 := k0.next b
  have bb := below_trans b1 b
  clear b b1
  have b1 := bb
  clear bb
  clear hS
  have hxn : xn ≤ n1 := f1.len_le n1 T1.out
  have hU := num_uint xd xn xc V1 v1 (f1.num hV0) (by omega)
  obtain ⟨u, hu⟩ : ∃ u, low64 V1 = u := ⟨_, rfl⟩
  obtain ⟨ft, hft⟩ : ∃ ft, fits64 V1 = ft := ⟨_, rfl⟩
  rw [hu, hft] at hU
  rcases HSG.out with ⟨hN, hs⟩ | ⟨hN, hs⟩
  · subst hs
    clear hU hu hft
    obtain rfl : ok = false := by rw [← HOK.out]; exact decide_eq_false (by omega)
    obtain rfl : r = 0 := by rw [← HR.out]; simp
    go_wp2_with fail
    go_ret2
    exact ⟨rfl, b1⟩
  · have hs2 : (s1 == -1) = false := by rw [beq_eq_false_iff_ne]; exact hs
    obtain rfl : ft = ok := by rw [← hft, ← HOK.out]; unfold fits64 okU64; rw [decide_eq_decide]; omega
    obtain rfl : u = r := by rw [← hu, ← HR.out]; rw [← hft]; unfold low64 fits64; simp only [decide_eq_true_eq]; split <;> omega
    clear hu hft
    have h := Lib.hid (hU)
    have e0a := k0.cell 0 _ rfl
    have e0b := k0.cell 1 _ rfl
    go_wp2_with fail
    with_reducible refine (h.out).mono ?_
    rintro e w' ⟨rfl, rfl⟩
    clear h
    clear e0a e0b
    clear hU
    go_wp2_with fail
    go_ret2
    exact ⟨rfl, b1⟩
end Go.Proofs.Ytgnophflogmmaaa
