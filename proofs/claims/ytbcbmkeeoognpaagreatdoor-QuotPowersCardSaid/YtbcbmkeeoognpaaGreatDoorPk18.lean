/- Contracts of functions, and plain facts, part 18. -/
import Derived.LoopN
import Derived.Deep.RegionHeld3
import Derived.Test.YtbcbmkeeoognpaaGreatDoorPk1
import Derived.Test.YtbcbmkeeoognpaaGreatDoorPk4
import Derived.Test.YtbcbmkeeoognpaaGreatDoorPk5
import Derived.Test.YtbcbmkeeoognpaaGreatDoorPk6
import Derived.Test.YtbcbmkeeoognpaaGreatDoorPk11
import Derived.Test.YtbcbmkeeoognpaaGreatDoorPk12
import Derived.Test.YtbcbmkeeoognpaaGreatDoorPk13
import Derived.Test.YtbcbmkeeoognpaaGreatDoorPk14
import Derived.Test.YtbcbmkeeoognpaaGreatDoorPk15
import Derived.Test.YtbcbmkeeoognpaaGreatDoorPk17
set_option linter.unusedVariables false
set_option linter.unusedSimpArgs false
/- quot.Bytes: a number as bytes, the highest first. -/
namespace Go.Proofs.YtbcbmkeeoognpaaGreatDoor
open Go.RowKit

set_option maxHeartbeats 1000000 in
set_option maxRecDepth 20000 in
theorem qbytes_calls (ad : Option Addr) (na ca : Nat) (la : List Int) (w : World) (hna : na ≤ 35184372088831) (hac : na ≤ ca) (ha : Rds w .u32 ad na la) (da : Dig 4294967296 la) :
    Calls Tryz.prog 34 #[.slice ad na ca] w (RetS (strB (dg 256 (val 4294967296 la)).reverse) w) := by
  have N1 := Lib.hid (norm_calls ad na ca la w (by omega) hac ha da)
  have V0 := val_nonneg (show (0 : Int) < 4294967296 by omega) da
  have V1 := Lib.hid (val_lt (show (0 : Int) < 4294967296 by omega) da)
  rw [ha.len] at V1
  clear ha da
  generalize val 4294967296 la = V at *
  obtain ⟨S, HS⟩ : ∃ S, Hid (S = strB (dg 256 V).reverse) := ⟨_, rfl⟩
  rw [← HS.out]
  go_enter Tryz.func34, Tryz.ntmps34
  go_wp2_with fail
  with_reducible refine (N1.out).mono ?_
  rintro e w1 ⟨x0, n, c0, rfl, o1, b1⟩
  clear N1
  have hn0 : n ≤ na := by rw [← o1.len]; exact dg_length_le 4294967296 (by omega) na V V1.out
  have HL := Lib.hid o1.len
  have hs1 := b1.size
  have dv := dg_dig 4294967296 (by omega) V.toNat
  have eV := val_dg 4294967296 (by omega) V V0
  rw [show ((4294967296 : Nat) : Int) = 4294967296 from rfl] at eV
  change Dig 4294967296 (dg 4294967296 V) at dv
  have EV := Lib.hid eV
  have DV := Lib.hid dv
  have rx := o1.rds
  have HNN := Lib.hid (dg_nil 4294967296 V (by omega) V0)
  clear o1 eV dv V1
  generalize dg 4294967296 V = ls at *
  go_wp2_with fail
  go_loopw [3, 9] (fun s3 s9 wr => ∃ (bd : Option Addr) (bc k : Nat) (ds : List Int), s3 = .slice bd (4 * k) bc ∧ s9 = .int .i64 k ∧ k ≤ n ∧ App w1.heap.size wr 5 .u8 bd (4 * k) bc ds ∧ Dig 256 ds ∧ Below w1.heap.size w1 wr ∧ w1.heap.size ≤ wr.heap.size ∧ Hid (k = 0 → bd = none ∧ bc = 0) ∧ Hid (val 256 ds = val 4294967296 (ls.take k))) (fun _ s9 _ => n - (intOf s9).toNat)
  case atStart => exact ⟨none, 0, 0, [], rfl, rfl, by omega, App.nil _ _ _ _, Dig.nil _, Below.refl _ _, Nat.le_refl _, Lib.hid (fun _ => ⟨rfl, rfl⟩), Lib.hid rfl⟩
  case round =>
    obtain ⟨bd, bc, k, ds, rfl, rfl, hk, happ, dds, hb1, hsz, hnil, hval⟩ := hrel
    by_cases hkn : k < n
    · obtain ⟨a, rfl, hc⟩ := (rx.below hb1 (Nat.le_refl _)).cell k hkn
      have bx := DV.out.get (by omega) k
      have hf := four_step ls ds k (by rw [HL.out]; exact hkn) happ.len hval.out bx
      obtain ⟨x, hx⟩ : ∃ x, ls[k]?.getD 0 = x := ⟨_, rfl⟩
      rw [hx] at hc bx hf
      have HF := Lib.hid hf
      have DD := Lib.hid (dds.append (four_dig x))
      have HCS : Hid (#[Value.int .u8 (x % 256), Value.int .u8 (x / 256 % 256), Value.int .u8 (x / 65536 % 256), Value.int .u8 (x / 16777216)] = (nums .u8 (four x)).toArray) := Lib.hid (by
        have : x / 16777216 % 256 = x / 16777216 := by omega
        simp [four, nums, this])
      clear hf hx hval dds
      go_wp2_with (at_builtin; refine app_many (w0 := w1) w1.heap.size rfl (.tmp 13) (.tmp 25) 122 5 .u8 1 rfl Tryz.underlying122 info_byte (by omega) bd (4 * k) bc ds (four x) 4 rfl (by omega) _ HCS.out rfl rfl happ hb1 hsz (by omega) ?_; intro ad3 c3 w5 k1 k2 k3)
      go_roundw
      case rel => exact ⟨ad3, c3, k + 1, _, rfl, by go_num, by omega, k1, DD.out, k2, k3, Lib.hid (fun h => by omega), Lib.hid HF.out.2⟩
      case measure => simp [intOf]; omega
    · obtain rfl : k = n := by omega
      have hV : Hid (val 256 ds = V) := Lib.hid (by rw [hval.out, List.take_of_length_le (by rw [HL.out]; omega), EV.out])
      have HDL := Lib.hid happ.len
      have DDS := Lib.hid dds
      have hrd := happ.rds
      have hbel := below_trans b1 hb1
      clear hval rx hb1 b1
      by_cases hk0 : k = 0
      · have hV0 : V = 0 := HNN.out.1 (List.length_eq_zero_iff.1 (by rw [HL.out]; exact hk0))
        have hS : Hid (S = ByteArray.empty) := Lib.hid (by rw [HS.out, hV0, dg_zero]; rfl)
        obtain ⟨rfl, rfl⟩ := hnil.out hk0
        subst hk0
        have HR := Lib.hid (rev_nil wr)
        have hcv := run_convert_bytes_nil (P := Tryz.prog) wr 122 5 Tryz.underlying122 Tryz.underlying5 0 0 9 Tryz.underlying9
        clear happ hV0 HS hnil
        go_wp2_with fail
        refine wp_loop_rounds 1 ?_
        rw [rounds_succ]
        go_wp2_with fail
        with_reducible refine (HR.out).mono ?_
        rintro e w' ⟨rfl, rfl⟩
        clear HR
        go_wp2_with fail
        go_ret
        rw [hS.out]
        exact ⟨rfl, hbel⟩
      · have hkp : 0 < k := by omega
        obtain ⟨g, rfl, hg, hrow⟩ := happ.own.rowAt (by omega)
        have hbc := happ.own.le
        have hD := Lib.hid (norm_eq 256 (by omega) DDS.out)
        clear happ hk0
        go_wp2_with fail
        go_loop [3] (fun s3 => ∃ q : Nat, q ≤ 4 * k ∧ s3 = .slice (some ⟨g, 0, none⟩) q bc ∧ Hid (∀ j, q ≤ j → ds[j]?.getD 0 = 0)) (fun v => match v with | .slice _ q _ => q | _ => 0)
        case atStart => exact ⟨4 * k, Nat.le_refl _, rfl, Lib.hid fun j hj => by rw [List.getElem?_eq_none (by rw [HDL.out]; exact hj)]; rfl⟩
        case round =>
          obtain ⟨q, hq, rfl, hz⟩ := hrel
          by_cases hq0 : q = 0
          · exfalso
            have : ds = List.replicate (4 * k) 0 := by
              refine List.ext_getElem? fun j => ?_
              rcases Nat.lt_or_ge j (4 * k) with h1 | h1
              · have := hz.out j (by omega)
                rw [List.getElem?_replicate, if_pos h1]
                rw [List.getElem?_eq_getElem (by rw [HDL.out]; exact h1), Option.getD_some] at this
                rw [List.getElem?_eq_getElem (by rw [HDL.out]; exact h1), this]
              · rw [List.getElem?_eq_none (by rw [HDL.out]; exact h1), List.getElem?_eq_none (by simp; omega)]
            have hv0 : V = 0 := by rw [← hV.out, this, val_replicate]
            have := HNN.out.2 hv0
            have h2 := HL.out
            rw [this] at h2
            simp at h2
            omega
          · obtain ⟨p, rfl⟩ : ∃ p, q = p + 1 := ⟨q - 1, by omega⟩
            obtain ⟨a, ha, hc⟩ := hrd.cell p (by omega)
            injection ha with ha
            subst ha
            rw [plain_add] at hc
            have bx := DDS.out.get (by omega) p
            obtain ⟨x, hx⟩ : ∃ x, ds[p]?.getD 0 = x := ⟨_, rfl⟩
            rw [hx] at hc bx
            have HX := Lib.hid hx
            have W1 : ((p : Int) + 1 - 1) = (p : Int) := by omega
            clear hx hq0
            by_cases hx0 : x = 0
            · subst hx0
              go_wp2_with fail
              go_round
              case rel => exact ⟨p, by omega, rfl, Lib.hid fun j hj => by
                rcases Nat.lt_or_ge j (p + 1) with h1 | h1
                · obtain rfl : j = p := by omega
                  exact HX.out
                · exact hz.out j h1⟩
              case measure => simp
            · have hx1 : (x == 0) = false := by simpa using hx0
              have hN := norm_stop ds (p + 1) (by rw [HDL.out]; exact hq) hz.out (.inr (by rw [Nat.add_sub_cancel, HX.out]; exact hx0))
              rw [hD.out, show ((256 : Nat) : Int) = 256 from rfl, hV.out] at hN
              have hlt : (ds.take (p + 1)).length = p + 1 := by rw [List.length_take, HDL.out]; omega
              have hS : Hid (S = strB (ds.take (p + 1)).reverse) := Lib.hid (by rw [HS.out, hN])
              have HR := Lib.hid (rev_calls g (p + 1) bc 5 (ds.take (p + 1)) wr (by omega) (by omega) (hrow.first (p + 1) (by rw [HDL.out]; exact hq)) hlt)
              have HRD := Lib.hid (DDS.out.take (p + 1)).reverse
              have HRL := Lib.hid (show (ds.take (p + 1)).reverse.length = p + 1 by rw [List.length_reverse]; exact hlt)
              clear hN hlt hx0 hrow HX hz
              go_wp2_with fail
              with_reducible refine (HR.out).mono ?_
              rintro e w4 ⟨rfl, r1, o1⟩
              have rd := r1.rds
              rw [HRL.out] at rd
              have hcv := conv_str (P := Tryz.prog) 122 9 5 Tryz.underlying122 Tryz.underlying5 Tryz.underlying9 w4 _ (p + 1) bc _ rd HRD.out
              have hb4 := Only.below hbel (show w.heap.size ≤ g by omega) o1
              clear HR r1 o1 rd
              go_wp2_with fail
              go_ret
              rw [hS.out]
              exact ⟨rfl, hb4⟩
end Go.Proofs.YtbcbmkeeoognpaaGreatDoor


/- whole: Cmp. (Printed by whole.py.) -/
namespace Go.Proofs.YtbcbmkeeoognpaaGreatDoor
open Go.RowKit

end Go.Proofs.YtbcbmkeeoognpaaGreatDoor


/- whole: Add. (Printed by whole.py.) -/
namespace Go.Proofs.YtbcbmkeeoognpaaGreatDoor
open Go.RowKit

end Go.Proofs.YtbcbmkeeoognpaaGreatDoor


/- whole: Sub. (Printed by whole.py.) -/
namespace Go.Proofs.YtbcbmkeeoognpaaGreatDoor
open Go.RowKit

end Go.Proofs.YtbcbmkeeoognpaaGreatDoor


/- whole: Mul. (Printed by whole.py.) -/
namespace Go.Proofs.YtbcbmkeeoognpaaGreatDoor
open Go.RowKit

end Go.Proofs.YtbcbmkeeoognpaaGreatDoor


/- A Book's functions where there is no list of their kind. (Printed by book.py.) -/
set_option maxRecDepth 50000
namespace Go.Proofs.YtbcbmkeeoognpaaGreatDoor
open Go Go.RowKit

theorem BookAt.nilc {B : Nat} {w : World} {b : Nat} {v : Value} {L : List Hd} (h : BookAt B w b v L) (k : Nat) (hk : (bookCells L.length v)[k]? = some (.slice none 0 0)) : w.cell? ⟨b, k, none⟩ = some (.slice none 0 0) := by
  have h1 := h.hd
  simp only [World.cell?, h1]
  exact hk
theorem none_fillValue (b : Nat) (w : World) (hc : w.cell? ⟨b, 2, none⟩ = some (.slice none 0 0)) : Calls Tryz.prog 65 #[.pointer (some ⟨b, 0, none⟩)] w (fun e w' => e = .returned (.tuple #[]) ∧ w = w') := by
  go_enter Tryz.func65, Tryz.ntmps65
  go_wp2
  refine wp_loop_rounds 1 ?_
  rw [rounds_succ]
  go_wp2
  go_end0
  exact ⟨rfl, rfl⟩
theorem none_growValue (b : Nat) (w : World) (hc : w.cell? ⟨b, 2, none⟩ = some (.slice none 0 0)) : Calls Tryz.prog 79 #[.pointer (some ⟨b, 0, none⟩)] w (fun e w' => e = .returned (.tuple #[]) ∧ w = w') := by
  go_enter Tryz.func79, Tryz.ntmps79
  go_wp2
  refine wp_loop_rounds 1 ?_
  rw [rounds_succ]
  go_wp2
  go_end0
  exact ⟨rfl, rfl⟩
theorem none_lookValue (b : Nat) (w : World) (hc : w.cell? ⟨b, 2, none⟩ = some (.slice none 0 0)) : Calls Tryz.prog 93 #[.pointer (some ⟨b, 0, none⟩)] w (fun e w' => e = .returned (.bool true) ∧ w = w') := by
  go_enter Tryz.func93, Tryz.ntmps93
  go_wp2
  refine wp_loop_rounds 1 ?_
  rw [rounds_succ]
  go_wp2
  go_ret
  exact ⟨rfl, rfl⟩
theorem none_fillText (b : Nat) (w : World) (hc : w.cell? ⟨b, 3, none⟩ = some (.slice none 0 0)) : Calls Tryz.prog 66 #[.pointer (some ⟨b, 0, none⟩)] w (fun e w' => e = .returned (.tuple #[]) ∧ w = w') := by
  go_enter Tryz.func66, Tryz.ntmps66
  go_wp2
  refine wp_loop_rounds 1 ?_
  rw [rounds_succ]
  go_wp2
  go_end0
  exact ⟨rfl, rfl⟩
theorem none_growText (b : Nat) (w : World) (hc : w.cell? ⟨b, 3, none⟩ = some (.slice none 0 0)) : Calls Tryz.prog 80 #[.pointer (some ⟨b, 0, none⟩)] w (fun e w' => e = .returned (.tuple #[]) ∧ w = w') := by
  go_enter Tryz.func80, Tryz.ntmps80
  go_wp2
  refine wp_loop_rounds 1 ?_
  rw [rounds_succ]
  go_wp2
  go_end0
  exact ⟨rfl, rfl⟩
theorem none_lookText (b : Nat) (w : World) (hc : w.cell? ⟨b, 3, none⟩ = some (.slice none 0 0)) : Calls Tryz.prog 94 #[.pointer (some ⟨b, 0, none⟩)] w (fun e w' => e = .returned (.bool true) ∧ w = w') := by
  go_enter Tryz.func94, Tryz.ntmps94
  go_wp2
  refine wp_loop_rounds 1 ?_
  rw [rounds_succ]
  go_wp2
  go_ret
  exact ⟨rfl, rfl⟩
theorem none_fillByte (b : Nat) (w : World) (hc : w.cell? ⟨b, 4, none⟩ = some (.slice none 0 0)) : Calls Tryz.prog 67 #[.pointer (some ⟨b, 0, none⟩)] w (fun e w' => e = .returned (.tuple #[]) ∧ w = w') := by
  go_enter Tryz.func67, Tryz.ntmps67
  go_wp2
  refine wp_loop_rounds 1 ?_
  rw [rounds_succ]
  go_wp2
  go_end0
  exact ⟨rfl, rfl⟩
theorem none_growByte (b : Nat) (w : World) (hc : w.cell? ⟨b, 4, none⟩ = some (.slice none 0 0)) : Calls Tryz.prog 81 #[.pointer (some ⟨b, 0, none⟩)] w (fun e w' => e = .returned (.tuple #[]) ∧ w = w') := by
  go_enter Tryz.func81, Tryz.ntmps81
  go_wp2
  refine wp_loop_rounds 1 ?_
  rw [rounds_succ]
  go_wp2
  go_end0
  exact ⟨rfl, rfl⟩
theorem none_lookByte (b : Nat) (w : World) (hc : w.cell? ⟨b, 4, none⟩ = some (.slice none 0 0)) : Calls Tryz.prog 95 #[.pointer (some ⟨b, 0, none⟩)] w (fun e w' => e = .returned (.bool true) ∧ w = w') := by
  go_enter Tryz.func95, Tryz.ntmps95
  go_wp2
  refine wp_loop_rounds 1 ?_
  rw [rounds_succ]
  go_wp2
  go_ret
  exact ⟨rfl, rfl⟩
theorem none_fillSum (b : Nat) (w : World) (hc : w.cell? ⟨b, 5, none⟩ = some (.slice none 0 0)) : Calls Tryz.prog 68 #[.pointer (some ⟨b, 0, none⟩)] w (fun e w' => e = .returned (.tuple #[]) ∧ w = w') := by
  go_enter Tryz.func68, Tryz.ntmps68
  go_wp2
  refine wp_loop_rounds 1 ?_
  rw [rounds_succ]
  go_wp2
  go_end0
  exact ⟨rfl, rfl⟩
theorem none_growSum (b : Nat) (w : World) (hc : w.cell? ⟨b, 5, none⟩ = some (.slice none 0 0)) : Calls Tryz.prog 82 #[.pointer (some ⟨b, 0, none⟩)] w (fun e w' => e = .returned (.tuple #[]) ∧ w = w') := by
  go_enter Tryz.func82, Tryz.ntmps82
  go_wp2
  refine wp_loop_rounds 1 ?_
  rw [rounds_succ]
  go_wp2
  go_end0
  exact ⟨rfl, rfl⟩
theorem none_lookSum (b : Nat) (w : World) (hc : w.cell? ⟨b, 5, none⟩ = some (.slice none 0 0)) : Calls Tryz.prog 96 #[.pointer (some ⟨b, 0, none⟩)] w (fun e w' => e = .returned (.bool true) ∧ w = w') := by
  go_enter Tryz.func96, Tryz.ntmps96
  go_wp2
  refine wp_loop_rounds 1 ?_
  rw [rounds_succ]
  go_wp2
  go_ret
  exact ⟨rfl, rfl⟩
theorem none_fillRune (b : Nat) (w : World) (hc : w.cell? ⟨b, 6, none⟩ = some (.slice none 0 0)) : Calls Tryz.prog 69 #[.pointer (some ⟨b, 0, none⟩)] w (fun e w' => e = .returned (.tuple #[]) ∧ w = w') := by
  go_enter Tryz.func69, Tryz.ntmps69
  go_wp2
  refine wp_loop_rounds 1 ?_
  rw [rounds_succ]
  go_wp2
  go_end0
  exact ⟨rfl, rfl⟩
theorem none_growRune (b : Nat) (w : World) (hc : w.cell? ⟨b, 6, none⟩ = some (.slice none 0 0)) : Calls Tryz.prog 83 #[.pointer (some ⟨b, 0, none⟩)] w (fun e w' => e = .returned (.tuple #[]) ∧ w = w') := by
  go_enter Tryz.func83, Tryz.ntmps83
  go_wp2
  refine wp_loop_rounds 1 ?_
  rw [rounds_succ]
  go_wp2
  go_end0
  exact ⟨rfl, rfl⟩
theorem none_lookRune (b : Nat) (w : World) (hc : w.cell? ⟨b, 6, none⟩ = some (.slice none 0 0)) : Calls Tryz.prog 97 #[.pointer (some ⟨b, 0, none⟩)] w (fun e w' => e = .returned (.bool true) ∧ w = w') := by
  go_enter Tryz.func97, Tryz.ntmps97
  go_wp2
  refine wp_loop_rounds 1 ?_
  rw [rounds_succ]
  go_wp2
  go_ret
  exact ⟨rfl, rfl⟩
theorem none_fillUnit (b : Nat) (w : World) (hc : w.cell? ⟨b, 7, none⟩ = some (.slice none 0 0)) : Calls Tryz.prog 70 #[.pointer (some ⟨b, 0, none⟩)] w (fun e w' => e = .returned (.tuple #[]) ∧ w = w') := by
  go_enter Tryz.func70, Tryz.ntmps70
  go_wp2
  refine wp_loop_rounds 1 ?_
  rw [rounds_succ]
  go_wp2
  go_end0
  exact ⟨rfl, rfl⟩
theorem none_growUnit (b : Nat) (w : World) (hc : w.cell? ⟨b, 7, none⟩ = some (.slice none 0 0)) : Calls Tryz.prog 84 #[.pointer (some ⟨b, 0, none⟩)] w (fun e w' => e = .returned (.tuple #[]) ∧ w = w') := by
  go_enter Tryz.func84, Tryz.ntmps84
  go_wp2
  refine wp_loop_rounds 1 ?_
  rw [rounds_succ]
  go_wp2
  go_end0
  exact ⟨rfl, rfl⟩
theorem none_lookUnit (b : Nat) (w : World) (hc : w.cell? ⟨b, 7, none⟩ = some (.slice none 0 0)) : Calls Tryz.prog 98 #[.pointer (some ⟨b, 0, none⟩)] w (fun e w' => e = .returned (.bool true) ∧ w = w') := by
  go_enter Tryz.func98, Tryz.ntmps98
  go_wp2
  refine wp_loop_rounds 1 ?_
  rw [rounds_succ]
  go_wp2
  go_ret
  exact ⟨rfl, rfl⟩
theorem none_fillInt64 (b : Nat) (w : World) (hc : w.cell? ⟨b, 8, none⟩ = some (.slice none 0 0)) : Calls Tryz.prog 71 #[.pointer (some ⟨b, 0, none⟩)] w (fun e w' => e = .returned (.tuple #[]) ∧ w = w') := by
  go_enter Tryz.func71, Tryz.ntmps71
  go_wp2
  refine wp_loop_rounds 1 ?_
  rw [rounds_succ]
  go_wp2
  go_end0
  exact ⟨rfl, rfl⟩
theorem none_growInt64 (b : Nat) (w : World) (hc : w.cell? ⟨b, 8, none⟩ = some (.slice none 0 0)) : Calls Tryz.prog 85 #[.pointer (some ⟨b, 0, none⟩)] w (fun e w' => e = .returned (.tuple #[]) ∧ w = w') := by
  go_enter Tryz.func85, Tryz.ntmps85
  go_wp2
  refine wp_loop_rounds 1 ?_
  rw [rounds_succ]
  go_wp2
  go_end0
  exact ⟨rfl, rfl⟩
theorem none_lookInt64 (b : Nat) (w : World) (hc : w.cell? ⟨b, 8, none⟩ = some (.slice none 0 0)) : Calls Tryz.prog 99 #[.pointer (some ⟨b, 0, none⟩)] w (fun e w' => e = .returned (.bool true) ∧ w = w') := by
  go_enter Tryz.func99, Tryz.ntmps99
  go_wp2
  refine wp_loop_rounds 1 ?_
  rw [rounds_succ]
  go_wp2
  go_ret
  exact ⟨rfl, rfl⟩
theorem none_fillFloat (b : Nat) (w : World) (hc : w.cell? ⟨b, 9, none⟩ = some (.slice none 0 0)) : Calls Tryz.prog 72 #[.pointer (some ⟨b, 0, none⟩)] w (fun e w' => e = .returned (.tuple #[]) ∧ w = w') := by
  go_enter Tryz.func72, Tryz.ntmps72
  go_wp2
  refine wp_loop_rounds 1 ?_
  rw [rounds_succ]
  go_wp2
  go_end0
  exact ⟨rfl, rfl⟩
theorem none_growFloat (b : Nat) (w : World) (hc : w.cell? ⟨b, 9, none⟩ = some (.slice none 0 0)) : Calls Tryz.prog 86 #[.pointer (some ⟨b, 0, none⟩)] w (fun e w' => e = .returned (.tuple #[]) ∧ w = w') := by
  go_enter Tryz.func86, Tryz.ntmps86
  go_wp2
  refine wp_loop_rounds 1 ?_
  rw [rounds_succ]
  go_wp2
  go_end0
  exact ⟨rfl, rfl⟩
theorem none_lookFloat (b : Nat) (w : World) (hc : w.cell? ⟨b, 9, none⟩ = some (.slice none 0 0)) : Calls Tryz.prog 100 #[.pointer (some ⟨b, 0, none⟩)] w (fun e w' => e = .returned (.bool true) ∧ w = w') := by
  go_enter Tryz.func100, Tryz.ntmps100
  go_wp2
  refine wp_loop_rounds 1 ?_
  rw [rounds_succ]
  go_wp2
  go_ret
  exact ⟨rfl, rfl⟩
theorem none_fillComplex (b : Nat) (w : World) (hc : w.cell? ⟨b, 10, none⟩ = some (.slice none 0 0)) : Calls Tryz.prog 73 #[.pointer (some ⟨b, 0, none⟩)] w (fun e w' => e = .returned (.tuple #[]) ∧ w = w') := by
  go_enter Tryz.func73, Tryz.ntmps73
  go_wp2
  refine wp_loop_rounds 1 ?_
  rw [rounds_succ]
  go_wp2
  go_end0
  exact ⟨rfl, rfl⟩
theorem none_growComplex (b : Nat) (w : World) (hc : w.cell? ⟨b, 10, none⟩ = some (.slice none 0 0)) : Calls Tryz.prog 87 #[.pointer (some ⟨b, 0, none⟩)] w (fun e w' => e = .returned (.tuple #[]) ∧ w = w') := by
  go_enter Tryz.func87, Tryz.ntmps87
  go_wp2
  refine wp_loop_rounds 1 ?_
  rw [rounds_succ]
  go_wp2
  go_end0
  exact ⟨rfl, rfl⟩
theorem none_lookComplex (b : Nat) (w : World) (hc : w.cell? ⟨b, 10, none⟩ = some (.slice none 0 0)) : Calls Tryz.prog 101 #[.pointer (some ⟨b, 0, none⟩)] w (fun e w' => e = .returned (.bool true) ∧ w = w') := by
  go_enter Tryz.func101, Tryz.ntmps101
  go_wp2
  refine wp_loop_rounds 1 ?_
  rw [rounds_succ]
  go_wp2
  go_ret
  exact ⟨rfl, rfl⟩
theorem none_fillInt (b : Nat) (w : World) (hc : w.cell? ⟨b, 11, none⟩ = some (.slice none 0 0)) : Calls Tryz.prog 74 #[.pointer (some ⟨b, 0, none⟩)] w (fun e w' => e = .returned (.tuple #[]) ∧ w = w') := by
  go_enter Tryz.func74, Tryz.ntmps74
  go_wp2
  refine wp_loop_rounds 1 ?_
  rw [rounds_succ]
  go_wp2
  go_end0
  exact ⟨rfl, rfl⟩
theorem none_growInt (b : Nat) (w : World) (hc : w.cell? ⟨b, 11, none⟩ = some (.slice none 0 0)) : Calls Tryz.prog 88 #[.pointer (some ⟨b, 0, none⟩)] w (fun e w' => e = .returned (.tuple #[]) ∧ w = w') := by
  go_enter Tryz.func88, Tryz.ntmps88
  go_wp2
  refine wp_loop_rounds 1 ?_
  rw [rounds_succ]
  go_wp2
  go_end0
  exact ⟨rfl, rfl⟩
theorem none_lookInt (b : Nat) (w : World) (hc : w.cell? ⟨b, 11, none⟩ = some (.slice none 0 0)) : Calls Tryz.prog 102 #[.pointer (some ⟨b, 0, none⟩)] w (fun e w' => e = .returned (.bool true) ∧ w = w') := by
  go_enter Tryz.func102, Tryz.ntmps102
  go_wp2
  refine wp_loop_rounds 1 ?_
  rw [rounds_succ]
  go_wp2
  go_ret
  exact ⟨rfl, rfl⟩
theorem none_fillEdit (b : Nat) (w : World) (hc : w.cell? ⟨b, 12, none⟩ = some (.slice none 0 0)) : Calls Tryz.prog 75 #[.pointer (some ⟨b, 0, none⟩)] w (fun e w' => e = .returned (.tuple #[]) ∧ w = w') := by
  go_enter Tryz.func75, Tryz.ntmps75
  go_wp2
  refine wp_loop_rounds 1 ?_
  rw [rounds_succ]
  go_wp2
  go_end0
  exact ⟨rfl, rfl⟩
theorem none_growEdit (b : Nat) (w : World) (hc : w.cell? ⟨b, 12, none⟩ = some (.slice none 0 0)) : Calls Tryz.prog 89 #[.pointer (some ⟨b, 0, none⟩)] w (fun e w' => e = .returned (.tuple #[]) ∧ w = w') := by
  go_enter Tryz.func89, Tryz.ntmps89
  go_wp2
  refine wp_loop_rounds 1 ?_
  rw [rounds_succ]
  go_wp2
  go_end0
  exact ⟨rfl, rfl⟩
theorem none_lookEdit (b : Nat) (w : World) (hc : w.cell? ⟨b, 12, none⟩ = some (.slice none 0 0)) : Calls Tryz.prog 103 #[.pointer (some ⟨b, 0, none⟩)] w (fun e w' => e = .returned (.bool true) ∧ w = w') := by
  go_enter Tryz.func103, Tryz.ntmps103
  go_wp2
  refine wp_loop_rounds 1 ?_
  rw [rounds_succ]
  go_wp2
  go_ret
  exact ⟨rfl, rfl⟩
theorem none_fillResult (b : Nat) (w : World) (hc : w.cell? ⟨b, 13, none⟩ = some (.slice none 0 0)) : Calls Tryz.prog 76 #[.pointer (some ⟨b, 0, none⟩)] w (fun e w' => e = .returned (.tuple #[]) ∧ w = w') := by
  go_enter Tryz.func76, Tryz.ntmps76
  go_wp2
  refine wp_loop_rounds 1 ?_
  rw [rounds_succ]
  go_wp2
  go_end0
  exact ⟨rfl, rfl⟩
theorem none_growResult (b : Nat) (w : World) (hc : w.cell? ⟨b, 13, none⟩ = some (.slice none 0 0)) : Calls Tryz.prog 90 #[.pointer (some ⟨b, 0, none⟩)] w (fun e w' => e = .returned (.tuple #[]) ∧ w = w') := by
  go_enter Tryz.func90, Tryz.ntmps90
  go_wp2
  refine wp_loop_rounds 1 ?_
  rw [rounds_succ]
  go_wp2
  go_end0
  exact ⟨rfl, rfl⟩
theorem none_lookResult (b : Nat) (w : World) (hc : w.cell? ⟨b, 13, none⟩ = some (.slice none 0 0)) : Calls Tryz.prog 104 #[.pointer (some ⟨b, 0, none⟩)] w (fun e w' => e = .returned (.bool true) ∧ w = w') := by
  go_enter Tryz.func104, Tryz.ntmps104
  go_wp2
  refine wp_loop_rounds 1 ?_
  rw [rounds_succ]
  go_wp2
  go_ret
  exact ⟨rfl, rfl⟩
theorem none_fillJob (b : Nat) (w : World) (hc : w.cell? ⟨b, 14, none⟩ = some (.slice none 0 0)) : Calls Tryz.prog 77 #[.pointer (some ⟨b, 0, none⟩)] w (fun e w' => e = .returned (.tuple #[]) ∧ w = w') := by
  go_enter Tryz.func77, Tryz.ntmps77
  go_wp2
  refine wp_loop_rounds 1 ?_
  rw [rounds_succ]
  go_wp2
  go_end0
  exact ⟨rfl, rfl⟩
theorem none_growJob (b : Nat) (w : World) (hc : w.cell? ⟨b, 14, none⟩ = some (.slice none 0 0)) : Calls Tryz.prog 91 #[.pointer (some ⟨b, 0, none⟩)] w (fun e w' => e = .returned (.tuple #[]) ∧ w = w') := by
  go_enter Tryz.func91, Tryz.ntmps91
  go_wp2
  refine wp_loop_rounds 1 ?_
  rw [rounds_succ]
  go_wp2
  go_end0
  exact ⟨rfl, rfl⟩
theorem none_lookJob (b : Nat) (w : World) (hc : w.cell? ⟨b, 14, none⟩ = some (.slice none 0 0)) : Calls Tryz.prog 105 #[.pointer (some ⟨b, 0, none⟩)] w (fun e w' => e = .returned (.bool true) ∧ w = w') := by
  go_enter Tryz.func105, Tryz.ntmps105
  go_wp2
  refine wp_loop_rounds 1 ?_
  rw [rounds_succ]
  go_wp2
  go_ret
  exact ⟨rfl, rfl⟩
end Go.Proofs.YtbcbmkeeoognpaaGreatDoor


/- A Book's fillLimb, growLimb, lookLimb. -/
namespace Go.Proofs.YtbcbmkeeoognpaaGreatDoor
open Go Go.RowKit

/-- The i-th element of the row, its cells. -/
theorem BookAt.held {B : Nat} {w : World} {b : Nat} {v : Value} {L : List Hd} (h : BookAt B w b v L) {i : Nat} {q : Hd} (hq : L[i]? = some q) :
    ∃ rb cap, v = .slice (some ⟨rb, 0, none⟩) L.length cap ∧ B ≤ rb ∧ rb < w.heap.size ∧ rb ≠ b ∧ w.cell? ⟨rb, i * 3, none⟩ = some (.slice q.ad q.n q.c) ∧ w.cell? ⟨rb, i * 3 + 1, none⟩ = some (.slice q.la q.ln q.lc) ∧ w.cell? ⟨rb, i * 3 + 2, none⟩ = some (.int .i64 ((i : Int) + 1)) ∧
      (∀ j, w.frozen? ⟨rb, j, none⟩ = false) := by
  have hl : i < L.length := (List.getElem?_eq_some_iff.1 hq).1
  obtain ⟨rb, cap, rfl, h1, h2⟩ := h.row.form (by omega)
  have g := hc_get L 0 i q hq
  have h3 := h.row_ne
  refine ⟨rb, cap, rfl, h1, h2, fun e => h3 (by rw [e]; rfl), ?_, ?_, ?_, fun j => h.row.frozenAt j⟩
  · rw [h.row.cellAt (i * 3) (by omega), Nat.mul_comm i 3]; exact g.1
  · rw [h.row.cellAt (i * 3 + 1) (by omega), Nat.mul_comm i 3]; exact g.2.1
  · rw [h.row.cellAt (i * 3 + 2) (by omega), Nat.mul_comm i 3, g.2.2]; simp
theorem BookAt.form {B : Nat} {w : World} {b : Nat} {v : Value} {L : List Hd} (h : BookAt B w b v L) : ∃ vd vc, v = .slice vd L.length vc := by
  rcases h.row.2 with ⟨h1, h2⟩ | ⟨g, cap, cur, h1, _⟩
  · exact ⟨none, 0, by rw [h1, h2]⟩
  · exact ⟨_, _, h1⟩
def Filled (w : World) (L : List Hd) (i : Nat) : Prop := ∀ (q : Nat) (h : Hd) (g : Nat), q < i → L[q]? = some h → h.ad = some ⟨g, 0, none⟩ → ∀ j, j < h.n → w.cell? ⟨g, j, none⟩ = some (.int .u32 (2147483648 + ((q : Int) + 1)))
theorem Filled.below {B : Nat} {w w1 : World} {L : List Hd} {i : Nat} (h : Filled w L i) (hb : Below B w w1) (hB : w.heap.size ≤ B) : Filled w1 L i := fun q p g hq hp hg j hj => by
  have := h q p g hq hp hg j hj
  rw [← this]
  exact hb.cell (Nat.lt_of_lt_of_le (World.block_lt_of_cell? w _ this) hB)

set_option maxHeartbeats 4000000 in
set_option maxRecDepth 100000 in
theorem fill_calls (B b : Nat) (v : Value) (L : List Hd) (w : World) (h : BookAt B w b v L) (hB : B ≤ w.heap.size) :
    Calls Tryz.prog 64 #[.pointer (some ⟨b, 0, none⟩)] w (fun e w' => e = .returned (.tuple #[]) ∧ BookAt B w' b v L ∧ Filled w' L L.length ∧ Below B w w') := by
  have hL := h.len
  obtain ⟨vd, vc, rfl⟩ := h.form
  go_enter Tryz.func64, Tryz.ntmps64
  go_wp2
  go_loopw [2] (fun x wr => ∃ i : Nat, i ≤ L.length ∧ x = .int .i64 i ∧ BookAt B wr b (.slice vd L.length vc) L ∧ Filled wr L i ∧ Below B w wr ∧ B ≤ wr.heap.size) (fun x _ => L.length - (intOf x).toNat)
  case atStart => exact ⟨0, Nat.zero_le _, rfl, h, fun q _ _ hq => absurd hq (Nat.not_lt_zero _), Below.refl _ _, hB⟩
  case round =>
    clear h
    obtain ⟨i, hi, rfl, h1, h2, h3, h4⟩ := hrel
    obtain ⟨c0, c1, f0, f1⟩ := h1.cells
    by_cases hil : i < L.length
    · obtain ⟨q, hq⟩ : ∃ q, L[i]? = some q := ⟨_, List.getElem?_eq_getElem hil⟩
      obtain ⟨ad, n, c, la, ln, lc⟩ := q
      obtain ⟨rb, cap, hv, r1, r2, r3, e0, e1, e2, fr⟩ := h1.held hq
      simp only at e0 e1
      injection hv with hv1 _ hv2
      subst hv1 hv2
      go_wp2
      have hH0 : (wr.alloc (.cells #[.slice ad n c, .slice la ln lc, .int .i64 ((i : Int) + 1)] 150)).heap[wr.heap.size]? = some (.cells #[.slice ad n c, .slice la ln lc, .int .i64 ((i : Int) + 1)] 150 (0, 0)) := heap_alloc_new wr _
      have hb0 : Below wr.heap.size wr (wr.alloc (.cells #[.slice ad n c, .slice la ln lc, .int .i64 ((i : Int) + 1)] 150)) := (Below.refl _ _).alloc (Nat.le_refl _) _
      have k1 := h1.below hb0 (Nat.le_refl _)
      have k2 := h2.below hb0 (Nat.le_refl _)
      have k3 : Below B w (wr.alloc (.cells #[.slice ad n c, .slice la ln lc, .int .i64 ((i : Int) + 1)] 150)) := h3.alloc h4 _
      have k4 : B ≤ (wr.alloc (.cells #[.slice ad n c, .slice la ln lc, .int .i64 ((i : Int) + 1)] 150)).heap.size := Nat.le_trans h4 hb0.size
      obtain ⟨H, hH⟩ : ∃ H, wr.heap.size = H := ⟨_, rfl⟩
      rw [hH] at hH0 ⊢
      generalize wr.alloc (.cells #[.slice ad n c, .slice la ln lc, .int .i64 ((i : Int) + 1)] 150) = w2 at *
      clear h1 h2 h3 h4 hb0 c0 c1 f0 f1 e0 e1 e2 fr hH
      have hqo := (k1.one _ (List.mem_of_getElem? hq)).le
      have hqb := (k1.one _ (List.mem_of_getElem? hq)).big
      simp only at hqo hqb
      go_loopw [4] (fun y wr => ∃ k : Nat, k ≤ n ∧ y = .int .i64 k ∧ BookAt B wr b (.slice (some ⟨rb, 0, none⟩) L.length vc) L ∧ Filled wr L i ∧ (∀ g, ad = some ⟨g, 0, none⟩ → ∀ j, j < k → wr.cell? ⟨g, j, none⟩ = some (.int .u32 (2147483648 + ((i : Int) + 1)))) ∧ Below B w wr ∧ B ≤ wr.heap.size ∧
        wr.heap[H]? = some (.cells #[.slice ad n c, .slice la ln lc, .int .i64 ((i : Int) + 1)] 150 (0, 0))) (fun y _ => n - (intOf y).toNat)
      case atStart => exact ⟨0, Nat.zero_le _, rfl, k1, k2, fun _ _ j hj => absurd hj (Nat.not_lt_zero _), k3, k4, hH0⟩
      case round =>
        clear k1 k2 k3 k4 hH0
        obtain ⟨k, hk, rfl, h1, h2, h5, h3, h4, hH⟩ := hrel
        have a0 := cell_row hH 0
        have a2 := cell_row hH 2
        simp at a0 a2
        by_cases hkn : k < n
        · obtain ⟨g, cs, hg, hgB, hgc, hgs⟩ := (h1.one _ (List.mem_of_getElem? hq)).row (by show 0 < c; omega)
          simp only at hg hgs
          subst hg
          have hne : H ≠ g := by
            rintro rfl
            rw [hH] at hgc
            injection hgc with hgc
            injection hgc with _ hgc
            revert hgc; decide
          have hx : wr.cell? ⟨g, k, none⟩ = some (cs[k]'(by omega)) := by rw [cell_row hgc, Array.getElem?_eq_getElem]
          have hf : wr.frozen? ⟨g, k, none⟩ = false := frozen_of_row wr g k cs _ hgc
          have M := mark_calls ((i : Int) + 1) 
          have n1 := h1.fill hgc k (2147483648 + ((i : Int) + 1))
          have hHs : (wr.setCell ⟨g, k, none⟩ (.int .u32 (2147483648 + ((i : Int) + 1)))).heap[H]? = some (.cells #[.slice (some ⟨g, 0, none⟩) n c, .slice la ln lc, .int .i64 ((i : Int) + 1)] 150 (0, 0)) := (((Only.refl g wr).set k _).rest H hne).trans hH
          have o0 : (wr.setCell ⟨g, k, none⟩ (.int .u32 (2147483648 + ((i : Int) + 1)))).drew.cell? ⟨H, 0, none⟩ = some (.slice (some ⟨g, 0, none⟩) n c) := cell_row hHs 0
          have o2 : (wr.setCell ⟨g, k, none⟩ (.int .u32 (2147483648 + ((i : Int) + 1)))).drew.cell? ⟨H, 2, none⟩ = some (.int .i64 ((i : Int) + 1)) := cell_row hHs 2
          go_wp2
          go_region_held3 (fun w' => w'.cell? ⟨H, 0, none⟩ = some (.slice (some ⟨g, 0, none⟩) n c) ∧ w'.cell? ⟨H, 2, none⟩ = some (.int .i64 ((i : Int) + 1))) (first | go_keep | exact ⟨o0, o2⟩)
            (first | (go_at_call 57; refine (M _ (by omega)).mono ?_; rintro e w' ⟨rfl, rfl⟩))
          go_wp2
          go_roundw
          case rel =>
            have hO : Only g wr (wr.setCell ⟨g, k, none⟩ (.int .u32 (2147483648 + ((i : Int) + 1)))) := (Only.refl g wr).set k _
            have hat : (wr.setCell ⟨g, k, none⟩ (.int .u32 (2147483648 + ((i : Int) + 1)))).heap[g]? = some (.cells (cs.setIfInBounds k (.int .u32 (2147483648 + ((i : Int) + 1)))) 44 (0, 0)) := heap_setCell_same wr g k cs _ _ hgc
            refine ⟨k + 1, by omega, by go_num, n1.below (below_drew (Below.refl _ _)) (Nat.le_refl _), fun p hp g2 hpi hpq hpg j hj => ?_, fun g2 hg2 j hj => ?_, below_drew (below_set h3 g k _ hgB), ?_, hHs⟩
            · have hold := h2 p hp g2 hpi hpq hpg j hj
              have hgg : g2 ≠ g := by
                rintro rfl
                refine h1.sep p i hp _ hpq hq (by omega) ?_ (by show 0 < c; omega) (by rw [hpg])
                have := (h1.one hp (List.mem_of_getElem? hpq)).le
                omega
              rw [← hold]
              exact World.cell?_of_block (hO.rest g2 hgg)
            · injection hg2 with hg2
              injection hg2 with hg2
              subst hg2
              by_cases e : j = k
              · subst e
                show World.cell? (World.setCell _ _ _) _ = _
                rw [cell_row hat, Array.getElem?_setIfInBounds, if_pos rfl, if_pos (by omega)]
              · have hold := h5 g rfl j (by omega)
                rw [cell_row hgc] at hold
                show World.cell? (World.setCell _ _ _) _ = _
                rw [cell_row hat, Array.getElem?_setIfInBounds, if_neg (Ne.symm e)]
                exact hold
            · show B ≤ (World.setCell _ _ _).heap.size
              rw [hO.size]; exact h4
          case measure => simp [intOf]; omega
        · obtain rfl : k = n := by omega
          go_wp2
          go_roundw
          case rel =>
            refine ⟨i + 1, by omega, by go_num, h1, fun p hp g hpi hpq hpg j hj => ?_, h3, h4⟩
            by_cases e : p = i
            · subst e
              rw [hq] at hpq
              injection hpq with hpq
              subst hpq
              exact h5 g hpg j hj
            · exact h2 p hp g (by omega) hpq hpg j hj
          case measure => simp [intOf]; omega
    · obtain rfl : i = L.length := by omega
      go_wp2
      go_end0
      exact ⟨rfl, h1, h2, h3⟩
end Go.Proofs.YtbcbmkeeoognpaaGreatDoor


/- quot.Div by worth alone; lists written out. -/
namespace Go.Proofs.YtbcbmkeeoognpaaGreatDoor
open Go.RowKit

def RetCCB (V R : Int) (ok : Bool) (w : World) (e : Ending) (w' : World) : Prop :=
  ∃ ad n c ad2 n2 c2, e = .returned (.tuple #[.slice ad n c, .slice ad2 n2 c2, .bool ok]) ∧ Can w' ad n c V ∧ Can w' ad2 n2 c2 R ∧ Below w.heap.size w w'
theorem RetLLB.can {V R : Int} {ok : Bool} {w : World} {e : Ending} {w' : World} (h : RetLLB 44 .u32 (dg 4294967296 V) (dg 4294967296 R) ok w e w') : RetCCB V R ok w e w' := by
  obtain ⟨ad, n, c, ad2, n2, c2, e1, o1, o2, hb, _⟩ := h
  exact ⟨ad, n, c, ad2, n2, c2, e1, ⟨o1.le, o1.rds⟩, ⟨o2.le, o2.rds⟩, hb⟩

theorem num_div (ad bd : Option Addr) (n m c d : Nat) (V U : Int) (w : World) (h : Num w ad n c V) (k : Num w bd m d U) (hn : n ≤ 70368744177662) (hm : m ≤ 70368744177662) :
    Calls Tryz.prog 114 #[.slice ad n c, .slice bd m d] w (RetCCB (V / U) (remI V U) (decide (U ≠ 0)) w) := by
  obtain ⟨xs, h1, h2, rfl⟩ := h.row
  obtain ⟨zs, k1, k2, rfl⟩ := k.row
  exact (div_calls ad bd n m c d xs zs w (by omega) (by omega) h.le k.le h1 k1 h2 k2).mono fun e w' q => q.can
theorem remI_nonneg (V U : Int) (hV : 0 ≤ V) : 0 ≤ remI V U := by
  unfold remI
  split
  · omega
  · exact Int.emod_nonneg _ ‹_›
/-- A list that is written out. -/
theorem num_cells (w : World) (b : Nat) (hb : w.heap.size = b) (ys : List Int) (n : Nat) (hn : ys.length = n) (hd : Dig 4294967296 ys) (cs : Array Value) (hcs : cs = (nums .u32 ys).toArray) (V : Int) (hV : val 4294967296 ys = V) :
    Num (w.alloc (.cells cs 44)) (some ⟨b, 0, none⟩) n n V := by
  subst hcs hn hb
  have k0 : Blk (w.alloc (.cells (nums .u32 ys).toArray 44)) w.heap.size 44 .u32 ys := Blk.made w 44 .u32 ys _ rfl
  exact ⟨Nat.le_refl _, ys, k0.rds, hd, hV⟩
theorem can_cells (w : World) (b : Nat) (hb : w.heap.size = b) (ys : List Int) (n : Nat) (hn : ys.length = n) (hd : Dig 4294967296 ys) (cs : Array Value) (hcs : cs = (nums .u32 ys).toArray) (V : Int) (hV : val 4294967296 ys = V) (hno : norm ys = ys) :
    Can (w.alloc (.cells cs 44)) (some ⟨b, 0, none⟩) n n V := by
  subst hcs hn hb
  have k0 : Blk (w.alloc (.cells (nums .u32 ys).toArray 44)) w.heap.size 44 .u32 ys := Blk.made w 44 .u32 ys _ rfl
  have e := norm_eq 4294967296 (by omega) hd
  rw [hno, show ((4294967296 : Nat) : Int) = 4294967296 from rfl, hV] at e
  refine ⟨Nat.le_refl _, ?_⟩
  rw [← e]
  exact k0.rds
theorem below_lit (w : World) (cs : Array Value) (t : TypeId) : Below w.heap.size w (w.alloc (.cells cs t)) := (Below.refl _ _).alloc (Nat.le_refl _) _
theorem dig_lit (ys : List Int) (h : ys.all (fun y => decide (0 ≤ y ∧ y < 4294967296)) = true) : Dig 4294967296 ys := fun y hy => by
  have := List.all_eq_true.1 h y hy
  simpa using this
end Go.Proofs.YtbcbmkeeoognpaaGreatDoor


/- quot.Digits, Read, Bytes by worth alone. -/
namespace Go.Proofs.YtbcbmkeeoognpaaGreatDoor
open Go.RowKit

theorem num_digits (ad : Option Addr) (n c : Nat) (V : Int) (w : World) (h : Num w ad n c V) (hn : n ≤ 4398046511104) :
    Calls Tryz.prog 30 #[.slice ad n c] w (RetS (strB (decL V)) w) := by
  obtain ⟨xs, h1, h2, rfl⟩ := h.row
  exact digits_calls ad n c xs w (by omega) h.le h1 h2
theorem num_bytes (ad : Option Addr) (n c : Nat) (V : Int) (w : World) (h : Num w ad n c V) (hn : n ≤ 35184372088831) :
    Calls Tryz.prog 34 #[.slice ad n c] w (RetS (strB (dg 256 V).reverse) w) := by
  obtain ⟨xs, h1, h2, rfl⟩ := h.row
  exact qbytes_calls ad n c xs w (by omega) h.le h1 h2
theorem num_read (s : ByteArray) (w : World) (hs : s.size ≤ 140737488351232) :
    Calls Tryz.prog 33 #[.string s] w (RetCB (readNum (bytesI s)) (readOk (bytesI s)) w) := (read_calls s w hs).mono fun e w' q => q.can
end Go.Proofs.YtbcbmkeeoognpaaGreatDoor

