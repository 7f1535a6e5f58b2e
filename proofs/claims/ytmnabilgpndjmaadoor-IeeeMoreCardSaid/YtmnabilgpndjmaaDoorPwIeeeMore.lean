/- The law IeeeMore: its walk. -/
import Derived.Deep.DeepCutAuto
import Derived.Deep.RegionHeld3
import Derived.Test.YtmnabilgpndjmaaDoorPk2
import Derived.Test.YtmnabilgpndjmaaDoorPk3
import Derived.Test.YtmnabilgpndjmaaDoorPk4
import Derived.Test.YtmnabilgpndjmaaDoorPk16
import Derived.Test.YtmnabilgpndjmaaDoorPk25
import Derived.Test.YtmnabilgpndjmaaDoorPk31
set_option linter.unusedVariables false
set_option linter.unusedSimpArgs false
/- The law IeeeMore: its walk out of the contracts of what it calls. (Printed by law5.py.) -/
namespace Go.Proofs.YtmnabilgpndjmaaDoor
open Go.RowKit


theorem more_eq (W : Nat) (neg : Bool) (V p : Int) (hV : 0 ≤ V) : roundW W neg (V * 2 ^ (1 : Int).toNat + 1) (p - 1) false = roundW W neg V p true := by
  unfold roundW
  show _ + ((nearE W (V * 2 ^ 1 + 1).toNat (p - 1) : Nat) : Int) = _ + ((nearE W (2 * V.toNat + 1) (p - 1) : Nat) : Int)
  have e : (V * 2 ^ 1 + 1).toNat = 2 * V.toNat + 1 := by rw [Int.pow_succ, Int.pow_zero]; omega
  rw [e]
theorem behind_eq {W : Nat} (hW : Wide W) (neg : Bool) (V p c : Int) (hV : 0 ≤ V) (hc : 0 < c ∧ c < 1099511627776) (hb : shF W + 3 ≤ bitsOf V) : roundW W neg (V * 2 ^ (40 : Int).toNat + c) (p - 40) false = roundW W neg V p true := by
  obtain ⟨v, rfl⟩ := Int.eq_ofNat_of_zero_le hV
  obtain ⟨c, rfl⟩ := Int.eq_ofNat_of_zero_le (Int.le_of_lt hc.1)
  have hv0 : v ≠ 0 := by
    rintro rfl
    have : bitsOf ((0 : Nat) : Int) = 0 := rfl
    omega
  have h1 := blen_ge v hv0
  unfold bitsOf at hb
  rw [Int.toNat_natCast] at hb
  have h2 : 2 ^ (shF W + 2) ≤ v := Nat.le_trans (Nat.pow_le_pow_right (by omega) (by omega)) h1
  have h3 := nearE_behind hW v c 40 p h2 (by omega) (by omega) (by rw [show (2 : Nat) ^ 40 = 1099511627776 from by decide]; omega)
  unfold roundW
  show _ + ((nearE W ((v : Int) * 2 ^ 40 + c).toNat (p - 40) : Nat) : Int) = _ + ((nearE W (2 * (v : Int).toNat + 1) (p - 1) : Nat) : Int)
  have e1 : ((v * 2 ^ 40 + c : Nat) : Int) = (v : Int) * 2 ^ 40 + c := by simp
  have e : ((v : Int) * 2 ^ 40 + c).toNat = v * 2 ^ 40 + c := by rw [← e1]; rfl
  rw [e, Int.toNat_natCast, ← h3]
  rfl
theorem least_wd (k0 : Int) : (k0 % 4 = 0 → shF (wd k0) + 3 = 13) ∧ (k0 % 4 = 1 → shF (wd k0) + 3 = 26) ∧ (k0 % 4 = 2 → shF (wd k0) + 3 = 55) ∧ (k0 % 4 = 3 → shF (wd k0) + 3 = 26) :=
  ⟨fun h => by rw [wd_0 h]; rfl, fun h => by rw [wd_1 h]; rfl, fun h => by rw [wd_2 h]; rfl, fun h => by rw [wd_3 h]; rfl⟩

set_option maxRecDepth 20000 in
set_option maxHeartbeats 2000000 in
theorem walk_IeeeMore (w : World) (hS : Shapes w) (hT : Tab w) (k0 : Int) (hk0 : 0 ≤ k0 ∧ k0 < 256) (neg : Bool) (adm : Option Addr) (nm cm : Nat) (xm : List Int) (hncm : nm ≤ cm) (hnm : nm * 4 ≤ 140737488351232) (hrm : Rds w .u32 adm nm xm) (dxm : Dig 4294967296 xm) (p0 : Int) (hp0 : -32768 ≤ p0 ∧ p0 < 32768) :
    Calls Tryd.prog 8 #[.int .u8 k0, .bool neg, .slice adm nm cm, .int .i16 p0] w (LawTrue w) := by
  have fm : Arg w adm nm cm xm := ⟨hncm, hrm, dxm⟩
  clear hrm dxm
  have b0 : Below w.heap.size w w := Below.refl _ _
  go_enter Tryd.func8, Tryd.ntmps8
  have h := Lib.hid (llives_calls w hS hT)
  go_wp2_with fail
  refine (h.out).mono ?_
  rintro e w1 ⟨rfl, b⟩
  clear h
  replace fm := fm.below b (Nat.le_refl _)
  replace hS := hS.below b (Nat.le_refl _)
  replace hT := hT.below b (Nat.le_refl _)
  replace b0 := below_trans b0 b
  clear b
  by_cases hn60 : 60 < nm
  · skip
    go_wp2_with fail
    go_ret
    exact ⟨rfl, b0⟩
  · have hn61 : nm ≤ 60 := by omega
    have Zm := Lib.hid fm.nonneg
    have Tm := Lib.hid (Int.lt_of_lt_of_le fm.lt (pow_le (b := 4294967296) (by omega) hn61))
    have T4 := Lib.hid (Int.lt_of_lt_of_le Tm.out (pow_le (b := 4294967296) (by omega) (show 60 ≤ 4096 by omega)))
    have Wc : IntKind.i64.wrap p0 = p0 := IntWalk.i64_in _ (by omega)
    have W1 : IntKind.i64.wrap (p0 - 1) = p0 - 1 := IntWalk.i64_in _ (by omega)
    have W40 : IntKind.i64.wrap (p0 - 40) = p0 - 40 := IntWalk.i64_in _ (by omega)
    have E1 := Lib.hid (more_eq (wd k0) neg (val 4294967296 xm) p0 Zm.out)
    have E2 := Lib.hid (fun c => behind_eq (wide_wd k0) neg (val 4294967296 xm) p0 c Zm.out)
    have h := Lib.hid (lround_calls k0 hk0 w1 hS neg _ _ _ _ p0 true fm.num (by omega) (by omega))
    go_wp2_with fail
    refine (h.out).mono ?_
    rintro e w2 ⟨rfl, b⟩
    clear h
    replace fm := fm.below b (Nat.le_refl _)
    replace hS := hS.below b (Nat.le_refl _)
    replace hT := hT.below b (Nat.le_refl _)
    replace b0 := below_trans b0 b
    clear b
    have P1 := Lib.hid (shl_fits (val 4294967296 xm) 60 1 Zm.out Tm.out (by omega) (by omega))
    have P40 := Lib.hid (shl_fits (val 4294967296 xm) 60 40 Zm.out Tm.out (by omega) (by omega))
    have h := Lib.hid (lscaled_calls _ _ _ _ 1 w2 fm.num T4.out (by omega) (by omega))
    go_wp2_with fail
    refine (h.out).mono ?_
    rintro e w3 ⟨add, nd, cd, rfl, fd, b⟩
    clear h
    replace fm := fm.below b (Nat.le_refl _)
    replace hS := hS.below b (Nat.le_refl _)
    replace hT := hT.below b (Nat.le_refl _)
    replace b0 := below_trans b0 b
    clear b
    have ld := fd.len_le _ P1.out.2.2.2
    have h := Lib.hid ((from_calls 1 w3 (by omega) (by omega)).mono fun e w' q => q.can)
    go_wp2_with fail
    refine (h.out).mono ?_
    rintro e w4 ⟨adi, ni, ci, rfl, fi, b⟩
    clear h
    replace fm := fm.below b (Nat.le_refl _)
    replace hS := hS.below b (Nat.le_refl _)
    replace hT := hT.below b (Nat.le_refl _)
    replace fd := fd.below b (Nat.le_refl _)
    replace b0 := below_trans b0 b
    clear b
    have li := fi.len_le 1 (by decide)
    have h := Lib.hid (num_add _ _ _ _ _ _ _ _ w4 (fd.num P1.out.2.2.1) (fi.num (by omega)) (by omega) (by omega))
    go_wp2_with fail
    refine (h.out).mono ?_
    rintro e w5 ⟨adv, nv, cv, rfl, fv, b⟩
    clear h
    replace fm := fm.below b (Nat.le_refl _)
    replace hS := hS.below b (Nat.le_refl _)
    replace hT := hT.below b (Nat.le_refl _)
    replace fd := fd.below b (Nat.le_refl _)
    replace fi := fi.below b (Nat.le_refl _)
    replace b0 := below_trans b0 b
    clear b
    have lv := fv.len_le (60 + 4097 + 1) (by have := P1.out.2.2.2; rw [Int.pow_succ]; omega)
    have R1 := lround_calls k0 hk0 w5 hS neg _ _ _ _ (p0 - 1) false (fv.num (Int.add_nonneg P1.out.2.2.1 (by omega))) (by omega) (by omega)
    rw [E1.out] at R1
    have h := Lib.hid (R1)
    go_wp2_with fail
    refine (h.out).mono ?_
    rintro e w6 ⟨rfl, b⟩
    clear h
    replace fm := fm.below b (Nat.le_refl _)
    replace hS := hS.below b (Nat.le_refl _)
    replace hT := hT.below b (Nat.le_refl _)
    replace fd := fd.below b (Nat.le_refl _)
    replace fi := fi.below b (Nat.le_refl _)
    replace fv := fv.below b (Nat.le_refl _)
    replace b0 := below_trans b0 b
    clear b
    clear R1 E1 P1
    clear fd fi fv
    obtain ⟨lo, hlo⟩ : ∃ lo : Int, lo = ((shF (wd k0) + 3 : Nat) : Int) := ⟨_, rfl⟩
    have HLo := Lib.hid hlo
    have hlb : 13 ≤ lo ∧ lo ≤ 55 := by rw [hlo]; have := least_wd k0; omega
    have hlw := least_wd k0
    have hfour : (k0 % 4 = 0 ∧ lo = 13) ∨ (k0 % 4 = 1 ∧ lo = 26) ∨ (k0 % 4 = 2 ∧ lo = 55) ∨ (k0 % 4 = 3 ∧ lo = 26) := by omega
    clear hlo hlw
    rcases hfour with ⟨hc, rfl⟩ | ⟨hc, rfl⟩ | ⟨hc, rfl⟩ | ⟨hc, rfl⟩
    all_goals
      have hc2 := tmod4 hk0 hc
      obtain ⟨N, hN⟩ : ∃ N, N = bitsOf (val 4294967296 xm) := ⟨_, rfl⟩
      have HLn := num_len adm nm cm _ w6 fm.num (by omega)
      rw [← hN] at HLn
      have HNe := Lib.hid hN
      clear hN
      have h := Lib.hid (HLn)
      go_wp2_with fail
      refine (h.out).mono ?_
      rintro e w' ⟨rfl, rfl⟩
      clear h
      clear HLn
      have hNl2 := Lib.hid (show shF (wd k0) + 3 ≤ bitsOf (val 4294967296 xm) ∨ N < ((shF (wd k0) + 3 : Nat) : Int) by rw [← HNe.out]; omega)
      rw [← HLo.out] at hNl2
      rcases hNl2.out with hb1 | hNl
      · have hb := Lib.hid hb1
        have hNl := Lib.hid (show ¬ N < ((shF (wd k0) + 3 : Nat) : Int) by rw [HNe.out]; omega)
        rw [← HLo.out] at hNl
        have hNl3 := hNl.out
        clear hb1 hNl2 hNl
        have E3 := Lib.hid (fun c hc => E2.out c hc hb.out)
        clear E2 hb HNe HLo
        have bA : Below w6.heap.size w6 (w6.alloc (.cells #[.int .u64 1, .int .u64 274877906944, .int .u64 824633720832, .int .u64 1099511627775] 66)) := (Below.refl _ _).alloc (Nat.le_refl _) _
        have Ka : Cel (w6.alloc (.cells #[.int .u64 1, .int .u64 274877906944, .int .u64 824633720832, .int .u64 1099511627775] 66)) w6.heap.size 66 [.int .u64 1, .int .u64 274877906944, .int .u64 824633720832, .int .u64 1099511627775] := Cel.made _ _ _ _ rfl
        have fm2 := fm.below bA (Nat.le_refl _)
        have hS2 := hS.below bA (Nat.le_refl _)
        have a0 := below_trans b0 bA
        clear fm hS hT b0 bA
        go_wp2_with fail
        generalize (w6.alloc (.cells #[.int .u64 1, .int .u64 274877906944, .int .u64 824633720832, .int .u64 1099511627775] 66)) = w20 at *
        generalize w6.heap.size = ba at *
        generalize roundW (wd k0) neg (val 4294967296 xm) p0 true = want at *
        go_loopw [13] (fun s13 wr => ∃ i : Nat, i ≤ 4 ∧ s13 = .int .i64 i ∧ Hid (Cel wr ba 66 [.int .u64 1, .int .u64 274877906944, .int .u64 824633720832, .int .u64 1099511627775] ∧ Below w20.heap.size w20 wr)) (fun s13 _ => 4 - (intOf s13).toNat)
        case atStart => exact ⟨0, by omega, rfl, Ka, Below.refl _ _⟩
        case round =>
          obtain ⟨i, hi, rfl, HK⟩ := hrel
          by_cases hi4 : i < 4
          · obtain ⟨c, hcb, hcc⟩ : ∃ c : Int, (0 < c ∧ c < 1099511627776) ∧ wr.cell? ⟨ba, i, none⟩ = some (.int .u64 c) := by
              rcases (show i = 0 ∨ i = 1 ∨ i = 2 ∨ i = 3 by omega) with rfl | rfl | rfl | rfl
              · exact ⟨1, by omega, HK.out.1.cell 0 _ rfl⟩
              · exact ⟨274877906944, by omega, HK.out.1.cell 1 _ rfl⟩
              · exact ⟨824633720832, by omega, HK.out.1.cell 2 _ rfl⟩
              · exact ⟨1099511627775, by omega, HK.out.1.cell 3 _ rfl⟩
            have E4 := Lib.hid (E3.out c hcb)
            have bd : Below w20.heap.size w20 wr.drew := below_drew HK.out.2
            have fm3 := fm2.below bd (Nat.le_refl _)
            have hS3 := hS2.below bd (Nat.le_refl _)
            have P := P40.out
            have G1 := Lib.hid (lscaled_calls adm nm cm _ 40 wr.drew fm3.num T4.out (by omega) (by omega))
            have hi0 : (0 : Int) ≤ (i : Int) := by omega
            have hi5 : (i : Int) < 4 := by omega
            go_wp2_with fail
            go_region_held3 (fun w' => w'.cell? ⟨ba, i, none⟩ = some (.int .u64 c)) (go_keep)
              (first
                | (go_at_call 41
                   refine (G1.out).mono ?_
                   rintro e u1 ⟨aS, ns, cs, rfl, fs, v1⟩
                   have ls := fs.len_le _ P40.out.2.2.2
                   have x1 := below_cell (show Below wr.heap.size wr u1 from below_then (below_drew (Below.refl _ _)) (Nat.le_refl _) v1) (Nat.le_refl _) hcc
                   have G2 := Lib.hid ((from_calls c u1 (by omega) (by omega)).mono fun e w' q => q.can))
                | (go_at_call 42
                   refine (G2.out).mono ?_
                   rintro e u2 ⟨af, nf, cf, rfl, ff, v2⟩
                   have lf := ff.len_le 2 (Int.lt_of_lt_of_le hcb.2 (by decide))
                   have x2 := below_cell v2 (Nat.le_refl _) x1
                   have G3 := Lib.hid (num_add aS af ns nf cs cf _ c u2 ((fs.num P40.out.2.2.1).below v2 (Nat.le_refl _)) (ff.num (by omega)) (by omega) (by omega)))
                | (go_at_call 35
                   refine (G3.out).mono ?_
                   rintro e u3 ⟨aT, nt, ct, rfl, ft, v3⟩
                   have lt := ft.len_le (60 + 4097 + 1) (by have := P40.out.2.2.2; rw [Int.pow_succ]; omega)
                   have x3 := below_cell v3 (Nat.le_refl _) x2
                   have v13 : Below wr.drew.heap.size wr.drew u3 := below_trans v1 (below_trans v2 v3)
                   have Q := lround_calls k0 hk0 u3 (hS3.below v13 (Nat.le_refl _)) neg aT nt ct _ (p0 - 40) false (ft.num (Int.add_nonneg P40.out.2.2.1 (by omega))) (by omega) (by omega)
                   rw [E4.out] at Q
                   have G4 := Lib.hid Q
                   clear Q)
                | (go_at_call 24
                   refine (G4.out).mono ?_
                   rintro e u4 ⟨rfl, v4⟩
                   have x4 := below_cell v4 (Nat.le_refl _) x3))
            all_goals
              have v14 : Below wr.heap.size wr u4 := below_then (below_drew (Below.refl _ _)) (Nat.le_refl _) (below_trans v13 v4)
              go_wp2_with fail
              go_roundw
              case rel => exact ⟨i + 1, by omega, by go_num, HK.out.1.next v14, below_trans HK.out.2 v14⟩
              case measure => simp [intOf]; omega
          · obtain rfl : i = 4 := by omega
            go_wp2_with fail
            go_ret
            exact ⟨rfl, below_trans a0 HK.out.2⟩
      · go_wp2_with fail
        go_ret
        exact ⟨rfl, b0⟩
end Go.Proofs.YtmnabilgpndjmaaDoor
