/- The law IeeeRises: its walk. -/
import Derived.Test.YtmnabilgpndjmaaDoorPk2
import Derived.Test.YtmnabilgpndjmaaDoorPk3
import Derived.Test.YtmnabilgpndjmaaDoorPk4
import Derived.Test.YtmnabilgpndjmaaDoorPk16
import Derived.Test.YtmnabilgpndjmaaDoorPk25
set_option linter.unusedVariables false
set_option linter.unusedSimpArgs false
/- The law IeeeRises: its walk out of the contracts of what it calls. (Printed by law5.py.) -/
namespace Go.Proofs.YtmnabilgpndjmaaDoor
open Go.RowKit


theorem rise_facts {W : Nat} (hW : Wide W) (V U p : Int) (more : Bool) (hV : 0 ≤ V) (hU : 0 ≤ U) :
    roundW W false V p more ≤ roundW W false (V + U) p more ∧ roundW W false (V + U) p more ≤ infW W ∧ roundW W true V p more = roundW W false V p more + sgnW W ∧ 0 ≤ roundW W false V p more ∧
    ((V = 0 ∧ more = false) ∨ p < -1100 - bitsOf V → roundW W false V p more = 0) ∧ (¬ (V = 0 ∧ more = false) → 1024 < p → roundW W false V p more = infW W) := by
  have hI := infW_eq hW
  have e1 : roundW W false V p more = (nearE W (rM V more) (rE p more) : Nat) := by unfold roundW; simp
  have e2 : roundW W false (V + U) p more = (nearE W (rM (V + U) more) (rE p more) : Nat) := by unfold roundW; simp
  have e3 : roundW W true V p more = sgnW W + (nearE W (rM V more) (rE p more) : Nat) := by unfold roundW; simp
  have hm : rM V more ≤ rM (V + U) more := by unfold rM; cases more <;> simp <;> omega
  have h1 := nearE_mono (W := W) _ _ (rE p more) hm
  have h2 := nearE_le W (rM (V + U) more) (rE p more)
  rw [e1, e2, e3, hI]
  refine ⟨by omega, by omega, by omega, by omega, ?_, ?_⟩
  · rintro (⟨rfl, rfl⟩ | h)
    · show ((nearE W 0 p : Nat) : Int) = 0
      rw [nearE_zero hW]; rfl
    · have b1 := blen_lt V.toNat
      have b2 : rM V more < 2 ^ (blen V.toNat + 1) := by
        unfold rM
        rw [Nat.pow_succ]
        split <;> omega
      unfold bitsOf at h
      have h3 : rE p more ≤ p := by unfold rE; split <;> omega
      have h4 : -1074 ≤ shL W := by rcases hW with rfl | rfl | rfl <;> decide
      rw [nearE_small hW _ _ _ b2 (by omega)]; rfl
  · intro hz hp
    rw [nearE_inf hW _ 0 _ ?_ ?_]
    · rw [Nat.pow_zero]
      unfold rM
      cases more
      · have : V ≠ 0 := fun e => hz ⟨e, rfl⟩
        simp
        omega
      · simp
    · have h1 : 1024 ≤ rE p more := by unfold rE; split <;> omega
      have h2 : (topP W : Int) + shL W ≤ 1024 := by rcases hW with rfl | rfl | rfl <;> decide
      omega

set_option maxRecDepth 20000 in
set_option maxHeartbeats 2000000 in
theorem walk_IeeeRises (w : World) (hS : Shapes w) (hT : Tab w) (k0 : Int) (hk0 : 0 ≤ k0 ∧ k0 < 256) (adm : Option Addr) (nm cm : Nat) (xm : List Int) (hncm : nm ≤ cm) (hnm : nm * 4 ≤ 140737488351232) (hrm : Rds w .u32 adm nm xm) (dxm : Dig 4294967296 xm) (adk : Option Addr) (nk ck : Nat) (xk : List Int) (hnck : nk ≤ ck) (hnk : nk * 4 ≤ 140737488351232) (hrk : Rds w .u32 adk nk xk) (dxk : Dig 4294967296 xk) (p : Int) (hp : -9223372036854775808 ≤ p ∧ p < 9223372036854775808) (more : Bool) :
    Calls Tryd.prog 6 #[.int .u8 k0, .slice adm nm cm, .slice adk nk ck, .int .i64 p, .bool more] w (LawTrue w) := by
  have fm : Arg w adm nm cm xm := ⟨hncm, hrm, dxm⟩
  clear hrm dxm
  have fk : Arg w adk nk ck xk := ⟨hnck, hrk, dxk⟩
  clear hrk dxk
  have b0 : Below w.heap.size w w := Below.refl _ _
  go_enter Tryd.func6, Tryd.ntmps6
  have h := Lib.hid (llives_calls w hS hT)
  go_wp2_with fail
  refine (h.out).mono ?_
  rintro e w1 ⟨rfl, b⟩
  clear h
  replace fm := fm.below b (Nat.le_refl _)
  replace fk := fk.below b (Nat.le_refl _)
  replace hS := hS.below b (Nat.le_refl _)
  replace hT := hT.below b (Nat.le_refl _)
  replace b0 := below_trans b0 b
  clear b
  have hB := Lib.hid (beyond_calls w1.heap.size 2 2 [nm, nk] (fun j => if j = 0 then (adm, cm) else (adk, ck)) (w1.alloc (.cells #[.slice adm nm cm, .slice adk nk ck] 33)) rfl (by omega)
    (fun j => by rcases j with _ | _ | j <;> simp <;> omega)
    (fun j hj => by rw [World.cell?_alloc_at _ _ _ _ rfl]; rcases j with _ | _ | j <;> simp; omega))
  go_wp2_with fail
  refine (hB.out).mono ?_
  rintro e w' ⟨r, rfl, rfl, hp⟩
  have HP := Lib.hid hp
  clear hp hB
  have b : Below w1.heap.size w1 (w1.alloc (.cells #[.slice adm nm cm, .slice adk nk ck] 33)) := (Below.refl _ _).alloc (Nat.le_refl _) _
  replace fm := fm.below b (Nat.le_refl _)
  replace fk := fk.below b (Nat.le_refl _)
  replace hS := hS.below b (Nat.le_refl _)
  replace hT := hT.below b (Nat.le_refl _)
  replace b0 := below_trans b0 b
  clear b
  generalize (w1.alloc (.cells #[.slice adm nm cm, .slice adk nk ck] 33)) = wb at *
  cases r
  · have hp : parts [nm, nk] ≤ 1048576 := HP.out rfl
    have hnm : nm + nk ≤ 1048574 := by simp [parts] at hp; omega
    clear hp HP
    have Zm := Lib.hid fm.nonneg
    have Zk := Lib.hid fk.nonneg
    have Tm := Lib.hid fm.lt
    have Tk := Lib.hid fk.lt
    have HF := Lib.hid (rise_facts (wide_wd k0) (val 4294967296 xm) (val 4294967296 xk) p more Zm.out Zk.out)
    have hIS := inf_fits (wide_wd k0)
    have hPW := pow_wide (wide_wd k0)
    have hbits := fm.num.bits_le
    have HNz := Lib.hid (bits_zero_iff (val 4294967296 xm) Zm.out)
    have h := Lib.hid (lround_calls k0 hk0 wb hS false _ _ _ _ p more fm.num (by omega) hp)
    go_wp2_with fail
    refine (h.out).mono ?_
    rintro e w2 ⟨rfl, b⟩
    clear h
    replace fm := fm.below b (Nat.le_refl _)
    replace fk := fk.below b (Nat.le_refl _)
    replace hS := hS.below b (Nat.le_refl _)
    replace hT := hT.below b (Nat.le_refl _)
    replace b0 := below_trans b0 b
    clear b
    have h := Lib.hid (num_add _ _ _ _ _ _ _ _ w2 fm.num fk.num (by omega) (by omega))
    go_wp2_with fail
    refine (h.out).mono ?_
    rintro e w3 ⟨ads, ns, cs, rfl, fs, b⟩
    clear h
    replace fm := fm.below b (Nat.le_refl _)
    replace fk := fk.below b (Nat.le_refl _)
    replace hS := hS.below b (Nat.le_refl _)
    replace hT := hT.below b (Nat.le_refl _)
    replace b0 := below_trans b0 b
    clear b
    have ls := fs.len_le _ (pow_add_lt _ _ _ _ Tm.out Tk.out)
    have h := Lib.hid (lround_calls k0 hk0 w3 hS false _ _ _ _ p more (fs.num (Int.add_nonneg Zm.out Zk.out)) (by omega) hp)
    go_wp2_with fail
    refine (h.out).mono ?_
    rintro e w4 ⟨rfl, b⟩
    clear h
    replace fm := fm.below b (Nat.le_refl _)
    replace fk := fk.below b (Nat.le_refl _)
    replace hS := hS.below b (Nat.le_refl _)
    replace hT := hT.below b (Nat.le_refl _)
    replace fs := fs.below b (Nat.le_refl _)
    replace b0 := below_trans b0 b
    clear b
    obtain ⟨A, hA⟩ : ∃ A, A = roundW (wd k0) false (val 4294967296 xm) p more := ⟨_, rfl⟩
    obtain ⟨B, hB⟩ : ∃ B, B = roundW (wd k0) false ((val 4294967296 xm) + (val 4294967296 xk)) p more := ⟨_, rfl⟩
    obtain ⟨C, hC⟩ : ∃ C, C = roundW (wd k0) true (val 4294967296 xm) p more := ⟨_, rfl⟩
    have hF := HF.out
    rw [← hA, ← hB, ← hC] at hF
    have HC := Lib.hid (lround_calls k0 hk0 w4 hS true _ _ _ _ p more fm.num (by omega) hp)
    rw [← hC] at HC
    obtain ⟨N, hN⟩ : ∃ N, N = bitsOf (val 4294967296 xm) := ⟨_, rfl⟩
    have HLn := Lib.hid (fun (w : World) (h : Num w adm nm cm (val 4294967296 xm)) => num_len adm nm cm _ w h (by omega))
    rw [← hN] at hF HNz hbits HLn
    rw [← hA, ← hB]
    have HCon := Lib.hid (ltop_calls k0 hk0)
    have HSgn := Lib.hid (lsign_calls k0 hk0)
    generalize infW (wd k0) = I at *
    generalize sgnW (wd k0) = S at *
    obtain ⟨h1, h2, h3, h4, h5, h6⟩ := hF
    have H5 := Lib.hid h5
    have H6 := Lib.hid h6
    have h7 : ¬ B < A := by omega
    have h8 : ¬ I < B := by omega
    have W1 : IntKind.u64.wrap (A + S) = A + S := by rw [IntKind.wrap_u64]; omega
    have W2 : (A + S) % 18446744073709551616 = A + S := by omega
    have HCe := Lib.hid h3
    rw [h3] at HC
    clear h5 h6 h3 HF hA hB hC hN
    have h := Lib.hid (HCon.out w4)
    go_wp2_with fail
    refine (h.out).mono ?_
    rintro e w' ⟨rfl, rfl⟩
    clear h
    have h := Lib.hid (HC.out)
    go_wp2_with fail
    refine (h.out).mono ?_
    rintro e w6 ⟨rfl, b⟩
    clear h
    replace fm := fm.below b (Nat.le_refl _)
    replace fk := fk.below b (Nat.le_refl _)
    replace hS := hS.below b (Nat.le_refl _)
    replace hT := hT.below b (Nat.le_refl _)
    replace fs := fs.below b (Nat.le_refl _)
    replace b0 := below_trans b0 b
    clear b
    clear HC
    have h := Lib.hid (HSgn.out w6)
    go_wp2_with fail
    refine (h.out).mono ?_
    rintro e w' ⟨rfl, rfl⟩
    clear h
    have h := Lib.hid (HLn.out w6 fm.num)
    go_wp2_with fail
    refine (h.out).mono ?_
    rintro e w' ⟨rfl, rfl⟩
    clear h
    have W3 : IntKind.i64.wrap (-1100 - N) = -1100 - N := IntWalk.i64_in _ (by omega)
    by_cases hn0 : N = 0
    · subst hn0
      cases more
      · skip
        have hA0 : A = 0 := H5.out (.inl ⟨HNz.out.1 rfl, rfl⟩)
        subst hA0
        go_wp2_with fail
        go_ret
        exact ⟨rfl, b0⟩
      · skip
        by_cases hp1 : p < -1100 - 0
        · have hA0 : A = 0 := H5.out (.inr hp1)
          subst hA0
          have h := Lib.hid (HLn.out w6 fm.num)
          go_wp2_with fail
          refine (h.out).mono ?_
          rintro e w' ⟨rfl, rfl⟩
          clear h
          go_wp2_with fail
          go_ret
          exact ⟨rfl, b0⟩
        · by_cases hp2 : 1024 < p
          · have hA0 : A = I := H6.out (fun h => by cases h.2) hp2
            subst hA0
            have h := Lib.hid (HLn.out w6 fm.num)
            go_wp2_with fail
            refine (h.out).mono ?_
            rintro e w' ⟨rfl, rfl⟩
            clear h
            have h := Lib.hid (HCon.out w6)
            go_wp2_with fail
            refine (h.out).mono ?_
            rintro e w' ⟨rfl, rfl⟩
            clear h
            go_wp2_with fail
            go_ret
            exact ⟨rfl, b0⟩
          · have hp3 : p ≤ 1024 := by omega
            have h := Lib.hid (HLn.out w6 fm.num)
            go_wp2_with fail
            refine (h.out).mono ?_
            rintro e w' ⟨rfl, rfl⟩
            clear h
            go_wp2_with fail
            go_ret
            exact ⟨rfl, b0⟩
    · have hn1 : (N == 0) = false := by simpa using hn0
      have hn2 := Lib.hid (fun h : ((val 4294967296 xm) = 0 ∧ more = false) => hn0 (HNz.out.2 h.1))
      clear hn0
      by_cases hp1 : p < -1100 - N
      · have hA0 : A = 0 := H5.out (.inr hp1)
        subst hA0
        have h := Lib.hid (HLn.out w6 fm.num)
        go_wp2_with fail
        refine (h.out).mono ?_
        rintro e w' ⟨rfl, rfl⟩
        clear h
        go_wp2_with fail
        go_ret
        exact ⟨rfl, b0⟩
      · by_cases hp2 : 1024 < p
        · have hA0 : A = I := H6.out (hn2.out) hp2
          subst hA0
          have h := Lib.hid (HLn.out w6 fm.num)
          go_wp2_with fail
          refine (h.out).mono ?_
          rintro e w' ⟨rfl, rfl⟩
          clear h
          have h := Lib.hid (HCon.out w6)
          go_wp2_with fail
          refine (h.out).mono ?_
          rintro e w' ⟨rfl, rfl⟩
          clear h
          go_wp2_with fail
          go_ret
          exact ⟨rfl, b0⟩
        · have hp3 : p ≤ 1024 := by omega
          have h := Lib.hid (HLn.out w6 fm.num)
          go_wp2_with fail
          refine (h.out).mono ?_
          rintro e w' ⟨rfl, rfl⟩
          clear h
          go_wp2_with fail
          go_ret
          exact ⟨rfl, b0⟩
  · go_wp2
    go_ret
    exact ⟨rfl, b0⟩
end Go.Proofs.YtmnabilgpndjmaaDoor
