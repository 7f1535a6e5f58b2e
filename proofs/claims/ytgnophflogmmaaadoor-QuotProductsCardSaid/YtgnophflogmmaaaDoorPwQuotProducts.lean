/- The law QuotProducts: its walk. -/
import Derived.Test.YtgnophflogmmaaaDoorPk2
import Derived.Test.YtgnophflogmmaaaDoorPk4
import Derived.Test.YtgnophflogmmaaaDoorPk7
import Derived.Test.YtgnophflogmmaaaDoorPk12
set_option linter.unusedVariables false
set_option linter.unusedSimpArgs false
/- The law QuotProducts: its walk out of the contracts of what it calls. (Printed by law.py.) -/
namespace Go.Proofs.YtgnophflogmmaaaDoor
open Go.RowKit


set_option maxRecDepth 20000 in
set_option maxHeartbeats 4000000 in
theorem walk_QuotProducts (w : World) (hT : Tab32 w) (b : Int) (hb : 0 ≤ b ∧ b < 4294967296) (m : Int) (hm : 0 ≤ m ∧ m < 65536) (n : Int) (hn : 0 ≤ n ∧ n < 65536) :
    Calls Tryd.prog 4 #[.int .u32 b, .int .u16 m, .int .u16 n] w (LawTrue w) := by
  have b0 := Below.refl w.heap.size w
  go_enter Tryd.func4, Tryd.ntmps4
  obtain ⟨pz1, pz2⟩ := pow_zero' b
  have PZ1 := Lib.hid pz1
  have PZ2 := Lib.hid pz2
  clear pz1 pz2
  obtain ⟨lm, zm⟩ := powNum_lt b m hb 2048 rfl
  obtain ⟨ln, zn⟩ := powNum_lt b n hb 2048 rfl
  obtain ⟨ls, zs⟩ := powNum_lt b (m + n) hb 2048 rfl
  have LM := Lib.hid lm
  have LN := Lib.hid ln
  have LS := Lib.hid ls
  clear lm ln ls
  have hpp := Lib.hid (pow_parts b m n hb.1 hm.1 hn.1)
  obtain ⟨p1, hp1⟩ : ∃ p1, powOk b m = p1 := ⟨_, rfl⟩
  obtain ⟨p2, hp2⟩ : ∃ p2, powOk b n = p2 := ⟨_, rfl⟩
  obtain ⟨p3, hp3⟩ : ∃ p3, powOk b (m + n) = p3 := ⟨_, rfl⟩
  have HP1 := Lib.hid hp1
  have HP2 := Lib.hid hp2
  have HP3 := Lib.hid hp3
  clear hp1 hp2 hp3
  have h := Lib.hid ((by have h := pow_calls b m w hb (by omega) hT; rw [HP1.out] at h; exact h.mono fun e w' q => q.can))
  go_wp2_with fail
  with_reducible refine (h.out).mono ?_
  rintro e w1 ⟨adx, nx, cx, rfl, fx, b⟩
  clear h
  replace hT := hT.below b (Nat.le_refl _)
  replace b0 := below_trans b0 b
  clear b
  have h := Lib.hid ((by have h := pow_calls b n w1 hb (by omega) hT; rw [HP2.out] at h; exact h.mono fun e w' q => q.can))
  go_wp2_with fail
  with_reducible refine (h.out).mono ?_
  rintro e w2 ⟨ady, ny, cy, rfl, fy, b⟩
  clear h
  replace hT := hT.below b (Nat.le_refl _)
  replace fx := fx.below b (Nat.le_refl _)
  replace b0 := below_trans b0 b
  clear b
  have h := Lib.hid ((by have h := pow_calls b (m + n) w2 hb (by omega) hT; rw [HP3.out] at h; exact h.mono fun e w' q => q.can))
  go_wp2_with fail
  with_reducible refine (h.out).mono ?_
  rintro e w3 ⟨adz, nz, cz, rfl, fz, b⟩
  clear h
  replace hT := hT.below b (Nat.le_refl _)
  replace fx := fx.below b (Nat.le_refl _)
  replace fy := fy.below b (Nat.le_refl _)
  replace b0 := below_trans b0 b
  clear b
  have h := Lib.hid ((by have h := pow_calls b 0 w3 hb (by omega) hT; rw [PZ1.out, PZ2.out] at h; exact h.mono fun e w' q => q.can))
  go_wp2_with fail
  with_reducible refine (h.out).mono ?_
  rintro e w4 ⟨ado, no, co, rfl, fo, b⟩
  clear h
  replace hT := hT.below b (Nat.le_refl _)
  replace fx := fx.below b (Nat.le_refl _)
  replace fy := fy.below b (Nat.le_refl _)
  replace fz := fz.below b (Nat.le_refl _)
  replace b0 := below_trans b0 b
  clear b
  have h := Lib.hid ((by have h := may_calls b m w4 hb (by omega); rw [HP1.out] at h; exact h))
  go_wp2_with fail
  with_reducible refine (h.out).mono ?_
  rintro e w5 ⟨rfl, b⟩
  clear h
  replace hT := hT.below b (Nat.le_refl _)
  replace fx := fx.below b (Nat.le_refl _)
  replace fy := fy.below b (Nat.le_refl _)
  replace fz := fz.below b (Nat.le_refl _)
  replace fo := fo.below b (Nat.le_refl _)
  replace b0 := below_trans b0 b
  clear b
  have h := Lib.hid ((by have h := may_calls b n w5 hb (by omega); rw [HP2.out] at h; exact h))
  go_wp2_with fail
  with_reducible refine (h.out).mono ?_
  rintro e w6 ⟨rfl, b⟩
  clear h
  replace hT := hT.below b (Nat.le_refl _)
  replace fx := fx.below b (Nat.le_refl _)
  replace fy := fy.below b (Nat.le_refl _)
  replace fz := fz.below b (Nat.le_refl _)
  replace fo := fo.below b (Nat.le_refl _)
  replace b0 := below_trans b0 b
  clear b
  have h := Lib.hid ((by have h := may_calls b (m + n) w6 hb (by omega); rw [HP3.out] at h; exact h))
  go_wp2_with fail
  with_reducible refine (h.out).mono ?_
  rintro e w7 ⟨rfl, b⟩
  clear h
  replace hT := hT.below b (Nat.le_refl _)
  replace fx := fx.below b (Nat.le_refl _)
  replace fy := fy.below b (Nat.le_refl _)
  replace fz := fz.below b (Nat.le_refl _)
  replace fo := fo.below b (Nat.le_refl _)
  replace b0 := below_trans b0 b
  clear b
  have x1 := num_cells w7 w7.heap.size rfl [1] 1 rfl (dig_lit _ (by decide)) #[.int .u32 1] rfl 1 (by decide)
  have bl := below_lit w7 #[.int .u32 1] 32
  have x2 := (fo.num (by omega)).below bl (Nat.le_refl _)
  have hno : no ≤ 1 := fo.len_le 1 (by decide)
  have hC := num_cmp _ _ _ _ _ _ _ _ _ x2 x1 (by omega) (by omega)
  rw [cmpI_eq rfl] at hC
  have h := Lib.hid (hC)
  go_wp2_with fail
  with_reducible refine (h.out).mono ?_
  rintro e w' ⟨rfl, q, rfl⟩
  have b := below_drewN bl q
  replace b : Below w7.heap.size w7 _ := b
  generalize World.drewN (w7.alloc (.cells #[.int .u32 1] 32)) q = w8 at *
  clear h
  replace hT := hT.below b (Nat.le_refl _)
  replace fx := fx.below b (Nat.le_refl _)
  replace fy := fy.below b (Nat.le_refl _)
  replace fz := fz.below b (Nat.le_refl _)
  replace fo := fo.below b (Nat.le_refl _)
  replace b0 := below_trans b0 b
  clear b
  clear hC x1 x2 bl
  clear fo
  cases p3
  · go_wp2_with fail
    go_ret
    exact ⟨rfl, b0⟩
  · obtain ⟨k1, k2, k3⟩ := hpp.out HP3.out
    have hlx : nx ≤ 2048 := fx.len_le 2048 LM.out
    have hly : ny ≤ 2048 := fy.len_le 2048 LN.out
    have hlz : nz ≤ 2048 := fz.len_le 2048 LS.out
    have hM := num_mul _ _ _ _ _ _ _ _ w8 (fx.num zm) (fy.num zn) (by omega) (by omega)
    rw [k3] at hM
    clear k1 k2 k3
    have h := Lib.hid (hM)
    go_wp2_with fail
    with_reducible refine (h.out).mono ?_
    rintro e w9 ⟨adp, np, cp, rfl, fp, b⟩
    clear h
    replace hT := hT.below b (Nat.le_refl _)
    replace fx := fx.below b (Nat.le_refl _)
    replace fy := fy.below b (Nat.le_refl _)
    replace fz := fz.below b (Nat.le_refl _)
    replace b0 := below_trans b0 b
    clear b
    clear hM
    have hlp : np ≤ 2048 := fp.len_le 2048 LS.out
    have hC := num_cmp _ _ _ _ _ _ _ _ w9 (fp.num zs) (fz.num zs) (by omega) (by omega)
    rw [cmpI_eq rfl] at hC
    have h := Lib.hid (hC)
    go_wp2_with fail
    with_reducible refine (h.out).mono ?_
    rintro e w' ⟨rfl, q, rfl⟩
    have b := below_drewN (Below.refl w9.heap.size w9) q
    replace b : Below w9.heap.size w9 _ := b
    generalize World.drewN w9 q = w10 at *
    clear h
    replace hT := hT.below b (Nat.le_refl _)
    replace fx := fx.below b (Nat.le_refl _)
    replace fy := fy.below b (Nat.le_refl _)
    replace fz := fz.below b (Nat.le_refl _)
    replace fp := fp.below b (Nat.le_refl _)
    replace b0 := below_trans b0 b
    clear b
    clear hC
    have h := Lib.hid (tight_calls _ _ _ _ w10 fz (by omega))
    go_wp2_with fail
    with_reducible refine (h.out).mono ?_
    rintro e w' ⟨rfl, rfl⟩
    clear h
    have h := Lib.hid (lives2_calls w10 hT)
    go_wp2_with fail
    with_reducible refine (h.out).mono ?_
    rintro e w12 ⟨rfl, b⟩
    clear h
    replace hT := hT.below b (Nat.le_refl _)
    replace fx := fx.below b (Nat.le_refl _)
    replace fy := fy.below b (Nat.le_refl _)
    replace fz := fz.below b (Nat.le_refl _)
    replace fp := fp.below b (Nat.le_refl _)
    replace b0 := below_trans b0 b
    clear b
    go_wp2_with fail
    go_ret
    exact ⟨rfl, b0⟩
end Go.Proofs.YtgnophflogmmaaaDoor
