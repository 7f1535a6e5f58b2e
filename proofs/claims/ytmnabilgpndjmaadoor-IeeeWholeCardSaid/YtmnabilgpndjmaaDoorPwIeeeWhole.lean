/- The law IeeeWhole: its walk. -/
import Derived.Deep.RegionHeld3
import Derived.Test.YtmnabilgpndjmaaDoorPk2
import Derived.Test.YtmnabilgpndjmaaDoorPk3
import Derived.Test.YtmnabilgpndjmaaDoorPk11
import Derived.Test.YtmnabilgpndjmaaDoorPk12
import Derived.Test.YtmnabilgpndjmaaDoorPk29
import Derived.Test.YtmnabilgpndjmaaDoorPk30
set_option linter.unusedVariables false
set_option linter.unusedSimpArgs false
/- The law IeeeWhole: its walk out of the contracts of what it calls. (Printed by law5.py.) -/
namespace Go.Proofs.YtmnabilgpndjmaaDoor
open Go.RowKit


set_option maxRecDepth 20000 in
set_option maxHeartbeats 2000000 in
theorem walk_IeeeWhole (w : World) (hS : Shapes w) (hT : Tab w) (k0 : Int) (hk0 : 0 ≤ k0 ∧ k0 < 256) (ng : Bool) (ad : Option Addr) (n c : Nat) (xs : List Int) (hx : Arg w ad n c xs) (hn : n * 4 ≤ 140737488351232) :
    Calls Tryd.prog 12 #[.int .u8 k0, .agg #[.bool ng, .slice ad n c]] w (LawTrue w) := by
  have b1 : Below w.heap.size w (w.alloc (.cells #[.bool ng, .slice ad n c] 48)) := (Below.refl _ _).alloc (Nat.le_refl _) _
  have k1 : Cel (w.alloc (.cells #[.bool ng, .slice ad n c] 48)) w.heap.size 48 [.bool ng, .slice ad n c] := Cel.made _ _ _ _ rfl
  have b2 : Below (w.alloc (.cells #[.bool ng, .slice ad n c] 48)).heap.size (w.alloc (.cells #[.bool ng, .slice ad n c] 48)) ((w.alloc (.cells #[.bool ng, .slice ad n c] 48)).alloc (.cells #[.slice ad n c] 33)) := (Below.refl _ _).alloc (Nat.le_refl _) _
  have k2 := k1.next b2
  have b0 := below_trans b1 b2
  have hs1 : w.heap.size + 1 = (w.alloc (.cells #[.bool ng, .slice ad n c] 48)).heap.size := by simp
  have hB := Lib.hid (beyond_calls (w.heap.size + 1) 1 1 [n] (fun j => (ad, c)) ((w.alloc (.cells #[.bool ng, .slice ad n c] 48)).alloc (.cells #[.slice ad n c] 33)) rfl (by omega)
    (fun j => by rcases j with _ | j <;> simp <;> omega) (fun j hj => by rw [World.cell?_alloc_at _ _ _ _ hs1]; rcases j with _ | j <;> simp; omega))
  have c0 := k1.cell 0 _ rfl
  have c1 := k1.cell 1 _ rfl
  have fx := hx.below b0 (Nat.le_refl _)
  replace hS := hS.below b0 (Nat.le_refl _)
  replace hT := hT.below b0 (Nat.le_refl _)
  clear b1 b2 k1 hx hs1
  go_enter Tryd.func12, Tryd.ntmps12
  go_wp2_with fail
  refine (hB.out).mono ?_
  rintro e w' ⟨r, rfl, rfl, hp⟩
  clear c0 c1
  have HP := Lib.hid hp
  clear hp hB
  generalize ((w.alloc (.cells #[.bool ng, .slice ad n c] 48)).alloc (.cells #[.slice ad n c] 33)) = w0 at *
  cases r
  · have hp : parts [n] ≤ 1048576 := HP.out rfl
    have hnm : n ≤ 1048575 := by simp [parts] at hp; omega
    clear hp HP
    have c0 := k2.cell 0 _ rfl
    have c1 := k2.cell 1 _ rfl
    have H1 := Lib.hid (twinInt_calls ng ad n c xs w0 fx (by omega))
    go_wp2_with fail
    refine (H1.out).mono ?_
    rintro e w1 ⟨tb, rfl, ht, b⟩
    clear H1 c0 c1
    have k3 := k2.next b
    have f1 := fx.below b (Nat.le_refl _)
    have a1 := below_trans b0 b
    have bT : Below w1.heap.size w1 (w1.alloc (.cells #[.bool ng, .slice (some ⟨tb, 0, none⟩) n (n + 1)] 48)) := (Below.refl _ _).alloc (Nat.le_refl _) _
    have kt : Cel (w1.alloc (.cells #[.bool ng, .slice (some ⟨tb, 0, none⟩) n (n + 1)] 48)) w1.heap.size 48 [.bool ng, .slice (some ⟨tb, 0, none⟩) n (n + 1)] := Cel.made _ _ _ _ rfl
    have t0 := kt.cell 0 _ rfl
    have t1 := kt.cell 1 _ rfl
    have k4 := k3.next bT
    have f2 := f1.below bT (Nat.le_refl _)
    have ht2 := ht.below bT (Nat.le_refl _)
    have a2 := below_trans a1 bT
    have hS2 := hS.below (below_trans b bT) (Nat.le_refl _)
    have hT2 := hT.below (below_trans b bT) (Nat.le_refl _)
    have H2 := Lib.hid (lfrom_calls k0 hk0 (w1.alloc (.cells #[.bool ng, .slice (some ⟨tb, 0, none⟩) n (n + 1)] 48)) hS2 hT2 ng _ _ _ _ ht2.num (by omega))
    clear b k3 f1 a1 ht k2 fx b0 hS hT hS2 hT2
    have HRf := Lib.hid (fun (w : World) (h : Arg w ad n c xs) => rfromW_calls (wd k0) (wide_wd k0) ng ad n c _ w h.num (by omega))
    generalize (fromW (wd k0) (sI ng (val 4294967296 xs))).1 = y at *
    generalize (fromW (wd k0) (sI ng (val 4294967296 xs))).2 = ok at *
    go_wp2_with fail
    refine (H2.out).mono ?_
    rintro e w3 ⟨rfl, b⟩
    clear H2 t0 t1
    have kt3 := kt.next b
    have k5 := k4.next b
    have f3 := f2.below b (Nat.le_refl _)
    have ht3 := ht2.below b (Nat.le_refl _)
    have a3 := below_trans a2 b
    clear b bT kt k4 f2 ht2 a2
    generalize w1.heap.size = gt at *
    go_wp2_with fail
    have c0 := k5.cell 0 _ rfl
    have c1 := k5.cell 1 _ rfl
    have HW := Lib.hid (lwidth_calls k0 hk0)
    have bd : Below w3.heap.size w3 w3.drew := below_drew (Below.refl _ _)
    have HR2 := Lib.hid (HRf.out w3.drew (f3.below bd (Nat.le_refl _)))
    go_region_held3 (fun w' => w'.cell? ⟨w.heap.size, 0, none⟩ = some (.bool ng) ∧ w'.cell? ⟨w.heap.size, 1, none⟩ = some (.slice ad n c)) (go_keep)
      (first
        | (go_at_call 17
           refine (HW.out _).mono ?_
           rintro e w' ⟨rfl, rfl⟩)
        | (go_at_call 46
           refine (HR2.out).mono ?_
           rintro e w4 ⟨rfl, hb⟩
           have hb4 : Below w3.heap.size w3 w4 := below_then bd (Nat.le_refl _) hb
           have u0 := below_cell hb4 (Nat.le_refl _) c0
           have u1 := below_cell hb4 (Nat.le_refl _) c1))
    all_goals
      have kt4 := kt3.next hb4
      have k6 := k5.next hb4
      have f4 := f3.below hb4 (Nat.le_refl _)
      have ht4 := ht3.below hb4 (Nat.le_refl _)
      have a4 := below_trans a3 hb4
      have v0 := kt4.cell 0 _ rfl
      have v1 := kt4.cell 1 _ rfl
      have HL := Lib.hid (leftInt_calls ng tb ad n c xs w4 ht4 f4 (by omega))
      go_wp2_with fail
      refine (HL.out).mono ?_
      rintro e w5 ⟨rfl, b5⟩
      go_wp2_with fail
      go_ret
      exact ⟨rfl, below_trans a4 b5⟩
  · go_wp2
    go_ret
    exact ⟨rfl, b0⟩
end Go.Proofs.YtmnabilgpndjmaaDoor
