/- Contracts of functions, and plain facts, part 12. -/
import Derived.Deep.RegionHeld3
import Derived.Test.YtmnabilgpndjmaaDoorPk3
import Derived.Test.YtmnabilgpndjmaaDoorPk4
import Derived.Test.YtmnabilgpndjmaaDoorPk5
import Derived.Test.YtmnabilgpndjmaaDoorPk7
import Derived.Test.YtmnabilgpndjmaaDoorPk8
import Derived.Test.YtmnabilgpndjmaaDoorPk9
import Derived.Test.YtmnabilgpndjmaaDoorPk10
import Derived.Test.YtmnabilgpndjmaaDoorPk11
set_option linter.unusedVariables false
set_option linter.unusedSimpArgs false
/- TwinInt, SameInt, LeftInt of the statements. -/
namespace Go.Proofs.YtmnabilgpndjmaaDoor
open Go.RowKit

theorem Tw.poke {w : World} {b n : Nat} {xs : List Int} (h : Tw w b n xs) {b2 : Nat} {t : TypeId} {b0 : Bool} {cs : List Value} (k : Cel w b2 t (.bool b0 :: cs)) (j : Nat) (v : Value) : Tw (w.setCell ⟨b2, j, none⟩ v) b n xs := by
  have hne : b2 ≠ b := by
    rintro rfl
    have h1 := h.blk.cell 0 (by simp)
    have h2 := k.cell 0 _ rfl
    rw [h1] at h2
    cases h2
  refine ⟨h.len, ?_, h.dig⟩
  have hb := h.blk
  unfold Blk at *
  simp only [World.setCell, Array.getElem?_modify, hb, if_neg hne]

set_option maxHeartbeats 2000000 in
theorem twinInt_calls (ng : Bool) (ad : Option Addr) (n c : Nat) (xs : List Int) (w : World) (h : Arg w ad n c xs) (hn : n ≤ 70368744177663) :
    Calls Tryd.prog 44 #[.agg #[.bool ng, .slice ad n c]] w (fun e w' => ∃ b, e = .returned (.agg #[.bool ng, .slice (some ⟨b, 0, none⟩) n (n + 1)]) ∧ Tw w' b n xs ∧ Below w.heap.size w w') := by
  have b1 : Below w.heap.size w (w.alloc (.cells #[.bool ng, .slice ad n c] 48)) := (Below.refl _ _).alloc (Nat.le_refl _) _
  have b2 : Below w.heap.size w ((w.alloc (.cells #[.bool ng, .slice ad n c] 48)).alloc (.cells #[.bool false, .slice none 0 0] 48)) := below_alloc b1 _
  have k0 : Cel ((w.alloc (.cells #[.bool ng, .slice ad n c] 48)).alloc (.cells #[.bool false, .slice none 0 0] 48)) w.heap.size 48 [.bool ng, .slice ad n c] := (Cel.made _ _ _ _ rfl : Cel (w.alloc (.cells #[.bool ng, .slice ad n c] 48)) w.heap.size 48 [.bool ng, .slice ad n c]).next ((Below.refl _ _).alloc (Nat.le_refl _) _)
  have k1 : Cel ((w.alloc (.cells #[.bool ng, .slice ad n c] 48)).alloc (.cells #[.bool false, .slice none 0 0] 48)) (w.heap.size + 1) 48 [.bool false, .slice none 0 0] := Cel.made _ _ _ _ (by simp)
  have h2 := h.below b2 (Nat.le_refl _)
  have hb0 : w.heap.size < w.heap.size + 1 := Nat.lt_succ_self _
  have HT : Hid (∀ w', Below w.heap.size w w' → Calls Tryd.prog 23 #[.slice ad n c] w' (fun e w'' => ∃ b, e = .returned (.slice (some ⟨b, 0, none⟩) n (n + 1)) ∧ Tw w'' b n xs ∧ Below w'.heap.size w' w'')) :=
    fun w' b => num_twin ad n c xs w' (h.below b (Nat.le_refl _)) hn
  clear h b1 h2
  go_enter Tryd.func44, Tryd.ntmps44
  go_wp2_with fail
  generalize (w.alloc (.cells #[.bool ng, .slice ad n c] 48)).alloc (.cells #[.bool false, .slice none 0 0] 48) = w0 at *
  generalize w.heap.size + 1 = g at *
  have c0 := k0.cell 0 _ rfl
  have c1 := k0.cell 1 _ rfl
  have d0 := k1.cell 0 _ rfl
  have d1 := k1.cell 1 _ rfl
  have f0 := k1.free 0
  have f1 := k1.free 1
  have bd : Below w.heap.size w w0.drew := below_drew b2
  go_region_held3 (fun w' => w'.cell? ⟨w.heap.size, 0, none⟩ = some (.bool ng) ∧ w'.cell? ⟨w.heap.size, 1, none⟩ = some (.slice ad n c)) (go_keep)
    (first
      | (go_at_call 23
         refine (HT.out _ bd).mono ?_
         rintro e w2 ⟨b, rfl, ht, hb⟩
         have bb : Below w0.heap.size w0 w2 := below_then (below_drew (Below.refl w0.heap.size w0)) (Nat.le_refl _) hb
         have e0 := below_cell bb (Nat.le_refl _) c0
         have e1 := below_cell bb (Nat.le_refl _) c1
         have k2 := k1.next bb
         have u0 := k2.cell 0 _ rfl
         have u1 := k2.cell 1 _ rfl
         have v0 := k2.free 0
         have v1 := k2.free 1
         have w0c : ((w2.setCell ⟨g, 0, none⟩ (.bool ng)).setCell ⟨g, 1, none⟩ (.slice (some ⟨b, 0, none⟩) n (n + 1))).cell? ⟨w.heap.size, 0, none⟩ = some (.bool ng) := by
           rw [World.cell?_setCell_other _ _ _ _ (by intro h; injection h; omega), World.cell?_setCell_other _ _ _ _ (by intro h; injection h; omega)]; exact e0
         have w1c : ((w2.setCell ⟨g, 0, none⟩ (.bool ng)).setCell ⟨g, 1, none⟩ (.slice (some ⟨b, 0, none⟩) n (n + 1))).cell? ⟨w.heap.size, 1, none⟩ = some (.slice ad n c) := by
           rw [World.cell?_setCell_other _ _ _ _ (by intro h; injection h; omega), World.cell?_setCell_other _ _ _ _ (by intro h; injection h; omega)]; exact e1))
  all_goals
    go_wp2
    refine bodyPost_ret (results_cell_row rfl _ _ g 48 #[.bool ng, .slice (some ⟨b, 0, none⟩) n (n + 1)] (0, 0) _ rfl ((k2.set 0 _).set 1 _).row Tryd.underlying48 rfl size_int) rfl ?_
    exact ⟨b, rfl, (ht.poke k2 0 _).poke (k2.set 0 _) 1 _, below_set (below_set (below_trans b2 bb) _ _ _ (Nat.le_of_lt hb0)) _ _ _ (Nat.le_of_lt hb0)⟩

/-- A bool is answered, nothing old has turned. -/
def RetBB (r : Bool) (w : World) (e : Ending) (w' : World) : Prop := e = .returned (.bool r) ∧ Below w.heap.size w w'

theorem sameInt_calls (ng mg : Bool) (ad bd : Option Addr) (n m c d : Nat) (V U : Int) (w : World) (ha : Can w ad n c V) (hb : Can w bd m d U) (hV : 0 ≤ V) (hU : 0 ≤ U) (hn : n ≤ 1000000000000) (hm : m ≤ 1000000000000) :
    Calls Tryd.prog 33 #[.agg #[.bool ng, .slice ad n c], .agg #[.bool mg, .slice bd m d]] w (RetBB (ng == mg && decide (V = U)) w) := by
  have b1 : Below w.heap.size w (w.alloc (.cells #[.bool ng, .slice ad n c] 48)) := (Below.refl _ _).alloc (Nat.le_refl _) _
  have b2 : Below w.heap.size w ((w.alloc (.cells #[.bool ng, .slice ad n c] 48)).alloc (.cells #[.bool mg, .slice bd m d] 48)) := below_alloc b1 _
  have k0 : Cel ((w.alloc (.cells #[.bool ng, .slice ad n c] 48)).alloc (.cells #[.bool mg, .slice bd m d] 48)) w.heap.size 48 [.bool ng, .slice ad n c] := (Cel.made _ _ _ _ rfl : Cel (w.alloc (.cells #[.bool ng, .slice ad n c] 48)) w.heap.size 48 [.bool ng, .slice ad n c]).next ((Below.refl _ _).alloc (Nat.le_refl _) _)
  have k1 : Cel ((w.alloc (.cells #[.bool ng, .slice ad n c] 48)).alloc (.cells #[.bool mg, .slice bd m d] 48)) (w.heap.size + 1) 48 [.bool mg, .slice bd m d] := Cel.made _ _ _ _ (by simp)
  have HS := Lib.hid (num_same ad bd n m c d V U _ (ha.below b2 (Nat.le_refl _)) (hb.below b2 (Nat.le_refl _)) hV hU hn hm)
  have c0 := k0.cell 0 _ rfl
  have c1 := k0.cell 1 _ rfl
  have d0 := k1.cell 0 _ rfl
  have d1 := k1.cell 1 _ rfl
  obtain ⟨r, hr⟩ : ∃ r, r = (ng == mg && decide (V = U)) := ⟨_, rfl⟩
  rw [← hr]
  have HR := Lib.hid hr
  clear ha hb b1 hr k0 k1
  generalize decide (V = U) = vu at *
  cases ng <;> cases mg
  · have HE := Lib.hid (show r = vu by rw [HR.out]; rfl)
    go_enter Tryd.func33, Tryd.ntmps33
    go_wp2_with fail
    refine (HS.out).mono ?_
    rintro e w' ⟨rfl, q, rfl⟩
    go_wp2
    go_ret
    rw [HE.out]
    exact ⟨rfl, below_drewN b2 _⟩
  · have HE := Lib.hid (show r = false by rw [HR.out]; rfl)
    go_enter Tryd.func33, Tryd.ntmps33
    go_wp2
    go_ret
    rw [HE.out]
    exact ⟨rfl, b2⟩
  · have HE := Lib.hid (show r = false by rw [HR.out]; rfl)
    go_enter Tryd.func33, Tryd.ntmps33
    go_wp2
    go_ret
    rw [HE.out]
    exact ⟨rfl, b2⟩
  · have HE := Lib.hid (show r = vu by rw [HR.out]; rfl)
    go_enter Tryd.func33, Tryd.ntmps33
    go_wp2_with fail
    refine (HS.out).mono ?_
    rintro e w' ⟨rfl, q, rfl⟩
    go_wp2
    go_ret
    rw [HE.out]
    exact ⟨rfl, below_drewN b2 _⟩

theorem leftInt_calls (ng : Bool) (b : Nat) (ld : Option Addr) (n c : Nat) (xs : List Int) (w : World) (ht : Tw w b n xs) (hl : Arg w ld n c xs) (hn : n ≤ 1000000000000) :
    Calls Tryd.prog 47 #[.agg #[.bool ng, .slice (some ⟨b, 0, none⟩) n (n + 1)], .agg #[.bool ng, .slice ld n c]] w (RetBB true w) := by
  have b1 : Below w.heap.size w (w.alloc (.cells #[.bool ng, .slice (some ⟨b, 0, none⟩) n (n + 1)] 48)) := (Below.refl _ _).alloc (Nat.le_refl _) _
  have b2 : Below w.heap.size w ((w.alloc (.cells #[.bool ng, .slice (some ⟨b, 0, none⟩) n (n + 1)] 48)).alloc (.cells #[.bool ng, .slice ld n c] 48)) := below_alloc b1 _
  have k0 : Cel ((w.alloc (.cells #[.bool ng, .slice (some ⟨b, 0, none⟩) n (n + 1)] 48)).alloc (.cells #[.bool ng, .slice ld n c] 48)) w.heap.size 48 [.bool ng, .slice (some ⟨b, 0, none⟩) n (n + 1)] := (Cel.made _ _ _ _ rfl : Cel (w.alloc (.cells #[.bool ng, .slice (some ⟨b, 0, none⟩) n (n + 1)] 48)) w.heap.size 48 [.bool ng, .slice (some ⟨b, 0, none⟩) n (n + 1)]).next ((Below.refl _ _).alloc (Nat.le_refl _) _)
  have k1 : Cel ((w.alloc (.cells #[.bool ng, .slice (some ⟨b, 0, none⟩) n (n + 1)] 48)).alloc (.cells #[.bool ng, .slice ld n c] 48)) (w.heap.size + 1) 48 [.bool ng, .slice ld n c] := Cel.made _ _ _ _ (by simp)
  have HS := Lib.hid (num_left b ld n c xs _ (ht.below b2 (Nat.le_refl _)) (hl.below b2 (Nat.le_refl _)) hn)
  have c0 := k0.cell 0 _ rfl
  have c1 := k0.cell 1 _ rfl
  have d0 := k1.cell 0 _ rfl
  have d1 := k1.cell 1 _ rfl
  clear ht hl b1 k0 k1
  go_enter Tryd.func47, Tryd.ntmps47
  go_wp2_with fail
  refine (HS.out).mono ?_
  rintro e w' ⟨rfl, q, rfl⟩
  go_wp2
  go_ret
  exact ⟨rfl, below_drewN b2 _⟩
end Go.Proofs.YtmnabilgpndjmaaDoor

/- How great the whole number of a pattern may be. -/
namespace Go.Proofs.YtmnabilgpndjmaaDoor

theorem intV_bd {W : Nat} (hW : Wide W) (x : Int) : 0 ≤ intV W x ∧ intV W x < 4294967296 ^ (2 + 4097) := by
  have hM := pM_bd hW x
  have hE := pE_bd hW x
  unfold intV
  split
  · obtain ⟨-, -, s3, s4⟩ := shl_fits (pM W x) 2 (if 0 ≤ pE W x then pE W x else 0) hM.1 (Int.lt_of_lt_of_le hM.2 (by decide)) (by omega) (by split <;> omega)
    have e : (if 0 ≤ pE W x then pE W x else 0).toNat = (pE W x).toNat := by split <;> omega
    rw [e] at s3 s4
    exact ⟨s3, s4⟩
  · exact ⟨Int.le_refl _, Int.pow_pos (by omega)⟩
theorem intN_bd {W : Nat} (hW : Wide W) (x : Int) : ((intN W x).natAbs : Int) < 4294967296 ^ (2 + 4097) := by
  have h := intV_bd hW x
  have e : ((intN W x).natAbs : Int) = intV W x := by
    have h0 := h.1
    clear h
    unfold intN
    split <;> omega
  rw [e]
  exact h.2
end Go.Proofs.YtmnabilgpndjmaaDoor

/- Printed by law4.py. -/
namespace Go.Proofs.YtmnabilgpndjmaaDoor
open Go.RowKit

theorem lparts_0 (w0 : Int) (hw : 0 ≤ w0 ∧ w0 < 256) (hc : w0 % 4 = 0) (w : World) (hS : Shapes w) (hT : Tab w) (x : Int) (hx : 0 ≤ x ∧ x < 2 ^ 16) :
    Calls Tryd.prog 27 #[.int .u8 w0, .int .u64 x] w (fun e w' => e = .returned (.tuple #[.bool (pNeg 16 x), .int .u64 (pM 16 x), .int .i64 (pE 16 x), .bool (pOk 16 x)]) ∧ Below w.heap.size w w') := by
  have hc2 := tmod4 hw hc
  rw [show (2 : Int) ^ 16 = 65536 from by decide] at hx
  have H := Lib.hid (parts_16 w hS hT x hx)
  have W1 : IntKind.u16.wrap x = x := by rw [IntKind.wrap_u16]; omega
  have V1 : x % 65536 = x := by omega
  go_enter Tryd.func27, Tryd.ntmps27
  go_wp2_with fail
  refine (H.out).mono ?_
  rintro e w1 ⟨rfl, b1⟩
  go_wp2
  ((try simp only [Exit.inBlock, Exit.then]); refine bodyPost_ret (results_tmp4 rfl _ _ _) rfl ?_)
  exact ⟨rfl, b1⟩

theorem lparts_1 (w0 : Int) (hw : 0 ≤ w0 ∧ w0 < 256) (hc : w0 % 4 = 1) (w : World) (hS : Shapes w) (hT : Tab w) (x : Int) (hx : 0 ≤ x ∧ x < 2 ^ 32) :
    Calls Tryd.prog 27 #[.int .u8 w0, .int .u64 x] w (fun e w' => e = .returned (.tuple #[.bool (pNeg 32 x), .int .u64 (pM 32 x), .int .i64 (pE 32 x), .bool (pOk 32 x)]) ∧ Below w.heap.size w w') := by
  have hc2 := tmod4 hw hc
  rw [show (2 : Int) ^ 32 = 4294967296 from by decide] at hx
  have H := Lib.hid (parts_32 w hS hT x hx)
  have W1 : IntKind.u32.wrap x = x := by rw [IntKind.wrap_u32]; omega
  have V1 : x % 4294967296 = x := by omega
  go_enter Tryd.func27, Tryd.ntmps27
  go_wp2_with fail
  refine (H.out).mono ?_
  rintro e w1 ⟨rfl, b1⟩
  go_wp2
  ((try simp only [Exit.inBlock, Exit.then]); refine bodyPost_ret (results_tmp4 rfl _ _ _) rfl ?_)
  exact ⟨rfl, b1⟩

theorem lparts_2 (w0 : Int) (hw : 0 ≤ w0 ∧ w0 < 256) (hc : w0 % 4 = 2) (w : World) (hS : Shapes w) (hT : Tab w) (x : Int) (hx : 0 ≤ x ∧ x < 2 ^ 64) :
    Calls Tryd.prog 27 #[.int .u8 w0, .int .u64 x] w (fun e w' => e = .returned (.tuple #[.bool (pNeg 64 x), .int .u64 (pM 64 x), .int .i64 (pE 64 x), .bool (pOk 64 x)]) ∧ Below w.heap.size w w') := by
  have hc2 := tmod4 hw hc
  rw [show (2 : Int) ^ 64 = 18446744073709551616 from by decide] at hx
  have H := Lib.hid (parts_64 w hS hT x hx)
  go_enter Tryd.func27, Tryd.ntmps27
  go_wp2_with fail
  refine (H.out).mono ?_
  rintro e w1 ⟨rfl, b1⟩
  go_wp2
  ((try simp only [Exit.inBlock, Exit.then]); refine bodyPost_ret (results_tmp4 rfl _ _ _) rfl ?_)
  exact ⟨rfl, b1⟩

theorem lparts_3 (w0 : Int) (hw : 0 ≤ w0 ∧ w0 < 256) (hc : w0 % 4 = 3) (w : World) (hS : Shapes w) (hT : Tab w) (x : Int) (hx : 0 ≤ x ∧ x < 2 ^ 32) :
    Calls Tryd.prog 27 #[.int .u8 w0, .int .u64 x] w (fun e w' => e = .returned (.tuple #[.bool (pNeg 32 x), .int .u64 (pM 32 x), .int .i64 (pE 32 x), .bool (pOk 32 x)]) ∧ Below w.heap.size w w') := by
  have hc2 := tmod4 hw hc
  rw [show (2 : Int) ^ 32 = 4294967296 from by decide] at hx
  have H := Lib.hid (parts_Own w hS hT x hx)
  have W1 : IntKind.u32.wrap x = x := by rw [IntKind.wrap_u32]; omega
  have V1 : x % 4294967296 = x := by omega
  go_enter Tryd.func27, Tryd.ntmps27
  go_wp2_with fail
  refine (H.out).mono ?_
  rintro e w1 ⟨rfl, b1⟩
  go_wp2
  ((try simp only [Exit.inBlock, Exit.then]); refine bodyPost_ret (results_tmp4 rfl _ _ _) rfl ?_)
  exact ⟨rfl, b1⟩

theorem lparts_calls (w0 : Int) (hw : 0 ≤ w0 ∧ w0 < 256) (w : World) (hS : Shapes w) (hT : Tab w) (x : Int) (hx : 0 ≤ x ∧ x < 2 ^ wd w0) :
    Calls Tryd.prog 27 #[.int .u8 w0, .int .u64 x] w (fun e w' => e = .returned (.tuple #[.bool (pNeg (wd w0) x), .int .u64 (pM (wd w0) x), .int .i64 (pE (wd w0) x), .bool (pOk (wd w0) x)]) ∧ Below w.heap.size w w') := by
  rcases (show w0 % 4 = 0 ∨ w0 % 4 = 1 ∨ w0 % 4 = 2 ∨ w0 % 4 = 3 by omega) with hc | hc | hc | hc
  · simp only [wd_0 hc] at *
    exact lparts_0 w0 hw hc w hS hT x hx
  · simp only [wd_1 hc] at *
    exact lparts_1 w0 hw hc w hS hT x hx
  · simp only [wd_2 hc] at *
    exact lparts_2 w0 hw hc w hS hT x hx
  · simp only [wd_3 hc] at *
    exact lparts_3 w0 hw hc w hS hT x hx
end Go.Proofs.YtmnabilgpndjmaaDoor

/- Printed by law4.py. -/
namespace Go.Proofs.YtmnabilgpndjmaaDoor
open Go.RowKit

theorem lclass_0 (w0 : Int) (hw : 0 ≤ w0 ∧ w0 < 256) (hc : w0 % 4 = 0) (w : World) (hS : Shapes w) (x : Int) (hx : 0 ≤ x ∧ x < 2 ^ 16) :
    Calls Tryd.prog 29 #[.int .u8 w0, .int .u64 x] w (fun e w' => e = .returned (.int .i8 (clsW 16 x)) ∧ Below w.heap.size w w') := by
  have hc2 := tmod4 hw hc
  rw [show (2 : Int) ^ 16 = 65536 from by decide] at hx
  have H := Lib.hid (class_16 w hS x hx)
  have W1 : IntKind.u16.wrap x = x := by rw [IntKind.wrap_u16]; omega
  have V1 : x % 65536 = x := by omega
  go_enter Tryd.func29, Tryd.ntmps29
  go_wp2_with fail
  refine (H.out).mono ?_
  rintro e w1 ⟨rfl, b1⟩
  go_wp2
  go_ret
  exact ⟨rfl, b1⟩

theorem lclass_1 (w0 : Int) (hw : 0 ≤ w0 ∧ w0 < 256) (hc : w0 % 4 = 1) (w : World) (hS : Shapes w) (x : Int) (hx : 0 ≤ x ∧ x < 2 ^ 32) :
    Calls Tryd.prog 29 #[.int .u8 w0, .int .u64 x] w (fun e w' => e = .returned (.int .i8 (clsW 32 x)) ∧ Below w.heap.size w w') := by
  have hc2 := tmod4 hw hc
  rw [show (2 : Int) ^ 32 = 4294967296 from by decide] at hx
  have H := Lib.hid (class_32 w hS x hx)
  have W1 : IntKind.u32.wrap x = x := by rw [IntKind.wrap_u32]; omega
  have V1 : x % 4294967296 = x := by omega
  go_enter Tryd.func29, Tryd.ntmps29
  go_wp2_with fail
  refine (H.out).mono ?_
  rintro e w1 ⟨rfl, b1⟩
  go_wp2
  go_ret
  exact ⟨rfl, b1⟩

theorem lclass_2 (w0 : Int) (hw : 0 ≤ w0 ∧ w0 < 256) (hc : w0 % 4 = 2) (w : World) (hS : Shapes w) (x : Int) (hx : 0 ≤ x ∧ x < 2 ^ 64) :
    Calls Tryd.prog 29 #[.int .u8 w0, .int .u64 x] w (fun e w' => e = .returned (.int .i8 (clsW 64 x)) ∧ Below w.heap.size w w') := by
  have hc2 := tmod4 hw hc
  rw [show (2 : Int) ^ 64 = 18446744073709551616 from by decide] at hx
  have H := Lib.hid (class_64 w hS x hx)
  go_enter Tryd.func29, Tryd.ntmps29
  go_wp2_with fail
  refine (H.out).mono ?_
  rintro e w1 ⟨rfl, b1⟩
  go_wp2
  go_ret
  exact ⟨rfl, b1⟩

theorem lclass_3 (w0 : Int) (hw : 0 ≤ w0 ∧ w0 < 256) (hc : w0 % 4 = 3) (w : World) (hS : Shapes w) (x : Int) (hx : 0 ≤ x ∧ x < 2 ^ 32) :
    Calls Tryd.prog 29 #[.int .u8 w0, .int .u64 x] w (fun e w' => e = .returned (.int .i8 (clsW 32 x)) ∧ Below w.heap.size w w') := by
  have hc2 := tmod4 hw hc
  rw [show (2 : Int) ^ 32 = 4294967296 from by decide] at hx
  have H := Lib.hid (class_Own w hS x hx)
  have W1 : IntKind.u32.wrap x = x := by rw [IntKind.wrap_u32]; omega
  have V1 : x % 4294967296 = x := by omega
  go_enter Tryd.func29, Tryd.ntmps29
  go_wp2_with fail
  refine (H.out).mono ?_
  rintro e w1 ⟨rfl, b1⟩
  go_wp2
  go_ret
  exact ⟨rfl, b1⟩

theorem lclass_calls (w0 : Int) (hw : 0 ≤ w0 ∧ w0 < 256) (w : World) (hS : Shapes w) (x : Int) (hx : 0 ≤ x ∧ x < 2 ^ wd w0) :
    Calls Tryd.prog 29 #[.int .u8 w0, .int .u64 x] w (fun e w' => e = .returned (.int .i8 (clsW (wd w0) x)) ∧ Below w.heap.size w w') := by
  rcases (show w0 % 4 = 0 ∨ w0 % 4 = 1 ∨ w0 % 4 = 2 ∨ w0 % 4 = 3 by omega) with hc | hc | hc | hc
  · simp only [wd_0 hc] at *
    exact lclass_0 w0 hw hc w hS x hx
  · simp only [wd_1 hc] at *
    exact lclass_1 w0 hw hc w hS x hx
  · simp only [wd_2 hc] at *
    exact lclass_2 w0 hw hc w hS x hx
  · simp only [wd_3 hc] at *
    exact lclass_3 w0 hw hc w hS x hx
end Go.Proofs.YtmnabilgpndjmaaDoor

/- Printed by ieee3.py. -/
namespace Go.Proofs.YtmnabilgpndjmaaDoor
open Go.RowKit

theorem iint_16 (w : World) (hS : Shapes w) (hT : Tab w) (x : Int) (hx : 0 ≤ x ∧ x < 65536) : Calls Tryd.prog 88 #[.int .u16 x] w (RetIntB (intN 16 x) (intOk 16 x) w) := by
  have b0 : Below w.heap.size w (w.alloc (.cells #[.bool false, .slice none 0 0] 48)) := (Below.refl _ _).alloc (Nat.le_refl _) _
  have k0 : Cel (w.alloc (.cells #[.bool false, .slice none 0 0] 48)) w.heap.size 48 [.bool false, .slice none 0 0] := Cel.made _ _ _ _ rfl
  have HP := Lib.hid (parts_16 _ (hS.below b0 (Nat.le_refl _)) (hT.below b0 (Nat.le_refl _)) x hx)
  have hM := pM_bd (W := 16) (by unfold Wide; omega) x
  have hE := pE_bd (W := 16) (by unfold Wide; omega) x
  have H1 := Lib.hid (show intOk 16 x = (pOk 16 x && decide (0 ≤ pE 16 x)) from rfl)
  have H2 := Lib.hid (show intV 16 x = if intOk 16 x then pM 16 x * 2 ^ (pE 16 x).toNat else 0 from rfl)
  have H3 := Lib.hid (show intN 16 x = if pNeg 16 x then -intV 16 x else intV 16 x from rfl)
  generalize intOk 16 x = ok at *
  generalize intN 16 x = N at *
  generalize intV 16 x = V at *
  generalize pNeg 16 x = ng at *
  generalize pM 16 x = m at *
  generalize pE 16 x = p at *
  generalize pOk 16 x = fin at *
  cases fin
  · have HK := Lib.hid (show ok = false from H1.out)
    have HV := Lib.hid (show N = 0 by rw [H3.out, H2.out, HK.out]; cases ng <;> rfl)
    clear H1 H2 H3
    go_enter Tryd.func88, Tryd.ntmps88
    go_wp2_with fail
    refine (HP.out).mono ?_
    rintro e w1 ⟨rfl, b1⟩
    have k1 := k0.next b1
    have b2 := below_trans b0 b1
    have c0 := k1.cell 0 _ rfl
    have c1 := k1.cell 1 _ rfl
    have g0 := k1.free 0
    have g1 := k1.free 1
    go_wp2
    refine bodyPost_ret (results_row_tmp rfl _ _ w.heap.size 48 #[.bool false, .slice none 0 0] (0, 0) _ rfl ((k1.set 0 _).set 1 _).row Tryd.underlying48 rfl size_int) rfl ?_
    rw [HV.out, HK.out]
    refine ⟨none, 0, 0, rfl, ⟨Nat.le_refl _, by rw [show ((0 : Int).natAbs : Int) = 0 from rfl, dg_zero]; exact Rds.nil _ _ _⟩, ?_⟩
    exact below_set (below_set b2 _ _ _ (Nat.le_refl _)) _ _ _ (Nat.le_refl _)
  · by_cases hp0 : p < 0
    · have HK := Lib.hid (show ok = false by rw [H1.out, decide_eq_false (by omega)]; rfl)
      have HV := Lib.hid (show N = 0 by rw [H3.out, H2.out, HK.out]; cases ng <;> rfl)
      clear H1 H2 H3
      go_enter Tryd.func88, Tryd.ntmps88
      go_wp2_with fail
      refine (HP.out).mono ?_
      rintro e w1 ⟨rfl, b1⟩
      have k1 := k0.next b1
      have b2 := below_trans b0 b1
      have c0 := k1.cell 0 _ rfl
      have c1 := k1.cell 1 _ rfl
      have g0 := k1.free 0
      have g1 := k1.free 1
      go_wp2
      refine bodyPost_ret (results_row_tmp rfl _ _ w.heap.size 48 #[.bool false, .slice none 0 0] (0, 0) _ rfl ((k1.set 0 _).set 1 _).row Tryd.underlying48 rfl size_int) rfl ?_
      rw [HV.out, HK.out]
      refine ⟨none, 0, 0, rfl, ⟨Nat.le_refl _, by rw [show ((0 : Int).natAbs : Int) = 0 from rfl, dg_zero]; exact Rds.nil _ _ _⟩, ?_⟩
      exact below_set (below_set b2 _ _ _ (Nat.le_refl _)) _ _ _ (Nat.le_refl _)
    · have HK := Lib.hid (show ok = true by rw [H1.out, decide_eq_true (by omega)]; rfl)
      have HV := Lib.hid (show V = m * 2 ^ p.toNat by rw [H2.out, HK.out]; rfl)
      have HN := Lib.hid (show N = sI ng V from H3.out)
      obtain ⟨s1, s2, s3, s4⟩ := shl_fits m 2 p hM.1 (Int.lt_of_lt_of_le hM.2 (by decide)) (by omega) (by omega)
      rw [← HV.out] at s2 s3 s4
      have S := Lib.hid s4
      have S2 := Lib.hid s2
      have S1 := Lib.hid s1
      clear H1 H2 H3 s4 s2 s1
      go_enter Tryd.func88, Tryd.ntmps88
      go_wp2_with fail
      refine (HP.out).mono ?_
      rintro e w1 ⟨rfl, b1⟩
      have k1 := k0.next b1
      have b2 := below_trans b0 b1
      have F1 := Lib.hid ((from_calls m w1 hM.1 (by omega)).mono fun e w' q => q.can)
      go_wp2_with fail
      refine (F1.out).mono ?_
      rintro e w2 ⟨ad2, n2, d2, rfl, f2, b3⟩
      have l2 := f2.len_le 2 (Int.lt_of_lt_of_le hM.2 (by decide))
      have H := num_shl ad2 n2 d2 m p w2 (f2.num hM.1) (by omega) (by omega)
      rw [S1.out, S2.out] at H
      have F2 := Lib.hid H
      clear H
      go_wp2_with fail
      refine (F2.out).mono ?_
      rintro e w3 ⟨ad3, n3, d3, rfl, f3, b4⟩
      have l3 := f3.len_le _ S.out
      have F3 := Lib.hid (wnorm_calls ng ad3 n3 d3 V w3 (f3.num s3) (by omega))
      rw [← HN.out] at F3
      go_wp2_with fail
      refine (F3.out).mono ?_
      rintro e w4 ⟨ad4, n4, d4, rfl, f4, b5⟩
      have k4 := ((k1.next b3).next b4).next b5
      have b6 := below_trans b2 (below_trans b3 (below_trans b4 b5))
      have c0 := k4.cell 0 _ rfl
      have c1 := k4.cell 1 _ rfl
      have g0 := k4.free 0
      have g1 := k4.free 1
      go_wp2
      refine bodyPost_ret (results_row_tmp rfl _ _ w.heap.size 48 #[.bool (decide (N < 0)), .slice ad4 n4 d4] (0, 0) _ rfl ((k4.set 0 _).set 1 _).row Tryd.underlying48 rfl size_int) rfl ?_
      rw [HK.out]
      exact ⟨_, _, _, rfl, f4.poke2 k4 _ _, below_set (below_set b6 _ _ _ (Nat.le_refl _)) _ _ _ (Nat.le_refl _)⟩
end Go.Proofs.YtmnabilgpndjmaaDoor

/- Printed by ieee3.py. -/
namespace Go.Proofs.YtmnabilgpndjmaaDoor
open Go.RowKit

theorem iint_32 (w : World) (hS : Shapes w) (hT : Tab w) (x : Int) (hx : 0 ≤ x ∧ x < 4294967296) : Calls Tryd.prog 91 #[.int .u32 x] w (RetIntB (intN 32 x) (intOk 32 x) w) := by
  have b0 : Below w.heap.size w (w.alloc (.cells #[.bool false, .slice none 0 0] 48)) := (Below.refl _ _).alloc (Nat.le_refl _) _
  have k0 : Cel (w.alloc (.cells #[.bool false, .slice none 0 0] 48)) w.heap.size 48 [.bool false, .slice none 0 0] := Cel.made _ _ _ _ rfl
  have HP := Lib.hid (parts_32 _ (hS.below b0 (Nat.le_refl _)) (hT.below b0 (Nat.le_refl _)) x hx)
  have hM := pM_bd (W := 32) (by unfold Wide; omega) x
  have hE := pE_bd (W := 32) (by unfold Wide; omega) x
  have H1 := Lib.hid (show intOk 32 x = (pOk 32 x && decide (0 ≤ pE 32 x)) from rfl)
  have H2 := Lib.hid (show intV 32 x = if intOk 32 x then pM 32 x * 2 ^ (pE 32 x).toNat else 0 from rfl)
  have H3 := Lib.hid (show intN 32 x = if pNeg 32 x then -intV 32 x else intV 32 x from rfl)
  generalize intOk 32 x = ok at *
  generalize intN 32 x = N at *
  generalize intV 32 x = V at *
  generalize pNeg 32 x = ng at *
  generalize pM 32 x = m at *
  generalize pE 32 x = p at *
  generalize pOk 32 x = fin at *
  cases fin
  · have HK := Lib.hid (show ok = false from H1.out)
    have HV := Lib.hid (show N = 0 by rw [H3.out, H2.out, HK.out]; cases ng <;> rfl)
    clear H1 H2 H3
    go_enter Tryd.func91, Tryd.ntmps91
    go_wp2_with fail
    refine (HP.out).mono ?_
    rintro e w1 ⟨rfl, b1⟩
    have k1 := k0.next b1
    have b2 := below_trans b0 b1
    have c0 := k1.cell 0 _ rfl
    have c1 := k1.cell 1 _ rfl
    have g0 := k1.free 0
    have g1 := k1.free 1
    go_wp2
    refine bodyPost_ret (results_row_tmp rfl _ _ w.heap.size 48 #[.bool false, .slice none 0 0] (0, 0) _ rfl ((k1.set 0 _).set 1 _).row Tryd.underlying48 rfl size_int) rfl ?_
    rw [HV.out, HK.out]
    refine ⟨none, 0, 0, rfl, ⟨Nat.le_refl _, by rw [show ((0 : Int).natAbs : Int) = 0 from rfl, dg_zero]; exact Rds.nil _ _ _⟩, ?_⟩
    exact below_set (below_set b2 _ _ _ (Nat.le_refl _)) _ _ _ (Nat.le_refl _)
  · by_cases hp0 : p < 0
    · have HK := Lib.hid (show ok = false by rw [H1.out, decide_eq_false (by omega)]; rfl)
      have HV := Lib.hid (show N = 0 by rw [H3.out, H2.out, HK.out]; cases ng <;> rfl)
      clear H1 H2 H3
      go_enter Tryd.func91, Tryd.ntmps91
      go_wp2_with fail
      refine (HP.out).mono ?_
      rintro e w1 ⟨rfl, b1⟩
      have k1 := k0.next b1
      have b2 := below_trans b0 b1
      have c0 := k1.cell 0 _ rfl
      have c1 := k1.cell 1 _ rfl
      have g0 := k1.free 0
      have g1 := k1.free 1
      go_wp2
      refine bodyPost_ret (results_row_tmp rfl _ _ w.heap.size 48 #[.bool false, .slice none 0 0] (0, 0) _ rfl ((k1.set 0 _).set 1 _).row Tryd.underlying48 rfl size_int) rfl ?_
      rw [HV.out, HK.out]
      refine ⟨none, 0, 0, rfl, ⟨Nat.le_refl _, by rw [show ((0 : Int).natAbs : Int) = 0 from rfl, dg_zero]; exact Rds.nil _ _ _⟩, ?_⟩
      exact below_set (below_set b2 _ _ _ (Nat.le_refl _)) _ _ _ (Nat.le_refl _)
    · have HK := Lib.hid (show ok = true by rw [H1.out, decide_eq_true (by omega)]; rfl)
      have HV := Lib.hid (show V = m * 2 ^ p.toNat by rw [H2.out, HK.out]; rfl)
      have HN := Lib.hid (show N = sI ng V from H3.out)
      obtain ⟨s1, s2, s3, s4⟩ := shl_fits m 2 p hM.1 (Int.lt_of_lt_of_le hM.2 (by decide)) (by omega) (by omega)
      rw [← HV.out] at s2 s3 s4
      have S := Lib.hid s4
      have S2 := Lib.hid s2
      have S1 := Lib.hid s1
      clear H1 H2 H3 s4 s2 s1
      go_enter Tryd.func91, Tryd.ntmps91
      go_wp2_with fail
      refine (HP.out).mono ?_
      rintro e w1 ⟨rfl, b1⟩
      have k1 := k0.next b1
      have b2 := below_trans b0 b1
      have F1 := Lib.hid ((from_calls m w1 hM.1 (by omega)).mono fun e w' q => q.can)
      go_wp2_with fail
      refine (F1.out).mono ?_
      rintro e w2 ⟨ad2, n2, d2, rfl, f2, b3⟩
      have l2 := f2.len_le 2 (Int.lt_of_lt_of_le hM.2 (by decide))
      have H := num_shl ad2 n2 d2 m p w2 (f2.num hM.1) (by omega) (by omega)
      rw [S1.out, S2.out] at H
      have F2 := Lib.hid H
      clear H
      go_wp2_with fail
      refine (F2.out).mono ?_
      rintro e w3 ⟨ad3, n3, d3, rfl, f3, b4⟩
      have l3 := f3.len_le _ S.out
      have F3 := Lib.hid (wnorm_calls ng ad3 n3 d3 V w3 (f3.num s3) (by omega))
      rw [← HN.out] at F3
      go_wp2_with fail
      refine (F3.out).mono ?_
      rintro e w4 ⟨ad4, n4, d4, rfl, f4, b5⟩
      have k4 := ((k1.next b3).next b4).next b5
      have b6 := below_trans b2 (below_trans b3 (below_trans b4 b5))
      have c0 := k4.cell 0 _ rfl
      have c1 := k4.cell 1 _ rfl
      have g0 := k4.free 0
      have g1 := k4.free 1
      go_wp2
      refine bodyPost_ret (results_row_tmp rfl _ _ w.heap.size 48 #[.bool (decide (N < 0)), .slice ad4 n4 d4] (0, 0) _ rfl ((k4.set 0 _).set 1 _).row Tryd.underlying48 rfl size_int) rfl ?_
      rw [HK.out]
      exact ⟨_, _, _, rfl, f4.poke2 k4 _ _, below_set (below_set b6 _ _ _ (Nat.le_refl _)) _ _ _ (Nat.le_refl _)⟩
end Go.Proofs.YtmnabilgpndjmaaDoor

/- Printed by ieee3.py. -/
namespace Go.Proofs.YtmnabilgpndjmaaDoor
open Go.RowKit

theorem iint_64 (w : World) (hS : Shapes w) (hT : Tab w) (x : Int) (hx : 0 ≤ x ∧ x < 18446744073709551616) : Calls Tryd.prog 89 #[.int .u64 x] w (RetIntB (intN 64 x) (intOk 64 x) w) := by
  have b0 : Below w.heap.size w (w.alloc (.cells #[.bool false, .slice none 0 0] 48)) := (Below.refl _ _).alloc (Nat.le_refl _) _
  have k0 : Cel (w.alloc (.cells #[.bool false, .slice none 0 0] 48)) w.heap.size 48 [.bool false, .slice none 0 0] := Cel.made _ _ _ _ rfl
  have HP := Lib.hid (parts_64 _ (hS.below b0 (Nat.le_refl _)) (hT.below b0 (Nat.le_refl _)) x hx)
  have hM := pM_bd (W := 64) (by unfold Wide; omega) x
  have hE := pE_bd (W := 64) (by unfold Wide; omega) x
  have H1 := Lib.hid (show intOk 64 x = (pOk 64 x && decide (0 ≤ pE 64 x)) from rfl)
  have H2 := Lib.hid (show intV 64 x = if intOk 64 x then pM 64 x * 2 ^ (pE 64 x).toNat else 0 from rfl)
  have H3 := Lib.hid (show intN 64 x = if pNeg 64 x then -intV 64 x else intV 64 x from rfl)
  generalize intOk 64 x = ok at *
  generalize intN 64 x = N at *
  generalize intV 64 x = V at *
  generalize pNeg 64 x = ng at *
  generalize pM 64 x = m at *
  generalize pE 64 x = p at *
  generalize pOk 64 x = fin at *
  cases fin
  · have HK := Lib.hid (show ok = false from H1.out)
    have HV := Lib.hid (show N = 0 by rw [H3.out, H2.out, HK.out]; cases ng <;> rfl)
    clear H1 H2 H3
    go_enter Tryd.func89, Tryd.ntmps89
    go_wp2_with fail
    refine (HP.out).mono ?_
    rintro e w1 ⟨rfl, b1⟩
    have k1 := k0.next b1
    have b2 := below_trans b0 b1
    have c0 := k1.cell 0 _ rfl
    have c1 := k1.cell 1 _ rfl
    have g0 := k1.free 0
    have g1 := k1.free 1
    go_wp2
    refine bodyPost_ret (results_row_tmp rfl _ _ w.heap.size 48 #[.bool false, .slice none 0 0] (0, 0) _ rfl ((k1.set 0 _).set 1 _).row Tryd.underlying48 rfl size_int) rfl ?_
    rw [HV.out, HK.out]
    refine ⟨none, 0, 0, rfl, ⟨Nat.le_refl _, by rw [show ((0 : Int).natAbs : Int) = 0 from rfl, dg_zero]; exact Rds.nil _ _ _⟩, ?_⟩
    exact below_set (below_set b2 _ _ _ (Nat.le_refl _)) _ _ _ (Nat.le_refl _)
  · by_cases hp0 : p < 0
    · have HK := Lib.hid (show ok = false by rw [H1.out, decide_eq_false (by omega)]; rfl)
      have HV := Lib.hid (show N = 0 by rw [H3.out, H2.out, HK.out]; cases ng <;> rfl)
      clear H1 H2 H3
      go_enter Tryd.func89, Tryd.ntmps89
      go_wp2_with fail
      refine (HP.out).mono ?_
      rintro e w1 ⟨rfl, b1⟩
      have k1 := k0.next b1
      have b2 := below_trans b0 b1
      have c0 := k1.cell 0 _ rfl
      have c1 := k1.cell 1 _ rfl
      have g0 := k1.free 0
      have g1 := k1.free 1
      go_wp2
      refine bodyPost_ret (results_row_tmp rfl _ _ w.heap.size 48 #[.bool false, .slice none 0 0] (0, 0) _ rfl ((k1.set 0 _).set 1 _).row Tryd.underlying48 rfl size_int) rfl ?_
      rw [HV.out, HK.out]
      refine ⟨none, 0, 0, rfl, ⟨Nat.le_refl _, by rw [show ((0 : Int).natAbs : Int) = 0 from rfl, dg_zero]; exact Rds.nil _ _ _⟩, ?_⟩
      exact below_set (below_set b2 _ _ _ (Nat.le_refl _)) _ _ _ (Nat.le_refl _)
    · have HK := Lib.hid (show ok = true by rw [H1.out, decide_eq_true (by omega)]; rfl)
      have HV := Lib.hid (show V = m * 2 ^ p.toNat by rw [H2.out, HK.out]; rfl)
      have HN := Lib.hid (show N = sI ng V from H3.out)
      obtain ⟨s1, s2, s3, s4⟩ := shl_fits m 2 p hM.1 (Int.lt_of_lt_of_le hM.2 (by decide)) (by omega) (by omega)
      rw [← HV.out] at s2 s3 s4
      have S := Lib.hid s4
      have S2 := Lib.hid s2
      have S1 := Lib.hid s1
      clear H1 H2 H3 s4 s2 s1
      go_enter Tryd.func89, Tryd.ntmps89
      go_wp2_with fail
      refine (HP.out).mono ?_
      rintro e w1 ⟨rfl, b1⟩
      have k1 := k0.next b1
      have b2 := below_trans b0 b1
      have F1 := Lib.hid ((from_calls m w1 hM.1 (by omega)).mono fun e w' q => q.can)
      go_wp2_with fail
      refine (F1.out).mono ?_
      rintro e w2 ⟨ad2, n2, d2, rfl, f2, b3⟩
      have l2 := f2.len_le 2 (Int.lt_of_lt_of_le hM.2 (by decide))
      have H := num_shl ad2 n2 d2 m p w2 (f2.num hM.1) (by omega) (by omega)
      rw [S1.out, S2.out] at H
      have F2 := Lib.hid H
      clear H
      go_wp2_with fail
      refine (F2.out).mono ?_
      rintro e w3 ⟨ad3, n3, d3, rfl, f3, b4⟩
      have l3 := f3.len_le _ S.out
      have F3 := Lib.hid (wnorm_calls ng ad3 n3 d3 V w3 (f3.num s3) (by omega))
      rw [← HN.out] at F3
      go_wp2_with fail
      refine (F3.out).mono ?_
      rintro e w4 ⟨ad4, n4, d4, rfl, f4, b5⟩
      have k4 := ((k1.next b3).next b4).next b5
      have b6 := below_trans b2 (below_trans b3 (below_trans b4 b5))
      have c0 := k4.cell 0 _ rfl
      have c1 := k4.cell 1 _ rfl
      have g0 := k4.free 0
      have g1 := k4.free 1
      go_wp2
      refine bodyPost_ret (results_row_tmp rfl _ _ w.heap.size 48 #[.bool (decide (N < 0)), .slice ad4 n4 d4] (0, 0) _ rfl ((k4.set 0 _).set 1 _).row Tryd.underlying48 rfl size_int) rfl ?_
      rw [HK.out]
      exact ⟨_, _, _, rfl, f4.poke2 k4 _ _, below_set (below_set b6 _ _ _ (Nat.le_refl _)) _ _ _ (Nat.le_refl _)⟩
end Go.Proofs.YtmnabilgpndjmaaDoor

/- Printed by ieee3.py. -/
namespace Go.Proofs.YtmnabilgpndjmaaDoor
open Go.RowKit

theorem iint_Own (w : World) (hS : Shapes w) (hT : Tab w) (x : Int) (hx : 0 ≤ x ∧ x < 4294967296) : Calls Tryd.prog 90 #[.int .u32 x] w (RetIntB (intN 32 x) (intOk 32 x) w) := by
  have b0 : Below w.heap.size w (w.alloc (.cells #[.bool false, .slice none 0 0] 48)) := (Below.refl _ _).alloc (Nat.le_refl _) _
  have k0 : Cel (w.alloc (.cells #[.bool false, .slice none 0 0] 48)) w.heap.size 48 [.bool false, .slice none 0 0] := Cel.made _ _ _ _ rfl
  have HP := Lib.hid (parts_Own _ (hS.below b0 (Nat.le_refl _)) (hT.below b0 (Nat.le_refl _)) x hx)
  have hM := pM_bd (W := 32) (by unfold Wide; omega) x
  have hE := pE_bd (W := 32) (by unfold Wide; omega) x
  have H1 := Lib.hid (show intOk 32 x = (pOk 32 x && decide (0 ≤ pE 32 x)) from rfl)
  have H2 := Lib.hid (show intV 32 x = if intOk 32 x then pM 32 x * 2 ^ (pE 32 x).toNat else 0 from rfl)
  have H3 := Lib.hid (show intN 32 x = if pNeg 32 x then -intV 32 x else intV 32 x from rfl)
  generalize intOk 32 x = ok at *
  generalize intN 32 x = N at *
  generalize intV 32 x = V at *
  generalize pNeg 32 x = ng at *
  generalize pM 32 x = m at *
  generalize pE 32 x = p at *
  generalize pOk 32 x = fin at *
  cases fin
  · have HK := Lib.hid (show ok = false from H1.out)
    have HV := Lib.hid (show N = 0 by rw [H3.out, H2.out, HK.out]; cases ng <;> rfl)
    clear H1 H2 H3
    go_enter Tryd.func90, Tryd.ntmps90
    go_wp2_with fail
    refine (HP.out).mono ?_
    rintro e w1 ⟨rfl, b1⟩
    have k1 := k0.next b1
    have b2 := below_trans b0 b1
    have c0 := k1.cell 0 _ rfl
    have c1 := k1.cell 1 _ rfl
    have g0 := k1.free 0
    have g1 := k1.free 1
    go_wp2
    refine bodyPost_ret (results_row_tmp rfl _ _ w.heap.size 48 #[.bool false, .slice none 0 0] (0, 0) _ rfl ((k1.set 0 _).set 1 _).row Tryd.underlying48 rfl size_int) rfl ?_
    rw [HV.out, HK.out]
    refine ⟨none, 0, 0, rfl, ⟨Nat.le_refl _, by rw [show ((0 : Int).natAbs : Int) = 0 from rfl, dg_zero]; exact Rds.nil _ _ _⟩, ?_⟩
    exact below_set (below_set b2 _ _ _ (Nat.le_refl _)) _ _ _ (Nat.le_refl _)
  · by_cases hp0 : p < 0
    · have HK := Lib.hid (show ok = false by rw [H1.out, decide_eq_false (by omega)]; rfl)
      have HV := Lib.hid (show N = 0 by rw [H3.out, H2.out, HK.out]; cases ng <;> rfl)
      clear H1 H2 H3
      go_enter Tryd.func90, Tryd.ntmps90
      go_wp2_with fail
      refine (HP.out).mono ?_
      rintro e w1 ⟨rfl, b1⟩
      have k1 := k0.next b1
      have b2 := below_trans b0 b1
      have c0 := k1.cell 0 _ rfl
      have c1 := k1.cell 1 _ rfl
      have g0 := k1.free 0
      have g1 := k1.free 1
      go_wp2
      refine bodyPost_ret (results_row_tmp rfl _ _ w.heap.size 48 #[.bool false, .slice none 0 0] (0, 0) _ rfl ((k1.set 0 _).set 1 _).row Tryd.underlying48 rfl size_int) rfl ?_
      rw [HV.out, HK.out]
      refine ⟨none, 0, 0, rfl, ⟨Nat.le_refl _, by rw [show ((0 : Int).natAbs : Int) = 0 from rfl, dg_zero]; exact Rds.nil _ _ _⟩, ?_⟩
      exact below_set (below_set b2 _ _ _ (Nat.le_refl _)) _ _ _ (Nat.le_refl _)
    · have HK := Lib.hid (show ok = true by rw [H1.out, decide_eq_true (by omega)]; rfl)
      have HV := Lib.hid (show V = m * 2 ^ p.toNat by rw [H2.out, HK.out]; rfl)
      have HN := Lib.hid (show N = sI ng V from H3.out)
      obtain ⟨s1, s2, s3, s4⟩ := shl_fits m 2 p hM.1 (Int.lt_of_lt_of_le hM.2 (by decide)) (by omega) (by omega)
      rw [← HV.out] at s2 s3 s4
      have S := Lib.hid s4
      have S2 := Lib.hid s2
      have S1 := Lib.hid s1
      clear H1 H2 H3 s4 s2 s1
      go_enter Tryd.func90, Tryd.ntmps90
      go_wp2_with fail
      refine (HP.out).mono ?_
      rintro e w1 ⟨rfl, b1⟩
      have k1 := k0.next b1
      have b2 := below_trans b0 b1
      have F1 := Lib.hid ((from_calls m w1 hM.1 (by omega)).mono fun e w' q => q.can)
      go_wp2_with fail
      refine (F1.out).mono ?_
      rintro e w2 ⟨ad2, n2, d2, rfl, f2, b3⟩
      have l2 := f2.len_le 2 (Int.lt_of_lt_of_le hM.2 (by decide))
      have H := num_shl ad2 n2 d2 m p w2 (f2.num hM.1) (by omega) (by omega)
      rw [S1.out, S2.out] at H
      have F2 := Lib.hid H
      clear H
      go_wp2_with fail
      refine (F2.out).mono ?_
      rintro e w3 ⟨ad3, n3, d3, rfl, f3, b4⟩
      have l3 := f3.len_le _ S.out
      have F3 := Lib.hid (wnorm_calls ng ad3 n3 d3 V w3 (f3.num s3) (by omega))
      rw [← HN.out] at F3
      go_wp2_with fail
      refine (F3.out).mono ?_
      rintro e w4 ⟨ad4, n4, d4, rfl, f4, b5⟩
      have k4 := ((k1.next b3).next b4).next b5
      have b6 := below_trans b2 (below_trans b3 (below_trans b4 b5))
      have c0 := k4.cell 0 _ rfl
      have c1 := k4.cell 1 _ rfl
      have g0 := k4.free 0
      have g1 := k4.free 1
      go_wp2
      refine bodyPost_ret (results_row_tmp rfl _ _ w.heap.size 48 #[.bool (decide (N < 0)), .slice ad4 n4 d4] (0, 0) _ rfl ((k4.set 0 _).set 1 _).row Tryd.underlying48 rfl size_int) rfl ?_
      rw [HK.out]
      exact ⟨_, _, _, rfl, f4.poke2 k4 _ _, below_set (below_set b6 _ _ _ (Nat.le_refl _)) _ _ _ (Nat.le_refl _)⟩
end Go.Proofs.YtmnabilgpndjmaaDoor
