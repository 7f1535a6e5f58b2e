/- The law NatSums: its walk out of the contracts of what it calls. (Printed by law.py.) -/
import Derived.Test.YtemllpbpnndgeaaNum
import Derived.Test.YtemllpbpnndgeaaRow
import Derived.Test.YtemllpbpnndgeaaNAdd
import Derived.Test.YtemllpbpnndgeaaNRAdd
import Derived.Test.YtemllpbpnndgeaaNNSub
import Derived.Test.YtemllpbpnndgeaaNRSub
import Derived.Test.YtemllpbpnndgeaaNNCmp
import Derived.Test.YtemllpbpnndgeaaNRCmp
set_option linter.unusedVariables false
set_option linter.unusedSimpArgs false
namespace Go.Proofs.Ytemllpbpnndgeaa
open Go.RowKit


set_option maxHeartbeats 2000000 in
theorem walk_NatSums (w : World) (ada : Option Addr) (na ca : Nat) (xa : List Int) (hnca : na ≤ ca) (hna : na * 4 ≤ 140737488351232) (hra : Rds w .u32 ada na xa) (dxa : Dig 4294967296 xa) (adb : Option Addr) (nb cb : Nat) (xb : List Int) (hncb : nb ≤ cb) (hnb : nb * 4 ≤ 140737488351232) (hrb : Rds w .u32 adb nb xb) (dxb : Dig 4294967296 xb) :
    Calls Try.prog 7 #[.slice ada na ca, .slice adb nb cb] w (LawTrue w) := by
  have hB := Lib.hid (beyond_calls w.heap.size 2 2 [na, nb] (fun j => if j = 0 then (ada, ca) else (adb, cb)) (w.alloc (.cells #[.slice ada na ca, .slice adb nb cb] 23)) rfl (by omega)
    (fun j => by rcases j with _ | _ | j <;> simp <;> omega)
    (fun j hj => by rw [World.cell?_alloc_at _ _ _ _ rfl]; rcases j with _ | _ | j <;> simp; omega))
  go_enter Try.func7, Try.ntmps7
  go_wp2_with fail
  refine (hB.out).mono ?_
  rintro e w' ⟨r, rfl, rfl, hp⟩
  have HP := Lib.hid hp
  clear hp hB
  have b0 : Below w.heap.size w (w.alloc (.cells #[.slice ada na ca, .slice adb nb cb] 23)) := (Below.refl _ _).alloc (Nat.le_refl _) _
  generalize w.alloc (.cells #[.slice ada na ca, .slice adb nb cb] 23) = w0 at *
  cases r
  · have hp : parts [na, nb] ≤ 1048576 := HP.out rfl
    have hnm : na + nb ≤ 1048574 := by simp [parts] at hp; omega
    clear hp HP
    have fa : Arg w0 ada na ca xa := Arg.below ⟨hnca, hra, dxa⟩ b0 (Nat.le_refl _)
    clear hra dxa
    have fb : Arg w0 adb nb cb xb := Arg.below ⟨hncb, hrb, dxb⟩ b0 (Nat.le_refl _)
    clear hrb dxb
    have h := Lib.hid (num_twin ada na ca xa w0 fa (by omega))
    go_wp2_with fail
    refine (h.out).mono ?_
    rintro e w1 ⟨ta, rfl, ga, b⟩
    clear h
    replace fa := fa.below b (Nat.le_refl _)
    replace fb := fb.below b (Nat.le_refl _)
    replace b0 := below_trans b0 b
    clear b
    have h := Lib.hid (num_twin adb nb cb xb w1 fb (by omega))
    go_wp2_with fail
    refine (h.out).mono ?_
    rintro e w2 ⟨tb, rfl, gb, b⟩
    clear h
    replace fa := fa.below b (Nat.le_refl _)
    replace fb := fb.below b (Nat.le_refl _)
    replace ga := ga.below b (Nat.le_refl _)
    replace b0 := below_trans b0 b
    clear b
    have h := Lib.hid (num_sub _ _ _ _ _ _ _ _ w2 ga.num gb.num (by omega) (by omega))
    go_wp2_with fail
    refine (h.out).mono ?_
    rintro e w3 ⟨adp, np, cp, rfl, fp, b⟩
    clear h
    replace fa := fa.below b (Nat.le_refl _)
    replace fb := fb.below b (Nat.le_refl _)
    replace ga := ga.below b (Nat.le_refl _)
    replace gb := gb.below b (Nat.le_refl _)
    replace b0 := below_trans b0 b
    clear b
    have h := Lib.hid (num_rsub _ _ _ _ _ _ _ _ w3 fa.num fb.num (by omega) (by omega))
    go_wp2_with fail
    refine (h.out).mono ?_
    rintro e w4 ⟨adq, nq, cq, rfl, fq, b⟩
    clear h
    replace fa := fa.below b (Nat.le_refl _)
    replace fb := fb.below b (Nat.le_refl _)
    replace ga := ga.below b (Nat.le_refl _)
    replace gb := gb.below b (Nat.le_refl _)
    replace fp := fp.below b (Nat.le_refl _)
    replace b0 := below_trans b0 b
    clear b
    have hS := num_sub _ _ _ _ _ _ _ _ w4 ga.num ga.num (by omega) (by omega)
    rw [Int.sub_self, decide_eq_true (Int.le_refl _)] at hS
    have h := Lib.hid (hS)
    go_wp2_with fail
    refine (h.out).mono ?_
    rintro e w5 ⟨ade, ne, ce, rfl, fe, b⟩
    clear h
    replace fa := fa.below b (Nat.le_refl _)
    replace fb := fb.below b (Nat.le_refl _)
    replace ga := ga.below b (Nat.le_refl _)
    replace gb := gb.below b (Nat.le_refl _)
    replace fp := fp.below b (Nat.le_refl _)
    replace fq := fq.below b (Nat.le_refl _)
    replace b0 := below_trans b0 b
    clear b
    obtain rfl := fe.zero
    clear hS
    clear fe
    have h := Lib.hid (num_cmp _ _ _ _ _ _ _ _ w5 ga.num gb.num (by omega) (by omega))
    go_wp2_with fail
    refine (h.out).mono ?_
    rintro e w' ⟨rfl, q, rfl⟩
    have b := below_drewN (Below.refl w5.heap.size w5) q
    generalize w5.drewN q = w6 at *
    clear h
    replace fa := fa.below b (Nat.le_refl _)
    replace fb := fb.below b (Nat.le_refl _)
    replace ga := ga.below b (Nat.le_refl _)
    replace gb := gb.below b (Nat.le_refl _)
    replace fp := fp.below b (Nat.le_refl _)
    replace fq := fq.below b (Nat.le_refl _)
    replace b0 := below_trans b0 b
    clear b
    have h := Lib.hid (num_rcmp _ _ _ _ _ _ _ _ w6 fa.num fb.num (by omega) (by omega))
    go_wp2_with fail
    refine (h.out).mono ?_
    rintro e w7 ⟨rfl, b⟩
    clear h
    replace fa := fa.below b (Nat.le_refl _)
    replace fb := fb.below b (Nat.le_refl _)
    replace ga := ga.below b (Nat.le_refl _)
    replace gb := gb.below b (Nat.le_refl _)
    replace fp := fp.below b (Nat.le_refl _)
    replace fq := fq.below b (Nat.le_refl _)
    replace b0 := below_trans b0 b
    clear b
    have hC := num_cmp _ _ _ _ _ _ _ _ w7 ga.num ga.num (by omega) (by omega)
    rw [cmpI_eq rfl] at hC
    have h := Lib.hid (hC)
    go_wp2_with fail
    refine (h.out).mono ?_
    rintro e w' ⟨rfl, q, rfl⟩
    have b := below_drewN (Below.refl w7.heap.size w7) q
    generalize w7.drewN q = w8 at *
    clear h
    replace fa := fa.below b (Nat.le_refl _)
    replace fb := fb.below b (Nat.le_refl _)
    replace ga := ga.below b (Nat.le_refl _)
    replace gb := gb.below b (Nat.le_refl _)
    replace fp := fp.below b (Nat.le_refl _)
    replace fq := fq.below b (Nat.le_refl _)
    replace b0 := below_trans b0 b
    clear b
    clear hC
    have h := Lib.hid (num_same_true _ _ _ _ _ _ _ _ w8 fp fq rfl (by have := fp.len_le na (Int.lt_of_le_of_lt (Int.sub_le_self _ fb.nonneg) fa.lt); omega) (by have := fq.len_le na (Int.lt_of_le_of_lt (Int.sub_le_self _ fb.nonneg) fa.lt); omega))
    go_wp2_with fail
    refine (h.out).mono ?_
    rintro e w' ⟨rfl, q, rfl⟩
    have b := below_drewN (Below.refl w8.heap.size w8) q
    generalize w8.drewN q = w9 at *
    clear h
    replace fa := fa.below b (Nat.le_refl _)
    replace fb := fb.below b (Nat.le_refl _)
    replace ga := ga.below b (Nat.le_refl _)
    replace gb := gb.below b (Nat.le_refl _)
    replace fp := fp.below b (Nat.le_refl _)
    replace fq := fq.below b (Nat.le_refl _)
    replace b0 := below_trans b0 b
    clear b
    clear fp fq
    have h := Lib.hid (num_add _ _ _ _ _ _ _ _ w9 ga.num gb.num (by omega) (by omega))
    go_wp2_with fail
    refine (h.out).mono ?_
    rintro e w10 ⟨adp, np, cp, rfl, fp, b⟩
    clear h
    replace fa := fa.below b (Nat.le_refl _)
    replace fb := fb.below b (Nat.le_refl _)
    replace ga := ga.below b (Nat.le_refl _)
    replace gb := gb.below b (Nat.le_refl _)
    replace b0 := below_trans b0 b
    clear b
    have h := Lib.hid (num_radd _ _ _ _ _ _ _ _ w10 fa.num fb.num (by omega) (by omega))
    go_wp2_with fail
    refine (h.out).mono ?_
    rintro e w11 ⟨adq, nq, cq, rfl, fq, b⟩
    clear h
    replace fa := fa.below b (Nat.le_refl _)
    replace fb := fb.below b (Nat.le_refl _)
    replace ga := ga.below b (Nat.le_refl _)
    replace gb := gb.below b (Nat.le_refl _)
    replace fp := fp.below b (Nat.le_refl _)
    replace b0 := below_trans b0 b
    clear b
    have h := Lib.hid (num_same_true _ _ _ _ _ _ _ _ w11 fp fq rfl (by have := fp.len_le (na + nb + 1) (pow_add_lt _ _ _ _ fa.lt fb.lt); omega) (by have := fq.len_le (na + nb + 1) (pow_add_lt _ _ _ _ fa.lt fb.lt); omega))
    go_wp2_with fail
    refine (h.out).mono ?_
    rintro e w' ⟨rfl, q, rfl⟩
    have b := below_drewN (Below.refl w11.heap.size w11) q
    generalize w11.drewN q = w12 at *
    clear h
    replace fa := fa.below b (Nat.le_refl _)
    replace fb := fb.below b (Nat.le_refl _)
    replace ga := ga.below b (Nat.le_refl _)
    replace gb := gb.below b (Nat.le_refl _)
    replace fp := fp.below b (Nat.le_refl _)
    replace fq := fq.below b (Nat.le_refl _)
    replace b0 := below_trans b0 b
    clear b
    clear fp fq
    have h := Lib.hid (num_add _ _ _ _ _ _ _ _ w12 ga.num ga.num (by omega) (by omega))
    go_wp2_with fail
    refine (h.out).mono ?_
    rintro e w13 ⟨adp, np, cp, rfl, fp, b⟩
    clear h
    replace fa := fa.below b (Nat.le_refl _)
    replace fb := fb.below b (Nat.le_refl _)
    replace ga := ga.below b (Nat.le_refl _)
    replace gb := gb.below b (Nat.le_refl _)
    replace b0 := below_trans b0 b
    clear b
    have h := Lib.hid (num_radd _ _ _ _ _ _ _ _ w13 fa.num fa.num (by omega) (by omega))
    go_wp2_with fail
    refine (h.out).mono ?_
    rintro e w14 ⟨adq, nq, cq, rfl, fq, b⟩
    clear h
    replace fa := fa.below b (Nat.le_refl _)
    replace fb := fb.below b (Nat.le_refl _)
    replace ga := ga.below b (Nat.le_refl _)
    replace gb := gb.below b (Nat.le_refl _)
    replace fp := fp.below b (Nat.le_refl _)
    replace b0 := below_trans b0 b
    clear b
    have h := Lib.hid (num_same_true _ _ _ _ _ _ _ _ w14 fp fq rfl (by have := fp.len_le (na + na + 1) (pow_add_lt _ _ _ _ fa.lt fa.lt); omega) (by have := fq.len_le (na + na + 1) (pow_add_lt _ _ _ _ fa.lt fa.lt); omega))
    go_wp2_with fail
    refine (h.out).mono ?_
    rintro e w' ⟨rfl, q, rfl⟩
    have b := below_drewN (Below.refl w14.heap.size w14) q
    generalize w14.drewN q = w15 at *
    clear h
    replace fa := fa.below b (Nat.le_refl _)
    replace fb := fb.below b (Nat.le_refl _)
    replace ga := ga.below b (Nat.le_refl _)
    replace gb := gb.below b (Nat.le_refl _)
    replace fp := fp.below b (Nat.le_refl _)
    replace fq := fq.below b (Nat.le_refl _)
    replace b0 := below_trans b0 b
    clear b
    clear fp fq
    have h := Lib.hid (num_left ta ada na ca xa w15 ga fa (by omega))
    go_wp2_with fail
    refine (h.out).mono ?_
    rintro e w' ⟨rfl, q, rfl⟩
    have b := below_drewN (Below.refl w15.heap.size w15) q
    generalize w15.drewN q = w16 at *
    clear h
    replace fa := fa.below b (Nat.le_refl _)
    replace fb := fb.below b (Nat.le_refl _)
    replace ga := ga.below b (Nat.le_refl _)
    replace gb := gb.below b (Nat.le_refl _)
    replace b0 := below_trans b0 b
    clear b
    have h := Lib.hid (num_left tb adb nb cb xb w16 gb fb (by omega))
    go_wp2_with fail
    refine (h.out).mono ?_
    rintro e w' ⟨rfl, q, rfl⟩
    have b := below_drewN (Below.refl w16.heap.size w16) q
    generalize w16.drewN q = w17 at *
    clear h
    replace fa := fa.below b (Nat.le_refl _)
    replace fb := fb.below b (Nat.le_refl _)
    replace ga := ga.below b (Nat.le_refl _)
    replace gb := gb.below b (Nat.le_refl _)
    replace b0 := below_trans b0 b
    clear b
    go_wp2_with fail
    go_ret
    exact ⟨rfl, b0⟩
  · go_wp2
    go_ret
    exact ⟨rfl, b0⟩
end Go.Proofs.Ytemllpbpnndgeaa
