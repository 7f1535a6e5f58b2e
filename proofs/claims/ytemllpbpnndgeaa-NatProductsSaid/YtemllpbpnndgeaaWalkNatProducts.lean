/- The law NatProducts: its walk out of the contracts of what it calls. -/
import Derived.Test.YtemllpbpnndgeaaMul
import Derived.Test.YtemllpbpnndgeaaRMul
import Derived.Test.YtemllpbpnndgeaaLawA
import Derived.Test.YtemllpbpnndgeaaRow
set_option linter.unusedVariables false
set_option linter.unusedSimpArgs false
namespace Go.Proofs.Ytemllpbpnndgeaa
open Go.RowKit

theorem dg_getLen {xs : List Int} {n : Nat} (h : xs.length = n) (hd : Dig 4294967296 xs) : (dg 4294967296 (val 4294967296 xs)).length ≤ n := by
  refine dg_length_le 4294967296 (by omega) _ _ ?_
  have := val_lt (by omega) hd
  rwa [h] at this

set_option maxHeartbeats 1000000 in
theorem walk_NatProducts (w : World) (ad : Option Addr) (n c : Nat) (xs : List Int) (hnc : n ≤ c) (hn : n * 4 ≤ 140737488351232) (hr : Rds w .u32 ad n xs) (dx : Dig 4294967296 xs)
    (bd : Option Addr) (m d : Nat) (zs : List Int) (hmd : m ≤ d) (hm : m * 4 ≤ 140737488351232) (hs : Rds w .u32 bd m zs) (dz : Dig 4294967296 zs) :
    Calls Try.prog 3 #[.slice ad n c, .slice bd m d] w (LawTrue w) := by
  have HX := Lib.hid hr.len
  have HZ := Lib.hid hs.len
  have hB := Lib.hid (beyond_calls w.heap.size 2 2 [n, m] (fun j => if j = 0 then (ad, c) else (bd, d)) (w.alloc (.cells #[.slice ad n c, .slice bd m d] 23)) rfl (by omega)
    (fun j => by rcases j with _ | _ | j <;> simp <;> omega)
    (fun j hj => by rw [World.cell?_alloc_at _ _ _ _ rfl]; rcases j with _ | _ | j <;> simp; omega))
  go_enter Try.func3, Try.ntmps3
  go_wp2_with fail
  refine (hB.out).mono ?_
  rintro e w' ⟨r, rfl, rfl, hp⟩
  have HP := Lib.hid hp
  clear hp hB
  have b0 : Below w.heap.size w (w.alloc (.cells #[.slice ad n c, .slice bd m d] 23)) := (Below.refl _ _).alloc (Nat.le_refl _) _
  generalize w.alloc (.cells #[.slice ad n c, .slice bd m d] 23) = w0 at *
  cases r
  · have hp : parts [n, m] ≤ 1048576 := HP.out rfl
    have hnm : n + m ≤ 1048574 := by simp [parts] at hp; omega
    clear hp HP
    have r0 := hr.below b0 (Nat.le_refl _)
    have s0 := hs.below b0 (Nat.le_refl _)
    have t1 := Lib.hid (twin_calls ad n c xs w0 (by omega) r0)
    go_wp2_with fail
    refine (t1.out).mono ?_
    rintro e w1 ⟨rfl, k1, b1⟩
    rw [HX.out]
    have r1 := r0.below b1 (Nat.le_refl _)
    have s1 := s0.below b1 (Nat.le_refl _)
    have c1 := below_trans b0 b1
    clear r0 s0 t1
    have t2 := Lib.hid (twin_calls bd m d zs w1 (by omega) s1)
    go_wp2_with fail
    refine (t2.out).mono ?_
    rintro e w2 ⟨rfl, k2, b2⟩
    rw [HZ.out]
    have r2 := r1.below b2 (Nat.le_refl _)
    have s2 := s1.below b2 (Nat.le_refl _)
    have c2 := below_trans c1 b2
    have q2 := k1.below b2 (k1.lt)
    clear r1 s1 t2 k1 b1 b2 c1
    -- the products
    have m1 := Lib.hid (mul_calls (some ⟨w0.heap.size, 0, none⟩) (some ⟨w1.heap.size, 0, none⟩) n m (n + 1) (m + 1) xs zs w2 (by omega) (by omega) (by omega) (twin_rds q2 HX.out) (twin_rds k2 HZ.out) dx dz)
    go_wp2_with fail
    refine (m1.out).mono ?_
    rintro e w3 ⟨pd, np, cp, rfl, o3, b3⟩
    have m2 := Lib.hid (rmul_calls ad bd n m c d xs zs w3 (by omega) (r2.below b3 (Nat.le_refl _)) (s2.below b3 (Nat.le_refl _)) dx dz)
    clear m1
    go_wp2_with fail
    refine (m2.out).mono ?_
    rintro e w4 ⟨pd', np', cp', rfl, o4, b4⟩
    have e1 := Lib.hid (same_true pd pd' np np' cp cp' _ _ w4 _ _ _ _ (o3.below b4 (Nat.le_refl _)) o4 rfl)
    clear m2
    go_wp2_with fail
    refine (e1.out).mono ?_
    rintro e w5 ⟨rfl, q, rfl⟩
    have b5 := below_drewN (below_trans b3 b4) q
    clear e1 o3 o4 b3 b4
    have c5 := below_trans c2 b5
    generalize w4.drewN q = w5 at *
    have m1 := Lib.hid (mul_calls (some ⟨w0.heap.size, 0, none⟩) (some ⟨w0.heap.size, 0, none⟩) n n (n + 1) (n + 1) xs xs w5 (by omega) (by omega) (by omega) (twin_rds (q2.below b5 q2.lt) HX.out) (twin_rds (q2.below b5 q2.lt) HX.out) dx dx)
    go_wp2_with fail
    refine (m1.out).mono ?_
    rintro e w6 ⟨pd, np, cp, rfl, o3, b6⟩
    have m2 := Lib.hid (rmul_calls ad ad n n c c xs xs w6 (by omega) (r2.below (below_trans b5 b6) (Nat.le_refl _)) (r2.below (below_trans b5 b6) (Nat.le_refl _)) dx dx)
    clear m1
    go_wp2_with fail
    refine (m2.out).mono ?_
    rintro e w7 ⟨pd', np', cp', rfl, o4, b7⟩
    have e1 := Lib.hid (same_true pd pd' np np' cp cp' _ _ w7 _ _ _ _ (o3.below b7 (Nat.le_refl _)) o4 rfl)
    clear m2
    go_wp2_with fail
    refine (e1.out).mono ?_
    rintro e w8 ⟨rfl, q, rfl⟩
    have b8 := below_drewN (below_trans b5 (below_trans b6 b7)) q
    clear e1 o3 o4 b6 b7 b5 c5
    generalize w7.drewN q = w8 at *
    have l1 := Lib.hid (left_calls w0.heap.size ad n c xs w8 (by omega) (q2.below b8 q2.lt) (r2.below b8 (Nat.le_refl _)))
    go_wp2_with fail
    refine (l1.out).mono ?_
    rintro e w9 ⟨rfl, q, rfl⟩
    have b9 := below_drewN b8 q
    clear l1 b8
    generalize w8.drewN q = w9 at *
    have l1 := Lib.hid (left_calls w1.heap.size bd m d zs w9 (by omega) (k2.below b9 k2.lt) (s2.below b9 (Nat.le_refl _)))
    go_wp2_with fail
    refine (l1.out).mono ?_
    rintro e w10 ⟨rfl, q, rfl⟩
    have c10 := below_drewN (below_trans c2 b9) q
    clear l1
    go_wp2_with fail
    go_ret
    exact ⟨rfl, c10⟩
  · go_wp2
    go_ret
    exact ⟨rfl, b0⟩
end Go.Proofs.Ytemllpbpnndgeaa
