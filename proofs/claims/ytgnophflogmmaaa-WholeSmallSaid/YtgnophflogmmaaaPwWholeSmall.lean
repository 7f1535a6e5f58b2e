/- The law WholeSmall: its walk. -/
import Derived.Deep.RegionHeld3
import Derived.Deep.DeepCutAuto
import Derived.Test.YtgnophflogmmaaaPk2
import Derived.Test.YtgnophflogmmaaaPk9
import Derived.Test.YtgnophflogmmaaaPk10
import Derived.Test.YtgnophflogmmaaaPk11
import Derived.Test.YtgnophflogmmaaaPk12
import Derived.Test.YtgnophflogmmaaaPk13
import Derived.Test.YtgnophflogmmaaaPk14
import Derived.Test.YtgnophflogmmaaaPk17
set_option linter.unusedVariables false
set_option linter.unusedSimpArgs false
/- The law WholeSmall: its walk out of the contracts of what it calls. (Printed by law03.py.) -/
namespace Go.Proofs.Ytgnophflogmmaaa
open Go.RowKit


set_option maxRecDepth 20000 in
set_option maxHeartbeats 4000000 in
theorem walk_WholeSmall (w : World) (ngx : Bool) (adx : Option Addr) (nx cx : Nat) (xx : List Int) (fx : Arg w adx nx cx xx) (yx : nx * 4 ≤ 140737488351232) (n : Int) (hn : -9223372036854775808 ≤ n ∧ n < 9223372036854775808) :
    Calls Try.prog 6 #[.agg #[.bool ngx, .slice adx nx cx], .int .i64 n] w (fun e w' => e = .returned (.bool true) ∧ Below w.heap.size w w') := by
  have bel := Below.refl w.heap.size w
  have bz : Below w.heap.size w (w.alloc (.cells #[.bool ngx, .slice adx nx cx] 25)) := (Below.refl _ _).alloc (Nat.le_refl _) _
  replace fx := fx.below bz (Nat.le_refl _)
  replace bel := below_trans bel bz
  clear bz
  have kx : Cel (w.alloc (.cells #[.bool ngx, .slice adx nx cx] 25)) w.heap.size 25 [.bool ngx, .slice adx nx cx] := Cel.made _ _ _ _ (by simp)
  have bz : Below (w.alloc (.cells #[.bool ngx, .slice adx nx cx] 25)).heap.size (w.alloc (.cells #[.bool ngx, .slice adx nx cx] 25)) ((w.alloc (.cells #[.bool ngx, .slice adx nx cx] 25)).alloc (.cells #[.bool ngx, .slice adx nx cx] 25)) := (Below.refl _ _).alloc (Nat.le_refl _) _
  replace kx := kx.next bz
  replace fx := fx.below bz (Nat.le_refl _)
  replace bel := below_trans bel bz
  clear bz
  have hB := Lib.hid (beyondI_calls (w.heap.size + 1) 1 1 [nx] (fun j => (adx, cx)) ((w.alloc (.cells #[.bool ngx, .slice adx nx cx] 25)).alloc (.cells #[.bool ngx, .slice adx nx cx] 25)) rfl (by omega)
    (fun j => by rcases j with _ | j <;> simp <;> omega) (fun j hj => by
      rcases (show j = 0 by omega) with rfl
      all_goals exact World.cell?_alloc_at _ _ _ _ (by simp)))
  go_enter Try.func6, Try.ntmps6
  have ekxa := kx.cell 0 _ rfl
  have ekxb := kx.cell 1 _ rfl
  go_wp2_with fail
  with_reducible refine (hB.out).mono ?_
  rintro e u0 ⟨bey, rfl, b, hbey⟩
  have HBEY := Lib.hid hbey
  clear hbey hB
  clear ekxa ekxb
  replace kx := kx.next b
  replace fx := fx.below b (Nat.le_refl _)
  replace bel := below_trans bel b
  clear b
  cases bey
  rotate_left
  · go_wp2_with fail
    go_ret
    exact ⟨rfl, bel⟩
  have hbey := HBEY.out rfl
  have lx : nx ≤ 1048576 := hbey 0
  clear hbey HBEY
  obtain ⟨V, HV⟩ : ∃ V, Hid (val 4294967296 xx = V) := ⟨_, rfl⟩
  have mx := fx.num
  have zx := fx.nonneg
  rw [HV.out] at mx zx
  have h := Lib.hid (twinInt_calls ngx adx nx cx xx u0 fx (by omega))
  have ekxa := kx.cell 0 _ rfl
  have ekxb := kx.cell 1 _ rfl
  go_wp2_with fail
  with_reducible refine (h.out).mono ?_
  rintro e w1 ⟨tb, rfl, ht, b⟩
  clear h
  clear ekxa ekxb
  replace kx := kx.next b
  replace fx := fx.below b (Nat.le_refl _)
  replace mx := mx.below b (Nat.le_refl _)
  replace bel := below_trans bel b
  clear b
  have TX := Lib.hid (show V < 4294967296 ^ nx by rw [← HV.out]; exact fx.lt)
  have mt := ht.num
  rw [HV.out] at mt
  have bz : Below w1.heap.size w1 (w1.alloc (.cells #[.bool ngx, .slice (some ⟨tb, 0, none⟩) nx (nx + 1)] 25)) := (Below.refl _ _).alloc (Nat.le_refl _) _
  replace kx := kx.next bz
  replace fx := fx.below bz (Nat.le_refl _)
  replace mx := mx.below bz (Nat.le_refl _)
  replace ht := ht.below bz (Nat.le_refl _)
  replace mt := mt.below bz (Nat.le_refl _)
  replace bel := below_trans bel bz
  clear bz
  have kt : Cel (w1.alloc (.cells #[.bool ngx, .slice (some ⟨tb, 0, none⟩) nx (nx + 1)] 25)) w1.heap.size 25 [.bool ngx, .slice (some ⟨tb, 0, none⟩) nx (nx + 1)] := Cel.made _ _ _ _ (by simp)
  have HI := Lib.hid (show ∃ a b : Int, ∃ ok is : Bool, (if okI64 (sI ngx V) then sI ngx V else 0) = a ∧ okI64 (sI ngx V) = ok ∧ (if okU64 (sI ngx V) then sI ngx V else 0) = b ∧ okU64 (sI ngx V) = is from ⟨_, _, _, _, rfl, rfl, rfl, rfl⟩)
  obtain ⟨a, b, ok, is, ha, hok, hb, his⟩ := HI.out
  have HE := Lib.hid (And.intro ha (And.intro hok (And.intro hb his)))
  clear ha hok hb his HI
  have h := Lib.hid (by have h := wint64_calls ngx (some ⟨tb, 0, none⟩) nx (nx + 1) V (w1.alloc (.cells #[.bool ngx, .slice (some ⟨tb, 0, none⟩) nx (nx + 1)] 25)) mt (by omega); rw [HE.out.1, HE.out.2.1] at h; exact h)
  have ekxa := kx.cell 0 _ rfl
  have ekxb := kx.cell 1 _ rfl
  have ekta := kt.cell 0 _ rfl
  have ektb := kt.cell 1 _ rfl
  go_wp2_with fail
  with_reducible refine (h.out).mono ?_
  rintro e w2 ⟨rfl, b⟩
  clear h
  clear ekxa ekxb ekta ektb
  replace kx := kx.next b
  replace kt := kt.next b
  replace fx := fx.below b (Nat.le_refl _)
  replace mx := mx.below b (Nat.le_refl _)
  replace ht := ht.below b (Nat.le_refl _)
  replace mt := mt.below b (Nat.le_refl _)
  replace bel := below_trans bel b
  clear b
  have h := Lib.hid (by have h := wuint64_calls ngx (some ⟨tb, 0, none⟩) nx (nx + 1) V w2 mt (by omega); rw [HE.out.2.2.1, HE.out.2.2.2] at h; exact h)
  have ekxa := kx.cell 0 _ rfl
  have ekxb := kx.cell 1 _ rfl
  have ekta := kt.cell 0 _ rfl
  have ektb := kt.cell 1 _ rfl
  go_wp2_with fail
  with_reducible refine (h.out).mono ?_
  rintro e w3 ⟨rfl, b⟩
  clear h
  clear ekxa ekxb ekta ektb
  replace kx := kx.next b
  replace kt := kt.next b
  replace fx := fx.below b (Nat.le_refl _)
  replace mx := mx.below b (Nat.le_refl _)
  replace ht := ht.below b (Nat.le_refl _)
  replace mt := mt.below b (Nat.le_refl _)
  replace bel := below_trans bel b
  clear b
  have h := Lib.hid (by have h := r3int64_calls ngx adx nx cx V w3 mx (by omega); rw [HE.out.1, HE.out.2.1] at h; exact h)
  have ekxa := kx.cell 0 _ rfl
  have ekxb := kx.cell 1 _ rfl
  have ekta := kt.cell 0 _ rfl
  have ektb := kt.cell 1 _ rfl
  go_wp2_with fail
  with_reducible refine (h.out).mono ?_
  rintro e w4 ⟨rfl, b⟩
  clear h
  clear ekxa ekxb ekta ektb
  replace kx := kx.next b
  replace kt := kt.next b
  replace fx := fx.below b (Nat.le_refl _)
  replace mx := mx.below b (Nat.le_refl _)
  replace ht := ht.below b (Nat.le_refl _)
  replace mt := mt.below b (Nat.le_refl _)
  replace bel := below_trans bel b
  clear b
  have h := Lib.hid (by have h := r3uint64_calls ngx adx nx cx V w4 mx (by omega); rw [HE.out.2.2.1, HE.out.2.2.2] at h; exact h)
  have ekxa := kx.cell 0 _ rfl
  have ekxb := kx.cell 1 _ rfl
  have ekta := kt.cell 0 _ rfl
  have ektb := kt.cell 1 _ rfl
  go_wp2_with fail
  with_reducible refine (h.out).mono ?_
  rintro e w5 ⟨rfl, b⟩
  clear h
  clear ekxa ekxb ekta ektb
  replace kx := kx.next b
  replace kt := kt.next b
  replace fx := fx.below b (Nat.le_refl _)
  replace mx := mx.below b (Nat.le_refl _)
  replace ht := ht.below b (Nat.le_refl _)
  replace mt := mt.below b (Nat.le_refl _)
  replace bel := below_trans bel b
  clear b
  obtain ⟨r, hr⟩ : ∃ r, decide (sI ngx V < 0) = r := ⟨_, rfl⟩
  have hA : V = ((sI ngx V).natAbs : Int) := (sI_abs ngx V zx).symm
  have HR := Lib.hid hr
  have HA := Lib.hid hA
  clear hr hA
  go_wp2_with fail
  skip
  have bd : Below w5.heap.size w5 w5.drew := below_drew (Below.refl _ _)
  have ekxa := kx.cell 0 _ rfl
  have ekxb := kx.cell 1 _ rfl
  have ekta := kt.cell 0 _ rfl
  have ektb := kt.cell 1 _ rfl
  replace kx := kx.next bd
  replace kt := kt.next bd
  replace fx := fx.below bd (Nat.le_refl _)
  replace mx := mx.below bd (Nat.le_refl _)
  replace ht := ht.below bd (Nat.le_refl _)
  replace mt := mt.below bd (Nat.le_refl _)
  replace bel := below_trans bel bd
  have G0 := Lib.hid ((wnorm_calls ngx (some ⟨tb, 0, none⟩) nx (nx + 1) V w5.drew mt (by omega)).mono fun e w' q => q.named HR.out HA.out)
  go_region_held3 (fun w' => w'.cell? ⟨w.heap.size, 0, none⟩ = some (.bool ngx) ∧ w'.cell? ⟨w.heap.size, 1, none⟩ = some (.slice adx nx cx) ∧ w'.cell? ⟨w1.heap.size, 0, none⟩ = some (.bool ngx) ∧ w'.cell? ⟨w1.heap.size, 1, none⟩ = some (.slice (some ⟨tb, 0, none⟩) nx (nx + 1))) (go_keep)
      (first
        | (go_at_call 33
           with_reducible refine (G0.out).mono ?_
           rintro e w6 ⟨ad1, n1, c1, rfl, q1, b⟩
           replace kx := kx.next b
           replace kt := kt.next b
           replace fx := fx.below b (Nat.le_refl _)
           replace mx := mx.below b (Nat.le_refl _)
           replace ht := ht.below b (Nat.le_refl _)
           replace mt := mt.below b (Nat.le_refl _)
           replace bel := below_trans bel b
           clear b
           have ekxa := kx.cell 0 _ rfl
           have ekxb := kx.cell 1 _ rfl
           have ekta := kt.cell 0 _ rfl
           have ektb := kt.cell 1 _ rfl
           have ln1 : n1 ≤ nx + 1 := Nat.le_trans (q1.len_le nx TX.out) (by omega)
           have G1 := Lib.hid ((r3norm_calls ngx adx nx cx V w6 mx (by omega)).mono fun e w' q => q.named HR.out HA.out))
        | (go_at_call 34
           with_reducible refine (G1.out).mono ?_
           rintro e w7 ⟨ad2, n2, c2, rfl, q2, b⟩
           replace kx := kx.next b
           replace kt := kt.next b
           replace fx := fx.below b (Nat.le_refl _)
           replace mx := mx.below b (Nat.le_refl _)
           replace ht := ht.below b (Nat.le_refl _)
           replace mt := mt.below b (Nat.le_refl _)
           replace q1 := q1.below b (Nat.le_refl _)
           replace bel := below_trans bel b
           clear b
           have ekxa := kx.cell 0 _ rfl
           have ekxb := kx.cell 1 _ rfl
           have ekta := kt.cell 0 _ rfl
           have ektb := kt.cell 1 _ rfl
           have ln2 : n2 ≤ nx + 1 := Nat.le_trans (q2.len_le nx TX.out) (by omega)
           have G2 := Lib.hid (by have h := sameInt_calls r r ad1 ad2 n1 n2 c1 c2 V V w7 q1 q2 zx zx (by omega) (by omega); rw [beq_self_eq_true, decide_eq_true (rfl : V = V)] at h; exact h))
        | (go_at_call 18
           with_reducible refine (G2.out).mono ?_
           rintro e w8 ⟨rfl, b⟩
           replace kx := kx.next b
           replace kt := kt.next b
           replace fx := fx.below b (Nat.le_refl _)
           replace mx := mx.below b (Nat.le_refl _)
           replace ht := ht.below b (Nat.le_refl _)
           replace mt := mt.below b (Nat.le_refl _)
           replace q1 := q1.below b (Nat.le_refl _)
           replace q2 := q2.below b (Nat.le_refl _)
           replace bel := below_trans bel b
           clear b
           have ekxa := kx.cell 0 _ rfl
           have ekxb := kx.cell 1 _ rfl
           have ekta := kt.cell 0 _ rfl
           have ektb := kt.cell 1 _ rfl
           have G3 := Lib.hid (leftInt_calls ngx tb adx nx cx xx w8 ht fx (by omega)))
        | (go_at_call 19
           with_reducible refine (G3.out).mono ?_
           rintro e w9 ⟨rfl, b⟩
           replace kx := kx.next b
           replace kt := kt.next b
           replace fx := fx.below b (Nat.le_refl _)
           replace mx := mx.below b (Nat.le_refl _)
           replace ht := ht.below b (Nat.le_refl _)
           replace mt := mt.below b (Nat.le_refl _)
           replace q1 := q1.below b (Nat.le_refl _)
           replace q2 := q2.below b (Nat.le_refl _)
           replace bel := below_trans bel b
           clear b
           have ekxa := kx.cell 0 _ rfl
           have ekxb := kx.cell 1 _ rfl
           have ekta := kt.cell 0 _ rfl
           have ektb := kt.cell 1 _ rfl))
  clear bd G0 G1 G2 G3
  clear ekxa ekxb ekta ektb
  obtain ⟨s, hs⟩ : ∃ s, decide (n < 0) = s := ⟨_, rfl⟩
  obtain ⟨N, hN⟩ : ∃ N, N = (n.natAbs : Int) := ⟨_, rfl⟩
  have HS := Lib.hid hs
  have HN := Lib.hid hN
  have zN : 0 ≤ N := by omega
  have uN : N < 4294967296 ^ 2 := by have : (4294967296 : Int) ^ 2 = 18446744073709551616 := rfl; omega
  have UN := Lib.hid uN
  clear hs hN uN
  have h := Lib.hid ((wfrom_calls n w9 hn).mono fun e w' q => q.named HS.out HN.out)
  have ekxa := kx.cell 0 _ rfl
  have ekxb := kx.cell 1 _ rfl
  have ekta := kt.cell 0 _ rfl
  have ektb := kt.cell 1 _ rfl
  go_wp2_with fail
  with_reducible refine (h.out).mono ?_
  rintro e w10 ⟨ad3, n3, c3, rfl, q3, b⟩
  clear h
  clear ekxa ekxb ekta ektb
  replace kx := kx.next b
  replace kt := kt.next b
  replace fx := fx.below b (Nat.le_refl _)
  replace mx := mx.below b (Nat.le_refl _)
  replace ht := ht.below b (Nat.le_refl _)
  replace mt := mt.below b (Nat.le_refl _)
  replace q1 := q1.below b (Nat.le_refl _)
  replace q2 := q2.below b (Nat.le_refl _)
  replace bel := below_trans bel b
  clear b
  have ln3 : n3 ≤ 2 := q3.len_le 2 UN.out
  have h := Lib.hid ((r3from_calls n w10 hn).mono fun e w' q => q.named HS.out HN.out)
  have ekxa := kx.cell 0 _ rfl
  have ekxb := kx.cell 1 _ rfl
  have ekta := kt.cell 0 _ rfl
  have ektb := kt.cell 1 _ rfl
  go_wp2_with fail
  with_reducible refine (h.out).mono ?_
  rintro e w11 ⟨ad4, n4, c4, rfl, q4, b⟩
  clear h
  clear ekxa ekxb ekta ektb
  replace kx := kx.next b
  replace kt := kt.next b
  replace fx := fx.below b (Nat.le_refl _)
  replace mx := mx.below b (Nat.le_refl _)
  replace ht := ht.below b (Nat.le_refl _)
  replace mt := mt.below b (Nat.le_refl _)
  replace q1 := q1.below b (Nat.le_refl _)
  replace q2 := q2.below b (Nat.le_refl _)
  replace q3 := q3.below b (Nat.le_refl _)
  replace bel := below_trans bel b
  clear b
  have ln4 : n4 ≤ 2 := q4.len_le 2 UN.out
  have h := Lib.hid (by have h := sameInt_calls s s ad3 ad4 n3 n4 c3 c4 N N w11 q3 q4 zN zN (by omega) (by omega); rw [beq_self_eq_true, decide_eq_true (rfl : N = N)] at h; exact h)
  have ekxa := kx.cell 0 _ rfl
  have ekxb := kx.cell 1 _ rfl
  have ekta := kt.cell 0 _ rfl
  have ektb := kt.cell 1 _ rfl
  go_wp2_with fail
  with_reducible refine (h.out).mono ?_
  rintro e w12 ⟨rfl, b⟩
  clear h
  clear ekxa ekxb ekta ektb
  replace kx := kx.next b
  replace kt := kt.next b
  replace fx := fx.below b (Nat.le_refl _)
  replace mx := mx.below b (Nat.le_refl _)
  replace ht := ht.below b (Nat.le_refl _)
  replace mt := mt.below b (Nat.le_refl _)
  replace q1 := q1.below b (Nat.le_refl _)
  replace q2 := q2.below b (Nat.le_refl _)
  replace q3 := q3.below b (Nat.le_refl _)
  replace q4 := q4.below b (Nat.le_refl _)
  replace bel := below_trans bel b
  clear b
  have h := Lib.hid (lives3_calls w12)
  have ekxa := kx.cell 0 _ rfl
  have ekxb := kx.cell 1 _ rfl
  have ekta := kt.cell 0 _ rfl
  have ektb := kt.cell 1 _ rfl
  go_wp2_with fail
  with_reducible refine (h.out).mono ?_
  rintro e w13 ⟨rfl, b⟩
  clear h
  clear ekxa ekxb ekta ektb
  replace kx := kx.next b
  replace kt := kt.next b
  replace fx := fx.below b (Nat.le_refl _)
  replace mx := mx.below b (Nat.le_refl _)
  replace ht := ht.below b (Nat.le_refl _)
  replace mt := mt.below b (Nat.le_refl _)
  replace q1 := q1.below b (Nat.le_refl _)
  replace q2 := q2.below b (Nat.le_refl _)
  replace q3 := q3.below b (Nat.le_refl _)
  replace q4 := q4.below b (Nat.le_refl _)
  replace bel := below_trans bel b
  clear b
  go_wp2_with fail
  go_ret
  exact ⟨rfl, bel⟩
end Go.Proofs.Ytgnophflogmmaaa
