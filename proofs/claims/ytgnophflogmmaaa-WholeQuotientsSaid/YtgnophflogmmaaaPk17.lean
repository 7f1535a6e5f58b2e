/- Contracts of functions, and plain facts, part 17. -/
import Derived.Deep.RegionHeld3
import Derived.Test.YtgnophflogmmaaaPk11
import Derived.Test.YtgnophflogmmaaaPk13
import Derived.Test.YtgnophflogmmaaaPk14
import Derived.Test.YtgnophflogmmaaaPk15
import Derived.Test.YtgnophflogmmaaaPk16
set_option linter.unusedVariables false
set_option linter.unusedSimpArgs false
/- cruciblelaw03.lives. (Printed by lives3.py.) -/
namespace Go.Proofs.Ytgnophflogmmaaa
open Go.RowKit

/-- As RetQuo, signs and sizes by name. -/
def RetQuoR (r1 : Bool) (A1 : Int) (r2 : Bool) (A2 : Int) (ok : Bool) (w : World) (e : Ending) (w' : World) : Prop :=
  ∃ ad n c ad2 n2 c2, e = .returned (.tuple #[.agg #[.bool r1, .slice ad n c], .agg #[.bool r2, .slice ad2 n2 c2], .bool ok]) ∧ Can w' ad n c A1 ∧ Can w' ad2 n2 c2 A2 ∧ Below w.heap.size w w'
theorem RetQuo.named {Q R : Int} {ok : Bool} {r1 r2 : Bool} {A1 A2 : Int} (h1 : decide (Q < 0) = r1) (h2 : (Q.natAbs : Int) = A1) (h3 : decide (R < 0) = r2) (h4 : (R.natAbs : Int) = A2) {w : World} {e : Ending} {w' : World} (h : RetQuo Q R ok w e w') : RetQuoR r1 A1 r2 A2 ok w e w' := by
  obtain ⟨ad, n, c, ad2, n2, c2, e1, q1, q2, q3⟩ := h
  rw [h1, h3] at e1
  rw [h2] at q1
  rw [h4] at q2
  exact ⟨ad, n, c, ad2, n2, c2, e1, q1, q2, q3⟩
def RetIntRB (r : Bool) (A : Int) (ok : Bool) (w : World) (e : Ending) (w' : World) : Prop :=
  ∃ ad n c, e = .returned (.tuple #[.agg #[.bool r, .slice ad n c], .bool ok]) ∧ Can w' ad n c A ∧ Below w.heap.size w w'
theorem RetIntB.named {N : Int} {ok r : Bool} {A : Int} (h1 : decide (N < 0) = r) (h2 : (N.natAbs : Int) = A) {w : World} {e : Ending} {w' : World} (h : RetIntB N ok w e w') : RetIntRB r A ok w e w' := by
  obtain ⟨ad, n, c, e1, q1, q2⟩ := h
  rw [h1] at e1
  rw [h2] at q1
  exact ⟨ad, n, c, e1, q1, q2⟩
theorem dg10 (d : Int) (h : 0 < d ∧ d < 10) : dg 10 d = [d] := by
  rw [dg_pos 10 d (by omega) h.1]
  have e1 : d % ((10 : Nat) : Int) = d := by omega
  have e2 : d / ((10 : Nat) : Int) = 0 := by omega
  rw [e1, e2, dg_zero]
theorem decL_digit (d : Int) (h : 0 < d ∧ d < 10) : decL d = [d + 48] := by
  unfold decL
  rw [if_neg (by omega), dg10 d h]
  rfl
theorem show_lit3 : strB (showL (-3)) = { data := #[45, 51] } := by
  unfold showL
  rw [if_pos (by omega), show ((Int.natAbs (-3) : Nat) : Int) = 3 from rfl, decL_digit 3 (by omega)]
  rfl
theorem show_lit1 : strB (showL (-1)) = { data := #[45, 49] } := by
  unfold showL
  rw [if_pos (by omega), show ((Int.natAbs (-1) : Nat) : Int) = 1 from rfl, decL_digit 1 (by omega)]
  rfl
theorem twos_lit : strB (twosL (-1) 2) = { data := #[255, 255] } ∧ twosOk (-1) 2 = true := by
  have h : twosOk (-1) 2 = true := by decide
  unfold twosL
  rw [h]
  exact ⟨rfl, rfl⟩
theorem wread_lit : wreadNum (bytesI { data := #[45, 53] }) = -5 ∧ wreadOk (bytesI { data := #[45, 53] }) = true := by
  have hb : bytesI { data := #[45, 53] } = [45, 53] := rfl
  rw [hb]
  have hd : dash [45, 53] = true := by decide
  have hv : readV [53] = 5 := by decide
  have hok : readOk [53] = true := by
    unfold readOk
    rw [hv]
    have hl : (dg 4294967296 5).length ≤ 262144 := Nat.le_trans (dg_length_le 4294967296 (by omega) 1 _ (by decide)) (by omega)
    exact decide_eq_true ⟨by simp, by simp, by simp, hl⟩
  unfold wreadNum wreadOk
  rw [hd, if_pos rfl, if_pos rfl, show List.drop 1 [(45 : Int), 53] = [53] from rfl]
  unfold readNum
  rw [hok, if_pos rfl, hv]
  exact ⟨rfl, rfl⟩
/-- A number of one limb. -/
theorem Can.one {w : World} {ad : Option Addr} {n c : Nat} {V : Int} (h : Can w ad n c V) (hV : 0 < V ∧ V < 4294967296) : n = 1 := by
  have h1 := h.len_le 1 (by omega)
  have h2 := h.zero_iff (by omega)
  omega

set_option maxHeartbeats 2000000 in
theorem lives3_calls (w : World) : Calls Try.prog 20 #[] w (fun e w' => e = .returned (.bool true) ∧ Below w.heap.size w w') := by
  have bel := Below.refl w.heap.size w
  go_enter Try.func20, Try.ntmps20
  have h := Lib.hid ((wfrom_calls (-7) w (by omega)).mono fun e w' q => q.named (r := true) (A := 7) (by decide) (by decide))
  go_wp2_with fail
  with_reducible refine (h.out).mono ?_
  rintro e v1 ⟨x1d, x1n, x1c, rfl, x1, b⟩
  clear h
  replace bel := below_trans bel b
  clear b
  obtain rfl := x1.one (by omega)
  have h := Lib.hid ((wfrom_calls (2) v1 (by omega)).mono fun e w' q => q.named (r := false) (A := 2) (by decide) (by decide))
  go_wp2_with fail
  with_reducible refine (h.out).mono ?_
  rintro e v2 ⟨x2d, x2n, x2c, rfl, x2, b⟩
  clear h
  replace x1 := x1.below b (Nat.le_refl _)
  replace bel := below_trans bel b
  clear b
  obtain rfl := x2.one (by omega)
  have h := Lib.hid ((wquo_calls true x1d 1 x1c 7 false x2d 1 x2c 2 v2 (x1.num (by omega)) (by omega) (x2.num (by omega)) (by omega)).mono fun e w' q => RetQuo.named (Q := -3) (R := -1) (ok := true) (r1 := true) (A1 := 3) (r2 := true) (A2 := 1) (by decide) (by decide) (by decide) (by decide) q)
  go_wp2_with fail
  with_reducible refine (h.out).mono ?_
  rintro e v3 ⟨qd, qn, qc, rd, rn, rc, rfl, q, r, b⟩
  clear h
  replace x1 := x1.below b (Nat.le_refl _)
  replace x2 := x2.below b (Nat.le_refl _)
  replace bel := below_trans bel b
  clear b
  clear x1 x2
  obtain rfl := q.one (by omega)
  obtain rfl := r.one (by omega)
  have bz : Below v3.heap.size v3 ((v3.alloc (.cells #[.bool true, .slice qd 1 qc] 25)).alloc (.cells #[.bool true, .slice rd 1 rc] 25)) := below_alloc ((Below.refl _ _).alloc (Nat.le_refl _) _) _
  have k1 : Cel ((v3.alloc (.cells #[.bool true, .slice qd 1 qc] 25)).alloc (.cells #[.bool true, .slice rd 1 rc] 25)) v3.heap.size 25 [.bool true, .slice qd 1 qc] := (Cel.made _ _ _ _ rfl : Cel (v3.alloc (.cells #[.bool true, .slice qd 1 qc] 25)) _ _ _).next ((Below.refl _ _).alloc (Nat.le_refl _) _)
  have k2 : Cel ((v3.alloc (.cells #[.bool true, .slice qd 1 qc] 25)).alloc (.cells #[.bool true, .slice rd 1 rc] 25)) (v3.heap.size + 1) 25 [.bool true, .slice rd 1 rc] := Cel.made _ _ _ _ (by simp)
  have g1 : w.heap.size ≤ v3.heap.size := bel.size
  replace q := q.below bz (Nat.le_refl _)
  replace r := r.below bz (Nat.le_refl _)
  replace bel := below_trans bel bz
  clear bz
  have h := Lib.hid ((wfrom_calls (-1) ((v3.alloc (.cells #[.bool true, .slice qd 1 qc] 25)).alloc (.cells #[.bool true, .slice rd 1 rc] 25)) (by omega)).mono fun e w' q => q.named (r := true) (A := 1) (by decide) (by decide))
  go_wp2_with fail
  with_reducible refine (h.out).mono ?_
  rintro e v4 ⟨x3d, x3n, x3c, rfl, x3, b⟩
  clear h
  replace k1 := k1.next b
  replace k2 := k2.next b
  replace q := q.below b (Nat.le_refl _)
  replace r := r.below b (Nat.le_refl _)
  replace bel := below_trans bel b
  clear b
  obtain rfl := x3.one (by omega)
  have h := Lib.hid (by have h := wtwos_calls true x3d 1 x3c 1 2 v4 (x3.num (by omega)) (by omega); rw [show sI true 1 = -1 from rfl, twos_lit.1, twos_lit.2] at h; exact h)
  go_wp2_with fail
  with_reducible refine (h.out).mono ?_
  rintro e v5 ⟨rfl, b⟩
  clear h
  replace k1 := k1.next b
  replace k2 := k2.next b
  replace q := q.below b (Nat.le_refl _)
  replace r := r.below b (Nat.le_refl _)
  replace x3 := x3.below b (Nat.le_refl _)
  replace bel := below_trans bel b
  clear b
  clear x3
  have h := Lib.hid (by have h := wread_calls { data := #[45, 53] } v5 (by decide); rw [wread_lit.1, wread_lit.2] at h; exact h.mono fun e w' q => RetIntB.named (N := -5) (ok := true) (r := true) (A := 5) (by decide) (by decide) q)
  go_wp2_with fail
  with_reducible refine (h.out).mono ?_
  rintro e v6 ⟨x4d, x4n, x4c, rfl, x4, b⟩
  clear h
  replace k1 := k1.next b
  replace k2 := k2.next b
  replace q := q.below b (Nat.le_refl _)
  replace r := r.below b (Nat.le_refl _)
  replace bel := below_trans bel b
  clear b
  obtain rfl := x4.one (by omega)
  have bz : Below v6.heap.size v6 (v6.alloc (.cells #[.bool true, .slice x4d 1 x4c] 25)) := (Below.refl _ _).alloc (Nat.le_refl _) _
  have k3 : Cel (v6.alloc (.cells #[.bool true, .slice x4d 1 x4c] 25)) v6.heap.size 25 [.bool true, .slice x4d 1 x4c] := Cel.made _ _ _ _ rfl
  replace q := q.below bz (Nat.le_refl _)
  replace r := r.below bz (Nat.le_refl _)
  replace x4 := x4.below bz (Nat.le_refl _)
  replace k1 := k1.next bz
  replace k2 := k2.next bz
  replace bel := below_trans bel bz
  clear bz
  go_wp2_with fail
  generalize (v6.alloc (.cells #[.bool true, .slice x4d 1 x4c] 25)) = u0 at *
  generalize v6.heap.size = gx at *
  generalize v3.heap.size = gq at *
  have ek1a := k1.cell 0 _ rfl
  have ek1b := k1.cell 1 _ rfl
  have ek2a := k2.cell 0 _ rfl
  have ek2b := k2.cell 1 _ rfl
  have ek3a := k3.cell 0 _ rfl
  have ek3b := k3.cell 1 _ rfl
  have bd : Below u0.heap.size u0 u0.drew := below_drew (Below.refl _ _)
  have q0 := q.below bd (Nat.le_refl _)
  have hs1 := (by have h := wshow_calls true qd 1 qc 3 u0.drew (q0.num (by omega)) (by omega); rw [show sI true 3 = -3 from rfl, show_lit3] at h; exact h : Calls Try.prog 23 #[.agg #[.bool true, .slice qd 1 qc]] u0.drew (RetS { data := #[45, 51] } u0.drew))
  have G1 := Lib.hid hs1
  clear hs1
  go_region_held3 (fun w' => w'.cell? ⟨gq, 0, none⟩ = some (.bool true) ∧ w'.cell? ⟨gq, 1, none⟩ = some (.slice qd 1 qc) ∧ w'.cell? ⟨gq + 1, 0, none⟩ = some (.bool true) ∧ w'.cell? ⟨gq + 1, 1, none⟩ = some (.slice rd 1 rc) ∧ w'.cell? ⟨gx, 0, none⟩ = some (.bool true) ∧ w'.cell? ⟨gx, 1, none⟩ = some (.slice x4d 1 x4c)) (go_keep)
    (first
      | (go_at_call 23
         with_reducible refine (G1.out).mono ?_
         rintro e u1 ⟨rfl, v1⟩
         have b1 : Below u0.heap.size u0 u1 := below_then bd (Nat.le_refl _) v1
         have ek1a1 := below_cell b1 (Nat.le_refl _) ek1a
         have ek1b1 := below_cell b1 (Nat.le_refl _) ek1b
         have ek2a1 := below_cell b1 (Nat.le_refl _) ek2a
         have ek2b1 := below_cell b1 (Nat.le_refl _) ek2b
         have ek3a1 := below_cell b1 (Nat.le_refl _) ek3a
         have ek3b1 := below_cell b1 (Nat.le_refl _) ek3b
         have r1 := r.below b1 (Nat.le_refl _)
         have hs2 := (by have h := wshow_calls true rd 1 rc 1 u1 (r1.num (by omega)) (by omega); rw [show sI true 1 = -1 from rfl, show_lit1] at h; exact h : Calls Try.prog 23 #[.agg #[.bool true, .slice rd 1 rc]] u1 (RetS { data := #[45, 49] } u1))
         have G2 := Lib.hid hs2
         clear hs2)
      | (go_at_call 23
         with_reducible refine (G2.out).mono ?_
         rintro e u2 ⟨rfl, v2⟩
         have ek1a2 := below_cell v2 (Nat.le_refl _) ek1a1
         have ek1b2 := below_cell v2 (Nat.le_refl _) ek1b1
         have ek2a2 := below_cell v2 (Nat.le_refl _) ek2a1
         have ek2b2 := below_cell v2 (Nat.le_refl _) ek2b1
         have ek3a2 := below_cell v2 (Nat.le_refl _) ek3a1
         have ek3b2 := below_cell v2 (Nat.le_refl _) ek3b1
         have G3 := Lib.hid ((wfrom_calls (-5) u2 (by omega)).mono fun e w' q => q.named (r := true) (A := 5) (by decide) (by decide)))
      | (go_at_call 37
         with_reducible refine (G4.out).mono ?_
         rintro e u4 ⟨rfl, v4⟩
         have ek1a4 := below_cell v4 (Nat.le_refl _) ek1a3
         have ek1b4 := below_cell v4 (Nat.le_refl _) ek1b3
         have ek2a4 := below_cell v4 (Nat.le_refl _) ek2a3
         have ek2b4 := below_cell v4 (Nat.le_refl _) ek2b3
         have ek3a4 := below_cell v4 (Nat.le_refl _) ek3a3
         have ek3b4 := below_cell v4 (Nat.le_refl _) ek3b3
         have b4 : Below w.heap.size w u4 := below_trans bel (below_trans b3 v4))
      | (go_at_call 35
         with_reducible refine (G3.out).mono ?_
         rintro e u3 ⟨x5d, x5n, x5c, rfl, x5, v3⟩
         have ek1a3 := below_cell v3 (Nat.le_refl _) ek1a2
         have ek1b3 := below_cell v3 (Nat.le_refl _) ek1b2
         have ek2a3 := below_cell v3 (Nat.le_refl _) ek2a2
         have ek2b3 := below_cell v3 (Nat.le_refl _) ek2b2
         have ek3a3 := below_cell v3 (Nat.le_refl _) ek3a2
         have ek3b3 := below_cell v3 (Nat.le_refl _) ek3b2
         obtain rfl := x5.one (by omega)
         have b3 : Below u0.heap.size u0 u3 := below_trans b1 (below_trans v2 v3)
         have x43 := x4.below b3 (Nat.le_refl _)
         have hc := (by have h := wcmp_calls true x4d 1 x4c 5 true x5d 1 x5c 5 u3 (x43.num (by omega)) (by omega) (x5.num (by omega)) (by omega); rw [show cmpI (sI true 5) (sI true 5) = 0 from cmpI_eq rfl] at h; exact h : Calls Try.prog 37 #[.agg #[.bool true, .slice x4d 1 x4c], .agg #[.bool true, .slice x5d 1 x5c]] u3 (RetIB 0 u3))
         have G4 := Lib.hid hc
         clear hc))
  all_goals
    go_wp2_with fail
    go_ret
    exact ⟨rfl, b4⟩
end Go.Proofs.Ytgnophflogmmaaa
