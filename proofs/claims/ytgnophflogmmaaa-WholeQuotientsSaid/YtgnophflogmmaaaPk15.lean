/- Contracts of functions, and plain facts, part 15. -/
import Derived.Test.YtgnophflogmmaaaPk10
import Derived.Test.YtgnophflogmmaaaPk13
set_option linter.unusedVariables false
set_option linter.unusedSimpArgs false
/- whole: Read. (Printed by whole.py.) -/
namespace Go.Proofs.Ytgnophflogmmaaa
open Go.RowKit

/-- Is a - ahead that Read takes? -/
def dash (cs : List Int) : Bool := decide (1 < cs.length ∧ cs[0]?.getD 0 = 45 ∧ cs[1]?.getD 0 ≠ 48)
def wreadOk (cs : List Int) : Bool := if dash cs then readOk (cs.drop 1) else readOk cs
def wreadNum (cs : List Int) : Int := if dash cs then -readNum (cs.drop 1) else readNum cs

theorem dash_eq (s : ByteArray) (h : dash (bytesI s) = true) : ∃ h0 : 0 < s.size, ∃ h1 : 1 < s.size, (s[0].toNat : Int) = 45 ∧ (s[1].toNat : Int) ≠ 48 := by
  obtain ⟨a, c, d⟩ := of_decide_eq_true h
  rw [bytesI_length] at a
  have e0 := bytesI_get s 0 (by omega)
  have e1 := bytesI_get s 1 (by omega)
  exact ⟨by omega, a, by rw [← e0]; exact c, by rw [← e1]; exact d⟩
theorem dash_no (s : ByteArray) (h : dash (bytesI s) = false) (h1 : 1 < s.size) : ∃ h0 : 0 < s.size, (s[0].toNat : Int) ≠ 45 ∨ (s[1].toNat : Int) = 48 := by
  have h := of_decide_eq_false h
  rw [bytesI_length] at h
  have e0 := bytesI_get s 0 (by omega)
  have e1 := bytesI_get s 1 (by omega)
  refine ⟨by omega, ?_⟩
  rw [← e0, ← e1]
  by_cases c : (bytesI s)[0]?.getD 0 = 45
  · by_cases d : (bytesI s)[1]?.getD 0 = 48
    · exact .inr d
    · exact absurd ⟨h1, c, d⟩ h
  · exact .inl c
theorem bytesI_extract (s : ByteArray) : bytesI (s.extract 1 s.size) = (bytesI s).drop 1 := by
  unfold bytesI
  rw [ByteArray.data_extract, Array.toList_extract, List.extract_eq_take_drop, List.take_of_length_le (by rw [List.length_drop, Array.length_toList]; exact Nat.le_refl _), List.map_drop]

set_option maxHeartbeats 1000000 in
theorem wread_calls (s : ByteArray) (w : World) (hs : s.size ≤ 140737488351232) :
    Calls Try.prog 21 #[.string s] w (RetIntB (wreadNum (bytesI s)) (wreadOk (bytesI s)) w) := by
  have hL := bytesI_length s
  have hX := bytesI_extract s
  by_cases hd : dash (bytesI s) = true
  · skip
    have b0 := Below.refl w.heap.size w
    have l0 : Below w.heap.size w (w.alloc (.cells #[.bool false, .slice none 0 0] 25)) := (Below.refl _ _).alloc (Nat.le_refl _) _
    have b1 : Below w.heap.size w (w.alloc (.cells #[.bool false, .slice none 0 0] 25)) := below_trans b0 l0
    have k0 : Cel (w.alloc (.cells #[.bool false, .slice none 0 0] 25)) w.heap.size 25 [.bool false, .slice none 0 0] := Cel.made _ _ _ _ (by simp)
    clear b0 l0
    have hg0 : w.heap.size ≤ w.heap.size := Nat.le_refl _
    have e1 : wreadOk (bytesI s) = readOk ((bytesI s).drop 1) := by unfold wreadOk; rw [if_pos hd]
    have e2 : wreadNum (bytesI s) = -readNum ((bytesI s).drop 1) := by unfold wreadNum; rw [if_pos hd]
    rw [e1, e2]
    clear e1 e2
    obtain ⟨h0, h1, d0, d1⟩ := dash_eq s hd
    have hR := num_read (s.extract 1 s.size) (w.alloc (.cells #[.bool false, .slice none 0 0] 25)) (by rw [ByteArray.size_extract]; omega)
    rw [hX] at hR
    have hV0 := readNum_nonneg ((bytesI s).drop 1)
    generalize readNum ((bytesI s).drop 1) = V at *
    generalize readOk ((bytesI s).drop 1) = ok at *
    clear hd hX hL
    obtain ⟨r, hr⟩ : ∃ r, decide (-V < 0) = r := ⟨_, rfl⟩
    obtain ⟨s1, hs1⟩ : ∃ s1 : Int, s1 = -1 := ⟨_, rfl⟩
    have hsg : (decide (s1 = -1) && decide (0 < V)) = r := by rw [← hr, hs1]; simp
    have HSE := Lib.hid hs1
    clear hs1
    have HR := Lib.hid hr
    have HSG := Lib.hid hsg
    have HAB := Lib.hid (show V = ((-V).natAbs : Int) by omega)
    clear hr hsg
    go_enter Try.func21, Try.ntmps21
    have h := Lib.hid (hR)
    have e0a := k0.cell 0 _ rfl
    have e0b := k0.cell 1 _ rfl
    go_wp2_with fail
    with_reducible refine (h.out).mono ?_
    rintro e v1 ⟨fd, fn, fc, rfl, ff, b⟩
    clear h
    clear e0a e0b
    replace k0 := k0.next b
    have bb := below_trans b1 b
    clear b b1
    have b1 := bb
    clear bb
    clear hR
    have HM := wmade_as s1 fd fn fc V r v1 ff hV0 HSG.out
    rw [HSE.out] at HM
    have h := Lib.hid (HM)
    have e0a := k0.cell 0 _ rfl
    have e0b := k0.cell 1 _ rfl
    go_wp2_with fail
    with_reducible refine (h.out).mono ?_
    rintro e v2 ⟨rfl, b⟩
    clear h
    clear e0a e0b
    replace k0 := k0.next b
    replace ff := ff.below b (Nat.le_refl _)
    have bb := below_trans b1 b
    clear b b1
    have b1 := bb
    clear bb
    clear HM
    have g0 := k0.free 0
    have g1 := k0.free 1
    have e0a := k0.cell 0 _ rfl
    have e0b := k0.cell 1 _ rfl
    go_wp2_with fail
    refine bodyPost_ret (results_row_tmp rfl _ _ w.heap.size 25 #[.bool r, .slice fd fn fc] (0, 0) _ rfl ((k0.set 0 _).set 1 _).row Try.underlying25 rfl size_int) rfl ?_
    refine ⟨_, _, _, by rw [HR.out]; rfl, ?_, below_set (below_set b1 _ _ _ hg0) _ _ _ hg0⟩
    rw [← HAB.out]
    exact ff.poke2 k0 _ _
  · skip
    have b0 := Below.refl w.heap.size w
    have l0 : Below w.heap.size w (w.alloc (.cells #[.bool false, .slice none 0 0] 25)) := (Below.refl _ _).alloc (Nat.le_refl _) _
    have b1 : Below w.heap.size w (w.alloc (.cells #[.bool false, .slice none 0 0] 25)) := below_trans b0 l0
    have k0 : Cel (w.alloc (.cells #[.bool false, .slice none 0 0] 25)) w.heap.size 25 [.bool false, .slice none 0 0] := Cel.made _ _ _ _ (by simp)
    clear b0 l0
    have hg0 : w.heap.size ≤ w.heap.size := Nat.le_refl _
    have e1 : wreadOk (bytesI s) = readOk (bytesI s) := by unfold wreadOk; rw [if_neg hd]
    have e2 : wreadNum (bytesI s) = readNum (bytesI s) := by unfold wreadNum; rw [if_neg hd]
    rw [e1, e2]
    clear e1 e2
    have hno := dash_no s (by simpa using hd)
    have hR := num_read s (w.alloc (.cells #[.bool false, .slice none 0 0] 25)) hs
    have hV0 := readNum_nonneg (bytesI s)
    generalize readNum (bytesI s) = V at *
    generalize readOk (bytesI s) = ok at *
    clear hd hX hL
    obtain ⟨r, hr⟩ : ∃ r, decide (V < 0) = r := ⟨_, rfl⟩
    obtain ⟨s1, hs1⟩ : ∃ s1 : Int, s1 = 1 := ⟨_, rfl⟩
    have hsg : (decide (s1 = -1) && decide (0 < V)) = r := by rw [← hr, hs1]; simp; omega
    have HSE := Lib.hid hs1
    clear hs1
    have HR := Lib.hid hr
    have HSG := Lib.hid hsg
    have HAB := Lib.hid (show V = ((V).natAbs : Int) by omega)
    clear hr hsg
    by_cases hz : 1 < s.size
    · obtain ⟨h0, hno⟩ := hno hz
      by_cases hc : (s[0].toNat : Int) = 45
      · have hc2 := hno.resolve_left (by rw [hc]; simp)
        clear hno
        go_enter Try.func21, Try.ntmps21
        have h := Lib.hid (hR)
        have e0a := k0.cell 0 _ rfl
        have e0b := k0.cell 1 _ rfl
        go_wp2_with fail
        with_reducible refine (h.out).mono ?_
        rintro e v1 ⟨fd, fn, fc, rfl, ff, b⟩
        clear h
        clear e0a e0b
        replace k0 := k0.next b
        have bb := below_trans b1 b
        clear b b1
        have b1 := bb
        clear bb
        clear hR
        have HM := wmade_as s1 fd fn fc V r v1 ff hV0 HSG.out
        rw [HSE.out] at HM
        have h := Lib.hid (HM)
        have e0a := k0.cell 0 _ rfl
        have e0b := k0.cell 1 _ rfl
        go_wp2_with fail
        with_reducible refine (h.out).mono ?_
        rintro e v2 ⟨rfl, b⟩
        clear h
        clear e0a e0b
        replace k0 := k0.next b
        replace ff := ff.below b (Nat.le_refl _)
        have bb := below_trans b1 b
        clear b b1
        have b1 := bb
        clear bb
        clear HM
        have g0 := k0.free 0
        have g1 := k0.free 1
        have e0a := k0.cell 0 _ rfl
        have e0b := k0.cell 1 _ rfl
        go_wp2_with fail
        refine bodyPost_ret (results_row_tmp rfl _ _ w.heap.size 25 #[.bool r, .slice fd fn fc] (0, 0) _ rfl ((k0.set 0 _).set 1 _).row Try.underlying25 rfl size_int) rfl ?_
        refine ⟨_, _, _, by rw [HR.out]; rfl, ?_, below_set (below_set b1 _ _ _ hg0) _ _ _ hg0⟩
        rw [← HAB.out]
        exact ff.poke2 k0 _ _
      · clear hno
        go_enter Try.func21, Try.ntmps21
        have h := Lib.hid (hR)
        have e0a := k0.cell 0 _ rfl
        have e0b := k0.cell 1 _ rfl
        go_wp2_with fail
        with_reducible refine (h.out).mono ?_
        rintro e v1 ⟨fd, fn, fc, rfl, ff, b⟩
        clear h
        clear e0a e0b
        replace k0 := k0.next b
        have bb := below_trans b1 b
        clear b b1
        have b1 := bb
        clear bb
        clear hR
        have HM := wmade_as s1 fd fn fc V r v1 ff hV0 HSG.out
        rw [HSE.out] at HM
        have h := Lib.hid (HM)
        have e0a := k0.cell 0 _ rfl
        have e0b := k0.cell 1 _ rfl
        go_wp2_with fail
        with_reducible refine (h.out).mono ?_
        rintro e v2 ⟨rfl, b⟩
        clear h
        clear e0a e0b
        replace k0 := k0.next b
        replace ff := ff.below b (Nat.le_refl _)
        have bb := below_trans b1 b
        clear b b1
        have b1 := bb
        clear bb
        clear HM
        have g0 := k0.free 0
        have g1 := k0.free 1
        have e0a := k0.cell 0 _ rfl
        have e0b := k0.cell 1 _ rfl
        go_wp2_with fail
        refine bodyPost_ret (results_row_tmp rfl _ _ w.heap.size 25 #[.bool r, .slice fd fn fc] (0, 0) _ rfl ((k0.set 0 _).set 1 _).row Try.underlying25 rfl size_int) rfl ?_
        refine ⟨_, _, _, by rw [HR.out]; rfl, ?_, below_set (below_set b1 _ _ _ hg0) _ _ _ hg0⟩
        rw [← HAB.out]
        exact ff.poke2 k0 _ _
    · clear hno
      go_enter Try.func21, Try.ntmps21
      have h := Lib.hid (hR)
      have e0a := k0.cell 0 _ rfl
      have e0b := k0.cell 1 _ rfl
      go_wp2_with fail
      with_reducible refine (h.out).mono ?_
      rintro e v1 ⟨fd, fn, fc, rfl, ff, b⟩
      clear h
      clear e0a e0b
      replace k0 := k0.next b
      have bb := below_trans b1 b
      clear b b1
      have b1 := bb
      clear bb
      clear hR
      have HM := wmade_as s1 fd fn fc V r v1 ff hV0 HSG.out
      rw [HSE.out] at HM
      have h := Lib.hid (HM)
      have e0a := k0.cell 0 _ rfl
      have e0b := k0.cell 1 _ rfl
      go_wp2_with fail
      with_reducible refine (h.out).mono ?_
      rintro e v2 ⟨rfl, b⟩
      clear h
      clear e0a e0b
      replace k0 := k0.next b
      replace ff := ff.below b (Nat.le_refl _)
      have bb := below_trans b1 b
      clear b b1
      have b1 := bb
      clear bb
      clear HM
      have g0 := k0.free 0
      have g1 := k0.free 1
      have e0a := k0.cell 0 _ rfl
      have e0b := k0.cell 1 _ rfl
      go_wp2_with fail
      refine bodyPost_ret (results_row_tmp rfl _ _ w.heap.size 25 #[.bool r, .slice fd fn fc] (0, 0) _ rfl ((k0.set 0 _).set 1 _).row Try.underlying25 rfl size_int) rfl ?_
      refine ⟨_, _, _, by rw [HR.out]; rfl, ?_, below_set (below_set b1 _ _ _ hg0) _ _ _ hg0⟩
      rw [← HAB.out]
      exact ff.poke2 k0 _ _
end Go.Proofs.Ytgnophflogmmaaa
