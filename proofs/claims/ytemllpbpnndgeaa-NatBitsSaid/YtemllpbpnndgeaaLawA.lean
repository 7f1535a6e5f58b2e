/- cruciblelaw01: BeyondNat, TwinNat, SameNat, LeftNat: what the calls answer. -/
import Derived.Test.YtemllpbpnndgeaaProg
import Derived.Test.YtemllpbpnndgeaaBase
import Derived.Test.YtemllpbpnndgeaaRefMath
import Derived.Deep.QuietTactic
import Derived.BigQuiet
set_option linter.unusedVariables false
set_option linter.unusedSimpArgs false
namespace Go.Proofs.Ytemllpbpnndgeaa
open Go.RowKit

theorem info_limbL : (Try.prog.info? 28).map (fun i => (i.zero, i.size, i.bytes)) = some (some (.int .u32 0), 1, 4) := by kernel_rfl

/-- The numbers of places of so many lists, each one more. -/
def parts : List Nat → Nat
  | [] => 0
  | n :: l => n + 1 + parts l

theorem parts_take_succ (l : List Nat) (j : Nat) (h : j < l.length) : parts (l.take (j + 1)) = parts (l.take j) + 1 + l[j]?.getD 0 := by
  induction l generalizing j with
  | nil => simp at h
  | cons x l ih =>
    cases j with
    | zero => simp [parts]; omega
    | succ j =>
      simp only [List.length_cons, Nat.add_lt_add_iff_right] at h
      simp only [List.take_succ_cons, parts, ih j h, List.getElem?_cons_succ]
      omega

/-- BeyondNat: where it says no, the lists have at most 2^20 parts. -/
def Beyond (l : List Nat) (w : World) (e : Ending) (w' : World) : Prop := ∃ r : Bool, e = .returned (.bool r) ∧ w = w' ∧ (r = false → parts l ≤ 1048576)

theorem beyond_calls (b n c : Nat) (l : List Nat) (f : Nat → Option Addr × Nat) (w : World) (hn : l.length = n) (hs : n ≤ 1000) (hb : ∀ j : Nat, l[j]?.getD 0 ≤ 140737488355328)
    (hc : ∀ j, j < n → w.cell? ⟨b, j, none⟩ = some (.slice (f j).1 (l[j]?.getD 0) (f j).2)) :
    Calls Try.prog 12 #[.slice (some ⟨b, 0, none⟩) n c] w (Beyond l w) := by
  have HN := Lib.hid hn
  have HB := Lib.hid hb
  have HC := Lib.hid hc
  clear hn hb hc
  go_enter Try.func12, Try.ntmps12
  go_wp2
  go_loop [3, 4] (fun s i => ∃ k q : Nat, k ≤ n ∧ i = .int .i64 k ∧ s = .int .i64 q ∧ q ≤ 1048576 ∧ Hid (q = parts (l.take k))) (fun _ i => n - (intOf i).toNat)
  case atStart => exact ⟨0, 0, Nat.zero_le _, rfl, rfl, by omega, rfl⟩
  case round =>
    obtain ⟨k, q, hk, rfl, rfl, hq, hs2⟩ := hrel
    by_cases hkn : k < n
    · have hcell := HC.out k hkn
      have hbk := HB.out k
      have HS := Lib.hid (parts_take_succ l k (by rw [HN.out]; exact hkn))
      generalize l[k]?.getD 0 = x at *
      go_wp2
      · go_ret
        exact ⟨true, rfl, rfl, fun h => by cases h⟩
      · go_round
        case rel =>
          refine ⟨k + 1, q + 1 + x, by omega, by go_num, by go_num, by omega, ?_⟩
          show q + 1 + x = parts (l.take (k + 1))
          rw [HS.out, ← hs2.out]
        case measure => simp [intOf]; omega
    · obtain rfl : k = n := by omega
      have HE := Lib.hid (show parts l ≤ 1048576 by have := hs2.out; rw [← HN.out, List.take_length] at this; omega)
      go_wp2
      go_ret
      exact ⟨false, rfl, rfl, fun _ => HE.out⟩

/-- TwinNat: a copy, a mark behind it. -/
def Twin (xs : List Int) (w : World) (e : Ending) (w' : World) : Prop :=
  e = .returned (.slice (some ⟨w.heap.size, 0, none⟩) xs.length (xs.length + 1)) ∧ Blk w' w.heap.size 28 .u32 (xs ++ [2148261425]) ∧ Below w.heap.size w w'

def TwinR (w : World) (xs : List Int) (k : Nat) (wr : World) : Prop :=
  Blk wr w.heap.size 28 .u32 (xs.take k ++ List.replicate (xs.length + 1 - k) 0) ∧ Below w.heap.size w wr

theorem twin_set (xs : List Int) (k : Nat) (hk : k < xs.length) : (xs.take k ++ List.replicate (xs.length + 1 - k) 0).set k (xs[k]?.getD 0) = xs.take (k + 1) ++ List.replicate (xs.length + 1 - (k + 1)) 0 := by
  rw [List.set_append_right _ _ (by rw [List.length_take]; omega), List.length_take, Nat.min_eq_left (by omega), Nat.sub_self, show xs.length + 1 - k = (xs.length + 1 - (k + 1)) + 1 by omega, List.replicate_succ, List.set_cons_zero,
    List.take_add_one, List.getElem?_eq_getElem hk, List.append_assoc]
  rfl

theorem twin_last (xs : List Int) (m : Int) : (xs.take xs.length ++ List.replicate (xs.length + 1 - xs.length) 0).set xs.length m = xs ++ [m] := by
  rw [List.take_length, List.set_append_right _ _ (Nat.le_refl _), Nat.sub_self, show xs.length + 1 - xs.length = 0 + 1 by omega, List.replicate_succ, List.set_cons_zero]
  rfl

theorem twin_calls (ad : Option Addr) (n c : Nat) (xs : List Int) (w : World) (hn : n ≤ 70368744177663) (hr : Rds w .u32 ad n xs) :
    Calls Try.prog 13 #[.slice ad n c] w (Twin xs w) := by
  have HL := Lib.hid hr.len
  have hmk := make_rule (P := Try.prog) 23 28 .u32 4 Try.underlying23 info_limbL (by omega) (n + 1) (by omega) ((n : Int) + 1) (by omega)
  go_enter Try.func13, Try.ntmps13
  go_wp2
  clear hmk
  have hr0 : TwinR w xs 0 (w.alloc (.cells (nums .u32 (List.replicate (n + 1) 0)).toArray 28)) :=
    ⟨by rw [HL.out]; exact Blk.made _ _ _ _ _ rfl, (Below.refl _ _).alloc (Nat.le_refl _) _⟩
  go_loopw [4] (fun i wr => ∃ k : Nat, k ≤ n ∧ i = .int .i64 k ∧ TwinR w xs k wr) (fun i _ => n - (intOf i).toNat)
  case atStart => exact ⟨0, Nat.zero_le _, rfl, hr0⟩
  case round =>
    clear hr0
    obtain ⟨k, hk, rfl, h1, h2⟩ := hrel
    by_cases hkn : k < n
    · obtain ⟨a, rfl, hxl⟩ := (hr.below h2 (Nat.le_refl _)).cell k hkn
      have hy := h1.cell k (by rw [List.length_append, List.length_take, List.length_replicate, HL.out]; omega)
      have hf := h1.free k
      have HT := Lib.hid (twin_set xs k (by rw [HL.out]; exact hkn))
      have h3 := h1.set k (xs[k]?.getD 0)
      rw [HT.out] at h3
      clear h1
      go_wp2
      go_roundw
      case rel => exact ⟨k + 1, by omega, by go_num, h3, below_set h2 _ _ _ (Nat.le_refl _)⟩
      case measure => simp [intOf]; omega
    · obtain rfl : k = n := by omega
      have hy := h1.cell k (by rw [List.length_append, List.length_take, List.length_replicate, HL.out]; omega)
      have hf := h1.free k
      have h3 := h1.set k 2148261425
      have HT := twin_last xs 2148261425
      rw [HL.out] at HT
      rw [HL.out, HT] at h3
      clear h1 HT
      go_wp2
      go_ret
      refine ⟨by rw [HL.out]; rfl, h3, below_set h2 _ _ _ (Nat.le_refl _)⟩

/-- SameNat: element by element. -/
def Same (r : Bool) (w : World) (e : Ending) (w' : World) : Prop := e = .returned (.bool r) ∧ ∃ q, w' = w.drewN q

theorem eq_of_getD (xs zs : List Int) (h : xs.length = zs.length) (hk : ∀ j, j < xs.length → xs[j]?.getD 0 = zs[j]?.getD 0) : xs = zs := by
  apply List.ext_getElem h
  intro i h1 h2
  have := hk i h1
  rw [List.getElem?_eq_getElem h1, List.getElem?_eq_getElem h2] at this
  exact this

theorem same_calls (ad bd : Option Addr) (n m c d : Nat) (xs zs : List Int) (w : World) (hn : n ≤ 9223372036854775807) (hm : m ≤ 9223372036854775807) (ha : Rds w .u32 ad n xs) (hb : Rds w .u32 bd m zs) :
    Calls Try.prog 14 #[.slice ad n c, .slice bd m d] w (Same (decide (xs = zs)) w) := by
  have HL := Lib.hid ha.len
  have HM := Lib.hid hb.len
  by_cases hnm : n = m
  · subst hnm
    go_enter Try.func14, Try.ntmps14
    go_wp2
    go_loopw [5] (fun i wr => ∃ k : Nat, k ≤ n ∧ i = .int .i64 k ∧ Hid (∃ q, wr = w.drewN q) ∧ Hid (∀ j, j < k → xs[j]?.getD 0 = zs[j]?.getD 0)) (fun i _ => n - (intOf i).toNat)
    case atStart => exact ⟨0, Nat.zero_le _, rfl, ⟨0, rfl⟩, fun j hj => by omega⟩
    case round =>
      obtain ⟨k, hk, rfl, hq, hz⟩ := hrel
      obtain ⟨q, rfl⟩ := hq.out
      clear hq
      by_cases hkn : k < n
      · obtain ⟨a, rfl, hxl⟩ := ha.cell k hkn
        obtain ⟨b, rfl, hzl⟩ := hb.cell k hkn
        clear ha hb
        generalize hgx : xs[k]?.getD 0 = x at *
        have HX := Lib.hid hgx
        clear hgx
        generalize hgz : zs[k]?.getD 0 = z at *
        have HZ := Lib.hid hgz
        clear hgz
        have hk0 : (0 : Int) ≤ (k : Int) := by omega
        by_cases hxz : x = z
        · subst hxz
          have ht : (x != x) = false := by simp
          go_wp2_with fail
          go_quiet (fail)
          go_wp2
          go_roundw
          case rel =>
            refine ⟨k + 1, by omega, by go_num, ⟨_, rfl⟩, fun j hj => ?_⟩
            by_cases e : j = k
            · subst e; rw [HX.out, HZ.out]
            · exact hz.out j (by omega)
          case measure => simp [intOf]; omega
        · have ht : (x != z) = true := by simp [hxz]
          have HF : Hid (decide (xs = zs) = false) := by
            refine decide_eq_false fun e => hxz ?_
            rw [← HX.out, ← HZ.out, e]
          clear hxz
          go_wp2_with fail
          go_quiet (fail)
          go_wp2
          go_ret
          rw [HF.out]
          exact ⟨rfl, _, World.drewN_drewN ..⟩
      · obtain rfl : k = n := by omega
        have HT : Hid (decide (xs = zs) = true) := decide_eq_true (eq_of_getD xs zs (by rw [HL.out, HM.out]) (fun j hj => hz.out j (by rw [HL.out] at hj; exact hj)))
        go_wp2
        go_ret
        rw [HT.out]
        exact ⟨rfl, _, rfl⟩
  · have HF : Hid (decide (xs = zs) = false) := by
      refine decide_eq_false fun e => hnm ?_
      rw [← HL.out, ← HM.out, e]
    have ht : ((n : Int) != (m : Int)) = true := by simp; omega
    clear hnm
    go_enter Try.func14, Try.ntmps14
    go_wp2
    go_ret
    rw [HF.out]
    exact ⟨rfl, 0, rfl⟩

theorem same_true (ad bd : Option Addr) (n m c d : Nat) (xs zs : List Int) (w : World) (B B' : Nat) (t t' : TypeId) (ha : Own B w t .u32 ad n c xs) (hb : Own B' w t' .u32 bd m d zs) (h : xs = zs) :
    Calls Try.prog 14 #[.slice ad n c, .slice bd m d] w (Same true w) := by
  have := same_calls ad bd n m c d xs zs w (by have := ha.le; have := ha.big; omega) (by have := hb.le; have := hb.big; omega) ha.rds hb.rds
  rwa [decide_eq_true h] at this

theorem twin_rds {w : World} {b n : Nat} {xs : List Int} (ht : Blk w b 28 .u32 (xs ++ [2148261425])) (hl : xs.length = n) : Rds w .u32 (some ⟨b, 0, none⟩) n xs := by
  have := ht.rds.take n (by rw [List.length_append, hl]; simp)
  rwa [List.take_append_of_le_length (by rw [hl]; exact Nat.le_refl _), ← hl, List.take_length, hl] at this

/-- LeftNat of a copy and what it was made of. -/
theorem left_calls (b : Nat) (ld : Option Addr) (n c : Nat) (xs : List Int) (w : World) (hn : n ≤ 1000000000000) (ht : Blk w b 28 .u32 (xs ++ [2148261425])) (hl : Rds w .u32 ld n xs) :
    Calls Try.prog 17 #[.slice (some ⟨b, 0, none⟩) n (n + 1), .slice ld n c] w (Same true w) := by
  have HL := Lib.hid hl.len
  have rt : Rds w .u32 (some ⟨b, 0, none⟩) n xs := by
    have := ht.rds.take n (by rw [List.length_append, HL.out]; simp)
    rwa [List.take_append_of_le_length (by rw [HL.out]; exact Nat.le_refl _), ← HL.out, List.take_length, HL.out] at this
  have hs := same_calls (some ⟨b, 0, none⟩) ld n n (n + 1) c xs xs w (by omega) (by omega) rt hl
  have hm := ht.cell n (by rw [List.length_append, HL.out]; simp)
  rw [show ((xs ++ [2148261425])[n]?).getD 0 = 2148261425 by rw [List.getElem?_append_right (by rw [HL.out]; exact Nat.le_refl _), HL.out]; simp] at hm
  rw [decide_eq_true rfl] at hs
  clear hl rt
  go_enter Try.func17, Try.ntmps17
  go_wp2_with fail
  refine hs.mono ?_
  rintro e w' ⟨rfl, q, rfl⟩
  go_wp2
  go_ret
  exact ⟨rfl, _, rfl⟩
end Go.Proofs.Ytemllpbpnndgeaa
