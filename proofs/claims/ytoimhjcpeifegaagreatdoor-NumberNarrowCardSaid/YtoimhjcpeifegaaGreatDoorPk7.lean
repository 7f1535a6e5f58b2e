/- Contracts of functions, and plain facts, part 7. -/
import Derived.Test.YtoimhjcpeifegaaGreatDoorProg
import Derived.Deep.QuietTactic
import Derived.BigQuiet
import Derived.Laws.Rows
import Derived.Test.YtoimhjcpeifegaaGreatDoorPk1
import Derived.Test.YtoimhjcpeifegaaGreatDoorPk3
import Derived.Test.YtoimhjcpeifegaaGreatDoorPk4
import Derived.Test.YtoimhjcpeifegaaGreatDoorPk5
import Derived.Test.YtoimhjcpeifegaaGreatDoorPk6
set_option linter.unusedVariables false
set_option linter.unusedSimpArgs false
/- cruciblelaw01: BeyondNat, LeftNat. -/
namespace Go.Proofs.YtoimhjcpeifegaaGreatDoor
open Go.RowKit



/-- The numbers of places of so many lists, each one more. -/
def parts : List Nat → Nat
  | [] => 0
  | n :: l => n + 1 + parts l

theorem parts_take_succ (l : List Nat) (j : Nat) (h : j < l.length) : parts (l.take (j + 1)) = parts (l.take j) + 1 + l[j]?.getD 0 := by
  induction l generalizing j with
  | nil => simp at h
  | cons x l ih =>
    cases j with
    | zero => simp [parts]; omega
    | succ j =>
      simp only [List.length_cons, Nat.add_lt_add_iff_right] at h
      simp only [List.take_succ_cons, parts, ih j h, List.getElem?_cons_succ]
      omega

/-- BeyondNat: where it says no, the lists have at most 2^20 parts. -/
def Beyond (l : List Nat) (w : World) (e : Ending) (w' : World) : Prop := ∃ r : Bool, e = .returned (.bool r) ∧ w = w' ∧ (r = false → parts l ≤ 1048576)

theorem beyond_calls (b n c : Nat) (l : List Nat) (f : Nat → Option Addr × Nat) (w : World) (hn : l.length = n) (hs : n ≤ 1000) (hb : ∀ j : Nat, l[j]?.getD 0 ≤ 140737488355328)
    (hc : ∀ j, j < n → w.cell? ⟨b, j, none⟩ = some (.slice (f j).1 (l[j]?.getD 0) (f j).2)) :
    Calls Tryz.prog 40 #[.slice (some ⟨b, 0, none⟩) n c] w (Beyond l w) := by
  have HN := Lib.hid hn
  have HB := Lib.hid hb
  have HC := Lib.hid hc
  clear hn hb hc
  go_enter Tryz.func40, Tryz.ntmps40
  go_wp2
  go_loop [3, 4] (fun s i => ∃ k q : Nat, k ≤ n ∧ i = .int .i64 k ∧ s = .int .i64 q ∧ q ≤ 1048576 ∧ Hid (q = parts (l.take k))) (fun _ i => n - (intOf i).toNat)
  case atStart => exact ⟨0, 0, Nat.zero_le _, rfl, rfl, by omega, rfl⟩
  case round =>
    obtain ⟨k, q, hk, rfl, rfl, hq, hs2⟩ := hrel
    by_cases hkn : k < n
    · have hcell := HC.out k hkn
      have hbk := HB.out k
      have HS := Lib.hid (parts_take_succ l k (by rw [HN.out]; exact hkn))
      generalize l[k]?.getD 0 = x at *
      go_wp2
      · go_ret
        exact ⟨true, rfl, rfl, fun h => by cases h⟩
      · go_round
        case rel =>
          refine ⟨k + 1, q + 1 + x, by omega, by go_num, by go_num, by omega, ?_⟩
          show q + 1 + x = parts (l.take (k + 1))
          rw [HS.out, ← hs2.out]
        case measure => simp [intOf]; omega
    · obtain rfl : k = n := by omega
      have HE := Lib.hid (show parts l ≤ 1048576 by have := hs2.out; rw [← HN.out, List.take_length] at this; omega)
      go_wp2
      go_ret
      exact ⟨false, rfl, rfl, fun _ => HE.out⟩

end Go.Proofs.YtoimhjcpeifegaaGreatDoor


/- Norm by worth alone. -/
namespace Go.Proofs.YtoimhjcpeifegaaGreatDoor
open Go.RowKit

theorem num_norm (ad : Option Addr) (n c : Nat) (V : Int) (w : World) (h : Num w ad n c V) (hn : n ≤ 70368744177663) :
    Calls Tryz.prog 161 #[.slice ad n c] w (RetC V w) := by
  obtain ⟨xs, h1, h2, rfl⟩ := h.row
  exact (norm_calls ad n c xs w (by omega) h.le h1 h2).mono fun e w' q => q.can
end Go.Proofs.YtoimhjcpeifegaaGreatDoor


/- A block of few cells of the call's own (a struct in memory), known whole. -/
namespace Go.Proofs.YtoimhjcpeifegaaGreatDoor
open Go.RowKit

theorem Num.nonneg {w : World} {ad : Option Addr} {n c : Nat} {V : Int} (h : Num w ad n c V) : 0 ≤ V := by
  obtain ⟨xs, h1, h2, rfl⟩ := h.row
  exact val_nonneg (by omega) h2
theorem Num.lt {w : World} {ad : Option Addr} {n c : Nat} {V : Int} (h : Num w ad n c V) : V < 4294967296 ^ n := by
  obtain ⟨xs, h1, h2, rfl⟩ := h.row
  have := val_lt (by omega) h2
  rwa [h1.len] at this

def Cel (w : World) (b : Nat) (t : TypeId) (cs : List Value) : Prop := w.heap[b]? = some (.cells cs.toArray t (0, 0))
theorem Cel.lt {w : World} {b : Nat} {t : TypeId} {cs : List Value} (h : Cel w b t cs) : b < w.heap.size := (Array.getElem?_eq_some_iff.1 h).1
theorem Cel.cell {w : World} {b : Nat} {t : TypeId} {cs : List Value} (h : Cel w b t cs) (j : Nat) (v : Value) (hj : cs[j]? = some v) : w.cell? ⟨b, j, none⟩ = some v := by
  unfold Cel at h
  simp [World.cell?, h, hj]
theorem Cel.free {w : World} {b : Nat} {t : TypeId} {cs : List Value} (h : Cel w b t cs) (j : Nat) : w.frozen? ⟨b, j, none⟩ = false := by
  unfold Cel at h
  simp [World.frozen?, h]
theorem Cel.set {w : World} {b : Nat} {t : TypeId} {cs : List Value} (h : Cel w b t cs) (j : Nat) (v : Value) : Cel (w.setCell ⟨b, j, none⟩ v) b t (cs.set j v) := by
  unfold Cel at *
  simp only [World.setCell, Array.getElem?_modify, h, if_true, Option.map_some, Option.isSome_none]
  simp
theorem Cel.below {w w1 : World} {b : Nat} {t : TypeId} {cs : List Value} (h : Cel w b t cs) {B : Nat} (hb : Below B w w1) (hB : b < B) : Cel w1 b t cs := (hb.block b hB).trans h
theorem Cel.next {w w1 : World} {b : Nat} {t : TypeId} {cs : List Value} (h : Cel w b t cs) (hb : Below w.heap.size w w1) : Cel w1 b t cs := h.below hb h.lt
theorem Cel.made (w : World) (t : TypeId) (cs : List Value) (b : Nat) (hb : b = w.heap.size) : Cel (w.alloc (.cells cs.toArray t)) b t cs := by
  subst hb
  exact heap_alloc_new w _
theorem Cel.drewN {w : World} {b : Nat} {t : TypeId} {cs : List Value} (h : Cel w b t cs) (n : Nat) : Cel (w.drewN n) b t cs := h
theorem Cel.row {w : World} {b : Nat} {t : TypeId} {cs : List Value} (h : Cel w b t cs) : w.heap[b]? = some (.cells cs.toArray t (0, 0)) := h

/-- A store into a cell that holds no number leaves lists of numbers alone. -/
theorem Rds.poke {w : World} {k : IntKind} {ad : Option Addr} {n : Nat} {xs : List Int} (h : Rds w k ad n xs) (p : Addr) (u v : Value) (hp : w.cell? p = some u) (hu : ∀ x, u ≠ .int k x) : Rds (w.setCell p v) k ad n xs := by
  refine ⟨h.len, fun j hj => ?_⟩
  obtain ⟨a, e, hc⟩ := h.cell j hj
  refine ⟨a, e, ?_⟩
  rw [World.cell?_setCell_other, hc]
  intro e2
  rw [e2, hc] at hp
  injection hp with hp
  exact hu _ hp.symm
theorem Num.poke {w : World} {ad : Option Addr} {n c : Nat} {V : Int} (h : Num w ad n c V) (p : Addr) (u v : Value) (hp : w.cell? p = some u) (hu : ∀ x, u ≠ .int .u32 x) : Num (w.setCell p v) ad n c V := by
  obtain ⟨xs, h1, h2, h3⟩ := h.row
  exact ⟨h.le, xs, h1.poke p u v hp hu, h2, h3⟩
theorem Can.poke {w : World} {ad : Option Addr} {n c : Nat} {V : Int} (h : Can w ad n c V) (p : Addr) (u v : Value) (hp : w.cell? p = some u) (hu : ∀ x, u ≠ .int .u32 x) : Can (w.setCell p v) ad n c V := ⟨h.le, h.rds.poke p u v hp hu⟩
/-- Both cells of a whole number in memory written over. -/
theorem Can.poke2 {w : World} {ad : Option Addr} {n c : Nat} {V : Int} (h : Can w ad n c V) {b : Nat} {t : TypeId} {b0 : Bool} {a0 : Option Addr} {n0 c0 : Nat} (k : Cel w b t [.bool b0, .slice a0 n0 c0]) (v0 v1 : Value) : Can ((w.setCell ⟨b, 0, none⟩ v0).setCell ⟨b, 1, none⟩ v1) ad n c V := by
  refine (h.poke _ _ v0 (k.cell 0 _ rfl) (fun x e => by cases e)).poke _ (.slice a0 n0 c0) v1 ?_ (fun x e => by cases e)
  exact (k.set 0 v0).cell 1 _ rfl
theorem Num.poke2 {w : World} {ad : Option Addr} {n c : Nat} {V : Int} (h : Num w ad n c V) {b : Nat} {t : TypeId} {b0 : Bool} {a0 : Option Addr} {n0 c0 : Nat} (k : Cel w b t [.bool b0, .slice a0 n0 c0]) (v0 v1 : Value) : Num ((w.setCell ⟨b, 0, none⟩ v0).setCell ⟨b, 1, none⟩ v1) ad n c V := by
  refine (h.poke _ _ v0 (k.cell 0 _ rfl) (fun x e => by cases e)).poke _ (.slice a0 n0 c0) v1 ?_ (fun x e => by cases e)
  exact (k.set 0 v0).cell 1 _ rfl
end Go.Proofs.YtoimhjcpeifegaaGreatDoor


/- nat.Add: the sum. -/
namespace Go.Proofs.YtoimhjcpeifegaaGreatDoor
open Go.RowKit

def AddR (w : World) (xs zs : List Int) (n i : Nat) (c : Int) (wr : World) : Prop :=
  ∃ ys, Blk wr w.heap.size 23 .u32 ys ∧ ys.length = n + 1 ∧ Dig 4294967296 ys ∧ Below w.heap.size w wr ∧ 0 ≤ c ∧ c ≤ 1 ∧
    val 4294967296 (ys.take i) + c * 4294967296 ^ i = val 4294967296 (xs.take i) + val 4294967296 (zs.take i)

set_option maxHeartbeats 1000000 in
/-- The longer one may stand behind the shorter one. -/
theorem add_core (sw : Bool) (xd zd : Option Addr) (n m cx cz : Nat) (xs zs : List Int) (w : World) (hn : n ≤ 70368744177663) (hm : m ≤ n) (hsw : sw = true → m < n) (hxc : n ≤ cx) (hzc : m ≤ cz)
    (hx : Rds w .u32 xd n xs) (hz : Rds w .u32 zd m zs) (dx : Dig 4294967296 xs) (dz : Dig 4294967296 zs) :
    Calls Tryz.prog 121 (if sw then #[.slice zd m cz, .slice xd n cx] else #[.slice xd n cx, .slice zd m cz]) w (RetL 23 .u32 (dg 4294967296 (val 4294967296 xs + val 4294967296 zs)) w) := by
  have HX := Lib.hid hx.len
  have HZ := Lib.hid hz.len
  have hmk := make_rule (P := Tryz.prog) 32 23 .u32 4 Tryz.underlying32 info_limb (by omega) (n + 1) (by omega) ((n : Int) + 1) (by omega)
  have hr0 : AddR w xs zs n 0 0 (w.alloc (.cells (nums .u32 (List.replicate (n + 1) 0)).toArray 23)) :=
    ⟨_, Blk.made _ _ _ _ _ rfl, by simp, Dig.replicate _ (by omega) _, (Below.refl _ _).alloc (Nat.le_refl _) _, by omega, by omega, by simp [val]⟩
  cases sw
  all_goals
    have hlt := hsw
    clear hsw
    simp only [if_true, if_false, Bool.false_eq_true]
    first
      | (have hlt2 := hlt rfl; clear hlt)
      | (have hlt2 : ¬ n < m := by omega)
    go_enter Tryz.func121, Tryz.ntmps121
    go_wp2
    clear hmk
    go_loopw [22, 6] (fun i cy wr => ∃ k : Nat, ∃ c : Int, k ≤ n ∧ i = .int .i64 k ∧ cy = .int .u32 c ∧ AddR w xs zs n k c wr) (fun i _ _ => n - (intOf i).toNat)
    case atStart => exact ⟨0, 0, Nat.zero_le _, rfl, rfl, hr0⟩
    case round =>
      clear hr0
      obtain ⟨k, c, hk, rfl, rfl, ys, h1, h2, h3, h4, hc0, hc1, h5⟩ := hrel
      have H2 := Lib.hid h2
      have H5 := Lib.hid h5
      clear h2 h5
      by_cases hkn : k < n
      · obtain ⟨a, rfl, hxl⟩ := (hx.below h4 (Nat.le_refl _)).cell k hkn
        have hf := h1.free k
        have hy := h1.cell k (by rw [H2.out]; omega)
        have HS := Lib.hid (add_step 4294967296 xs zs ys k (by rw [H2.out]; omega) c _ rfl H5.out)
        clear H5
        have bx := dx.get (by omega) k
        have bz := dz.get (by omega) k
        by_cases hkm : k < m
        · obtain ⟨b, rfl, hzl⟩ := (hz.below h4 (Nat.le_refl _)).cell k hkm
          have ha := Lib.hid (add32_calls (xs[k]?.getD 0) (zs[k]?.getD 0) c wr bx bz (by omega))
          generalize xs[k]?.getD 0 = x at *
          generalize zs[k]?.getD 0 = z at *
          go_wp2_with fail
          refine (ha.out).mono ?_
          rintro e w' ⟨rfl, rfl⟩
          clear ha
          go_wp2
          go_roundw
          case rel => exact ⟨k + 1, _, by omega, by go_num, rfl, _, h1.set k _, by simp [H2.out], h3.set (by omega) (by omega) _, below_set h4 _ _ _ (Nat.le_refl _), by omega, by omega, HS.out⟩
          case measure => simp [intOf]; omega
        · have hz0 : zs[k]?.getD 0 = 0 := by rw [List.getElem?_eq_none (by rw [HZ.out]; omega)]; rfl
          have ha := Lib.hid (add32_calls (xs[k]?.getD 0) 0 c wr bx (by omega) (by omega))
          rw [hz0, Int.add_zero] at HS
          clear hz0 bz
          generalize xs[k]?.getD 0 = x at *
          go_wp2_with fail
          refine (ha.out).mono ?_
          rintro e w' ⟨rfl, rfl⟩
          clear ha
          go_wp2
          go_roundw
          case rel => exact ⟨k + 1, _, by omega, by go_num, rfl, _, h1.set k _, by simp [H2.out], h3.set (by omega) (by omega) _, below_set h4 _ _ _ (Nat.le_refl _), by omega, by omega, HS.out⟩
          case measure => simp [intOf]; omega
      · obtain rfl : k = n := by omega
        have hf := h1.free k
        have hy := h1.cell k (by rw [H2.out]; omega)
        have k2 := h1.set k c
        have b2 := below_set h4 w.heap.size k (.int .u32 c) (Nat.le_refl _)
        have d2 := h3.set hc0 (show c < 4294967296 by omega) k
        have HV := Lib.hid (add_end 4294967296 xs zs ys k HX.out (by rw [HZ.out]; exact hm) H2.out c H5.out)
        have hcut := Lib.hid (cut_calls (some ⟨w.heap.size, 0, none⟩) (k + 1) (k + 1) _ _ (by omega) (Nat.le_refl _) (by have := k2.rds; rwa [List.length_set, H2.out] at this))
        have R := Lib.hid (k2.ret (Nat.le_refl _) (by rw [List.length_set, H2.out]; omega) d2 _ HV.out b2)
        go_wp2_with fail
        refine (hcut.out).mono ?_
        rintro e w' ⟨rfl, rfl⟩
        go_wp2_with fail
        go_ret
        exact R.out

theorem add_calls (ad bd : Option Addr) (na nb ca cb : Nat) (la lb : List Int) (w : World) (hna : na ≤ 70368744177663) (hnb : nb ≤ 70368744177663) (hac : na ≤ ca) (hbc : nb ≤ cb)
    (ha : Rds w .u32 ad na la) (hb : Rds w .u32 bd nb lb) (da : Dig 4294967296 la) (db : Dig 4294967296 lb) :
    Calls Tryz.prog 121 #[.slice ad na ca, .slice bd nb cb] w (RetL 23 .u32 (dg 4294967296 (val 4294967296 la + val 4294967296 lb)) w) := by
  by_cases h : na < nb
  · rw [Int.add_comm]
    exact add_core true bd ad nb na cb ca lb la w hnb (by omega) (fun _ => h) hbc hac hb ha db da
  · exact add_core false ad bd na nb ca cb la lb w hna (by omega) (fun h => by cases h) hac hbc ha hb da db
end Go.Proofs.YtoimhjcpeifegaaGreatDoor


/- nat.Sub: the difference, or that there is none. -/
namespace Go.Proofs.YtoimhjcpeifegaaGreatDoor
open Go.RowKit

def SubR (w : World) (xs zs : List Int) (n i : Nat) (c : Int) (wr : World) : Prop :=
  ∃ ys, Blk wr w.heap.size 23 .u32 ys ∧ ys.length = n ∧ Dig 4294967296 ys ∧ Below w.heap.size w wr ∧ 0 ≤ c ∧ c ≤ 1 ∧
    val 4294967296 (ys.take i) + val 4294967296 (zs.take i) = val 4294967296 (xs.take i) + c * 4294967296 ^ i

theorem brw_mod (x z c : Int) (hx : 0 ≤ x ∧ x < 4294967296) (hz : 0 ≤ z ∧ z < 4294967296) (hc : 0 ≤ c ∧ c ≤ 1) :
    (x - z - c) % 4294967296 = x - z - c + brw x z c * 4294967296 ∧ 0 ≤ brw x z c ∧ brw x z c ≤ 1 := by
  unfold brw
  split <;> omega

set_option maxHeartbeats 1000000 in
theorem nsub_calls (ad bd : Option Addr) (na nb ca cb : Nat) (la lb : List Int) (w : World) (hna : na ≤ 70368744177664) (hnb : nb ≤ 70368744177664) (hac : na ≤ ca) (hbc : nb ≤ cb)
    (ha : Rds w .u32 ad na la) (hb : Rds w .u32 bd nb lb) (da : Dig 4294967296 la) (db : Dig 4294967296 lb) :
    Calls Tryz.prog 164 #[.slice ad na ca, .slice bd nb cb] w (RetLB 23 .u32 (dg 4294967296 (val 4294967296 la - val 4294967296 lb)) (decide (val 4294967296 lb ≤ val 4294967296 la)) w) := by
  have hc := Lib.hid (ncmp_calls ad bd na nb ca cb la lb w hna hnb hac hbc ha hb da db)
  by_cases hle : val 4294967296 lb ≤ val 4294967296 la
  · have hcm : (cmpI (val 4294967296 la) (val 4294967296 lb)) < 0 ↔ False := by unfold cmpI; simp; split <;> omega
    have HD := Lib.hid (decide_eq_true hle)
    have hcn : ¬ (cmpI (val 4294967296 la) (val 4294967296 lb)) < 0 := by simp [hcm]
    clear hcm
    generalize cmpI (val 4294967296 la) (val 4294967296 lb) = cc at *
    have rx := ha.norm
    have rz := hb.norm
    have dx := norm_dig da
    have dz := norm_dig db
    have hma := norm_length_le la
    have hnb' := norm_length_le lb
    rw [ha.len] at hma
    rw [hb.len] at hnb'
    have C1 := Lib.hid (fun q => cut_calls ad na ca la (w.drewN q) (by omega) hac (ha.drewN q))
    have C2 := Lib.hid (fun q => cut_calls bd nb cb lb (w.drewN q) (by omega) hbc (hb.drewN q))
    have hle2 : (norm lb).length ≤ (norm la).length := by
      rcases Nat.lt_or_ge (norm la).length (norm lb).length with h | h
      · have := lt_of_len (b := 4294967296) (by omega) dx dz (norm_norm lb) h
        rw [val_norm, val_norm] at this
        omega
      · exact h
    have HL := Lib.hid hle
    rw [← val_norm 4294967296 la, ← val_norm 4294967296 lb] at HL
    rw [← val_norm 4294967296 la, ← val_norm 4294967296 lb]
    rw [← val_norm 4294967296 la, ← val_norm 4294967296 lb] at HD
    clear ha hb da db hle
    generalize norm la = xs at *
    generalize norm lb = zs at *
    obtain ⟨m, hm⟩ : ∃ m, xs.length = m := ⟨_, rfl⟩
    obtain ⟨n, hn⟩ : ∃ n, zs.length = n := ⟨_, rfl⟩
    rw [hm] at rx hma C1 hle2
    rw [hn] at rz hnb' C2 hle2
    have HM := Lib.hid hm
    have HN := Lib.hid hn
    clear hm hn
    have hmk := make_rule (P := Tryz.prog) 32 23 .u32 4 Tryz.underlying32 info_limb (by omega) m (by omega) (m : Int) rfl
    go_enter Tryz.func164, Tryz.ntmps164
    go_wp2_with fail
    refine (hc.out).mono ?_
    rintro e w' ⟨rfl, q, rfl⟩
    have b0 := below_drewN (Below.refl w.heap.size w) q
    have C1' := Lib.hid (C1.out q)
    have C2' := Lib.hid (C2.out q)
    have rx' := rx.drewN q
    have rz' := rz.drewN q
    clear C1 C2 rx rz
    have hsz : (w.drewN q).heap.size = w.heap.size := rfl
    generalize w.drewN q = w1 at *
    go_wp2_with fail
    refine (C1'.out).mono ?_
    rintro e w' ⟨rfl, rfl⟩
    go_wp2_with fail
    refine (C2'.out).mono ?_
    rintro e w' ⟨rfl, rfl⟩
    clear hc C1' C2'
    have HS := Lib.hid hsz
    clear hsz
    have hr0 : SubR w1 xs zs m 0 0 (w1.alloc (.cells (nums .u32 (List.replicate m 0)).toArray 23)) :=
      ⟨_, Blk.made _ _ _ _ _ rfl, by simp, Dig.replicate _ (by omega) _, (Below.refl _ _).alloc (Nat.le_refl _) _, by omega, by omega, by simp [val]⟩
    go_wp2_with fail
    clear hmk
    go_loopw [23, 7] (fun i cy wr => ∃ k : Nat, ∃ c : Int, k ≤ m ∧ i = .int .i64 k ∧ cy = .int .u32 c ∧ SubR w1 xs zs m k c wr) (fun i _ _ => m - (intOf i).toNat)
    case atStart => exact ⟨0, 0, Nat.zero_le _, rfl, rfl, hr0⟩
    case round =>
      clear hr0
      obtain ⟨k, c, hk, rfl, rfl, ys, h1, h2, h3, h4, hc0, hc1, h5⟩ := hrel
      have H2 := Lib.hid h2
      have H5 := Lib.hid h5
      clear h2 h5
      by_cases hkm : k < m
      · obtain ⟨a, rfl, hxl⟩ := (rx'.below h4 (Nat.le_refl _)).cell k hkm
        have hf := h1.free k
        have hy := h1.cell k (by rw [H2.out]; omega)
        have bx := dx.get (by omega) k
        have bz := dz.get (by omega) k
        have bm := brw_mod _ _ c bx bz ⟨hc0, hc1⟩
        have HS2 := Lib.hid (sub_step 4294967296 xs zs ys k (by rw [H2.out]; omega) c _ _ bm.1 H5.out)
        obtain ⟨bm0, bb0, bb1⟩ := bm
        clear bm0
        clear H5
        by_cases hkn : k < n
        · obtain ⟨b, rfl, hzl⟩ := (rz'.below h4 (Nat.le_refl _)).cell k hkn
          have hs := Lib.hid (sub32_calls (xs[k]?.getD 0) (zs[k]?.getD 0) c wr bx bz ⟨hc0, hc1⟩)
          generalize xs[k]?.getD 0 = x at *
          generalize zs[k]?.getD 0 = z at *
          generalize brw x z c = bo at *
          go_wp2_with fail
          refine (hs.out).mono ?_
          rintro e w' ⟨rfl, rfl⟩
          clear hs
          go_wp2
          go_roundw
          case rel => exact ⟨k + 1, _, by omega, by go_num, rfl, _, h1.set k _, by simp [H2.out], h3.set (by omega) (by omega) _, below_set h4 _ _ _ (Nat.le_refl _), bb0, bb1, HS2.out⟩
          case measure => simp [intOf]; omega
        · have hz0 : zs[k]?.getD 0 = 0 := by rw [List.getElem?_eq_none (by rw [HN.out]; omega)]; rfl
          rw [hz0] at HS2 bb0 bb1
          have hs := Lib.hid (sub32_calls (xs[k]?.getD 0) 0 c wr bx (by omega) ⟨hc0, hc1⟩)
          rw [Int.sub_zero] at HS2 hs
          clear hz0 bz
          generalize xs[k]?.getD 0 = x at *
          generalize brw x 0 c = bo at *
          go_wp2_with fail
          refine (hs.out).mono ?_
          rintro e w' ⟨rfl, rfl⟩
          clear hs
          go_wp2
          go_roundw
          case rel => exact ⟨k + 1, _, by omega, by go_num, rfl, _, h1.set k _, by simp [H2.out], h3.set (by omega) (by omega) _, below_set h4 _ _ _ (Nat.le_refl _), bb0, bb1, HS2.out⟩
          case measure => simp [intOf]; omega
      · obtain rfl : k = m := by omega
        have HV := Lib.hid (sub_end 4294967296 (by omega) xs zs ys k h3 HM.out (by rw [HN.out]; exact hle2) H2.out c hc0 HL.out H5.out)
        have hcut := Lib.hid (cut_calls (some ⟨w1.heap.size, 0, none⟩) k k _ wr (by omega) (Nat.le_refl _) (by have := h1.rds; rwa [H2.out] at this))
        have R := h1.ret (Nat.le_refl _) (by rw [H2.out]; omega) h3 _ HV.out h4
        obtain ⟨rd, rn, rc, re, ro, rb⟩ := R
        have RE := Lib.hid re
        clear re
        go_wp2_with fail
        refine (hcut.out).mono ?_
        rintro e w' ⟨rfl, rfl⟩
        go_wp2_with fail
        go_ret2
        rw [HD.out]
        have re := RE.out
        injection re with re
        injection re with e1 e2 e3
        refine ⟨rd, rn, rc, ?_, ?_, ?_⟩
        · rw [← e1, ← e2, ← e3]; rfl
        · rw [← HS.out]; exact ro
        · rw [← HS.out] at b0 ⊢
          exact below_then b0 (Nat.le_refl _) rb
  · have hcn : (cmpI (val 4294967296 la) (val 4294967296 lb)) < 0 := by unfold cmpI; split <;> omega
    have HD := Lib.hid (decide_eq_false hle)
    have HZ := Lib.hid (show dg 4294967296 (val 4294967296 la - val 4294967296 lb) = [] by
      unfold dg
      rw [digs_nil _ _ (by omega)]
      omega)
    generalize cmpI (val 4294967296 la) (val 4294967296 lb) = cc at *
    clear hle
    go_enter Tryz.func164, Tryz.ntmps164
    go_wp2_with fail
    refine (hc.out).mono ?_
    rintro e w' ⟨rfl, q, rfl⟩
    go_wp2
    go_ret2
    rw [HD.out, HZ.out]
    exact ⟨none, 0, 0, rfl, Own.nil _ _ _ _ _, below_drewN (Below.refl _ _) q⟩
end Go.Proofs.YtoimhjcpeifegaaGreatDoor


/- NCmp by worth alone. -/
namespace Go.Proofs.YtoimhjcpeifegaaGreatDoor
open Go.RowKit

theorem num_cmp (ad bd : Option Addr) (n m c d : Nat) (V U : Int) (w : World) (h : Num w ad n c V) (k : Num w bd m d U) (hn : n ≤ 70368744177663) (hm : m ≤ 70368744177663) :
    Calls Tryz.prog 114 #[.slice ad n c, .slice bd m d] w (RetI (cmpI V U) w) := by
  obtain ⟨xs, h1, h2, rfl⟩ := h.row
  obtain ⟨zs, k1, k2, rfl⟩ := k.row
  exact (ncmp_calls ad bd n m c d xs zs w (by omega) (by omega) h.le k.le h1 k1 h2 k2).mono fun e w' q => q
end Go.Proofs.YtoimhjcpeifegaaGreatDoor


/- crucibleref01.at, Add: the sum. -/
namespace Go.Proofs.YtoimhjcpeifegaaGreatDoor
open Go.RowKit

end Go.Proofs.YtoimhjcpeifegaaGreatDoor


/- RCmp by worth alone. -/
namespace Go.Proofs.YtoimhjcpeifegaaGreatDoor
open Go.RowKit

end Go.Proofs.YtoimhjcpeifegaaGreatDoor


/- RNorm by worth alone. -/
namespace Go.Proofs.YtoimhjcpeifegaaGreatDoor
open Go.RowKit

end Go.Proofs.YtoimhjcpeifegaaGreatDoor


/- crucibleref01.Len: how many bits it has. -/
namespace Go.Proofs.YtoimhjcpeifegaaGreatDoor
open Go.RowKit
end Go.Proofs.YtoimhjcpeifegaaGreatDoor


/- The shapes of the three widths, and what a pattern is: plain definitions. -/
namespace Go.Proofs.YtoimhjcpeifegaaGreatDoor

/-- Of a width (16, 32; all others: 64): digits of the fraction, digits of the exponent, the least power. -/
def shF (W : Nat) : Nat := if W = 16 then 10 else if W = 32 then 23 else 52
def shE (W : Nat) : Nat := if W = 16 then 5 else if W = 32 then 8 else 11
def shL (W : Nat) : Int := if W = 16 then -24 else if W = 32 then -149 else -1074
/-- The sign bit, the infinite pattern, the one for no number. -/
def sgnW (W : Nat) : Int := 2 ^ (W - 1)
def infW (W : Nat) : Int := (2 ^ shE W - 1) * 2 ^ shF W
def nanW (W : Nat) : Int := infW W + 2 ^ (shF W - 1)
def negW (W : Nat) (x : Int) : Bool := decide (sgnW W ≤ x)
def sizeW (W : Nat) (x : Int) : Int := if sgnW W ≤ x then x - sgnW W else x

/-- The three widths. -/
def Wide (W : Nat) : Prop := W = 16 ∨ W = 32 ∨ W = 64

theorem sgn16 : sgnW 16 = 32768 := by decide
theorem sgn32 : sgnW 32 = 2147483648 := by decide
theorem sgn64 : sgnW 64 = 9223372036854775808 := by decide
theorem inf16 : infW 16 = 31744 := by decide
theorem inf32 : infW 32 = 2139095040 := by decide
theorem inf64 : infW 64 = 9218868437227405312 := by decide
theorem nan16 : nanW 16 = 32256 := by decide
theorem nan32 : nanW 32 = 2143289344 := by decide
theorem nan64 : nanW 64 = 9221120237041090560 := by decide

theorem size_bounds {W : Nat} (hW : Wide W) (x : Int) (h : 0 ≤ x ∧ x < 2 ^ W) : 0 ≤ sizeW W x ∧ sizeW W x < sgnW W := by
  have e : (2 : Int) ^ W = sgnW W + sgnW W := by rcases hW with rfl | rfl | rfl <;> decide
  unfold sizeW
  split <;> omega

/-- The class: 0 none, as api names them. -/
def isNaN (W : Nat) (x : Int) : Bool := decide (infW W < sizeW W x)

end Go.Proofs.YtoimhjcpeifegaaGreatDoor


/- NLen by worth alone. -/
namespace Go.Proofs.YtoimhjcpeifegaaGreatDoor
open Go.RowKit

theorem num_len (ad : Option Addr) (n c : Nat) (V : Int) (w : World) (h : Num w ad n c V) (hn : n ≤ 70368744177663) :
    Calls Tryz.prog 86 #[.slice ad n c] w (fun e w' => e = .returned (.int .i64 (bitsOf V)) ∧ w = w') := by
  obtain ⟨xs, h1, h2, rfl⟩ := h.row
  exact (nlen_calls ad n c xs w (by omega) h.le h1 h2).mono fun e w' q => q
end Go.Proofs.YtoimhjcpeifegaaGreatDoor

