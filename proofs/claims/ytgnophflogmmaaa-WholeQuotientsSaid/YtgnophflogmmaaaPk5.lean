/- Contracts of functions, and plain facts, part 5. -/
import Derived.Lib.SmallJoins
import Derived.Deep.Fields
import Derived.KernelRfl
import Derived.Test.YtgnophflogmmaaaProg
import Derived.Deep.QuietTactic
import Derived.BigQuiet
import Derived.Laws.Rows
import Derived.Test.YtgnophflogmmaaaPk1
import Derived.Test.YtgnophflogmmaaaPk2
import Derived.Test.YtgnophflogmmaaaPk3
import Derived.Test.YtgnophflogmmaaaPk4
set_option linter.unusedVariables false
set_option linter.unusedSimpArgs false
/- crucibleref01.From: a small number as a list. -/
namespace Go.Proofs.Ytgnophflogmmaaa
open Go.RowKit
def RFromR (w : World) (X : Int) (k : Nat) (x : Int) (v : Value) (wr : World) : Prop :=
  ∃ ad c ds, v = .slice ad k c ∧ App w.heap.size wr 3 .i64 ad k c ds ∧ Dig 256 ds ∧ Below w.heap.size w wr ∧ w.heap.size ≤ wr.heap.size ∧ 0 ≤ x ∧ x < 256 ^ (8 - k) ∧ val 256 ds + 256 ^ k * x = X
theorem rfrom_calls (X : Int) (w : World) (h0 : 0 ≤ X) (h1 : X < 18446744073709551616) :
    Calls Try.prog 72 #[.int .u64 X] w (RetL 78 .u32 (dg 4294967296 X) w) := by
  have hr0 : RFromR w X 0 X (.slice none 0 0) w := ⟨none, 0, [], rfl, App.nil _ _ _ _, Dig.nil _, Below.refl _ _, Nat.le_refl _, h0, h1, by simp [val]⟩
  have HX0 := Lib.hid h0
  have HX1 := Lib.hid h1
  clear h0 h1
  go_enter Try.func72, Try.ntmps72
  go_wp2
  go_loopw [0, 3] (fun x v wr => ∃ k : Nat, ∃ y : Int, k ≤ 8 ∧ x = .int .u64 y ∧ RFromR w X k y v wr) (fun x _ _ => (intOf x).toNat)
  case atStart => exact ⟨0, X, by omega, rfl, hr0⟩
  case round =>
    clear hr0
    obtain ⟨k, y, hk, rfl, ad, c, ds, rfl, g1, g2, g3, g4, g5, g6, g7⟩ := hrel
    have hlen := g1.len
    have HE := Lib.hid (bytes_step ds _ hlen y _ g5 g7)
    have gx : y < 18446744073709551616 := Int.lt_of_lt_of_le g6 (pow_le (b := 256) (by omega) (show 8 - k ≤ 8 by omega))
    have H6 := Lib.hid g6
    have H7 := Lib.hid g7
    clear hlen g7 g6
    by_cases hy : 0 < y
    · have hk8 : k < 8 := by
        rcases Nat.lt_or_ge k 8 with h | h
        · exact h
        · have := H6.out
          rw [show 8 - k = 0 by omega] at this
          simp at this
          omega
      go_wp2_with (at_builtin; refine app_one w.heap.size rfl (.tmp 6) (.tmp 10) 94 3 .i64 8 rfl Try.underlying94 info_int (by omega) ad k c ds (y % 256) rfl rfl g1 g3 g4 (by omega) ?_; intro ad3 c3 w3 k1 k2 k3)
      go_roundw
      case rel =>
        refine ⟨k + 1, _, by omega, rfl, ad3, c3, ds ++ [y % 256], rfl, k1, g2.append (Dig.cons (by omega) (by omega) (Dig.nil _)), k2, k3, by omega, ?_, HE.out⟩
        have := H6.out
        rw [show 8 - k = (8 - (k + 1)) + 1 by omega, Int.pow_succ] at this
        exact Int.ediv_lt_of_lt_mul (by omega) this
      case measure => simp [intOf]; omega
    · obtain rfl : y = 0 := by omega
      have HV := Lib.hid (show val 256 ds = X by have := H7.out; simpa using this)
      have hl := limbs_calls ad k c ds wr (by omega) g1.own.le g1.rds g2
      rw [HV.out] at hl
      go_wp2_with fail
      refine hl.mono ?_
      rintro e w' hr
      obtain ⟨rd, nr, cr, rfl, or, br⟩ := hr.after g3
      go_wp2_with fail
      go_ret
      exact ⟨_, _, _, rfl, or, br⟩
end Go.Proofs.Ytgnophflogmmaaa

/- From a row's reading of a whole number (a struct of a sign and a list) to what the walks ask. -/
namespace Go.Proofs.Ytgnophflogmmaaa
open Go.ChangeShapes Go.WideShapes Go.RowKit

set_option maxRecDepth 100000 in
theorem fields_int : ∃ f0 f1 : Field, Try.prog.underlying 25 = some (.struct #[f0, f1]) ∧ f0.type = 4 ∧ f1.type = 23 ∧ Go.Deep.oneCellFields Try.prog #[f0, f1] = true :=
  ⟨_, _, Try.underlying25, rfl, rfl, by kernel_rfl⟩
theorem cellsInt2 : Try.prog.cellsOf 25 = 2 := by kernel_rfl
theorem cellsLimb : Try.prog.cellsOf 78 = 1 := by kernel_rfl
theorem bytesLimb : Try.prog.bytesOf 78 = 4 := by kernel_rfl

set_option maxRecDepth 100000 in
/-- A whole number that was handed in. -/
theorem open_intval {H : Type} {enc : TypeId × Value → H} {W : World} {base : Nat} {v : Value} {d : DataW H} {p : List MemPlace} {ts : List TypeId} {ds : List (DataW H)} {j : Nat}
    (hsz : (DataW.weightsEach Try.prog ts ds).all (· ≤ reachBytes) = true) (ht : ts[j]? = some 25) (hd : ds[j]? = some d)
    (hv : Value.okWide Try.prog W .any base 25 v) (h : DataW.Trod enc Try.prog W 0 (fun _ => true) true 25 v d p) :
    ∃ (ng : Bool) (a : Option Addr) (len cap : Nat) (xs : List Int), v = .agg #[.bool ng, .slice a len cap] ∧ Arg W a len cap xs ∧ len * 4 ≤ 140737488351232 ∧ ∀ x ∈ p, x.block < W.heap.size := by
  have hlt : ∀ x ∈ p, x.block < W.heap.size := by obtain ⟨m, hm⟩ := h; exact DataW.trod_lt m _ _ _ hm
  obtain ⟨f0, f1, hs, t0, t1, hone⟩ := fields_int
  obtain ⟨v0, v1, y0, y1, n, rfl, rfl, rfl, h0, h1⟩ := Go.Joins.open_agg2 hs hone cellsInt2 hv h
  rw [t0] at h0
  rw [t1] at h1
  obtain ⟨ng, e0, -⟩ := DataW.trod_bool Try.underlying4 h0
  obtain ⟨a, len, cap, e1⟩ := Go.Joins.slice_form Try.underlying23 h1
  injection e0 with e0
  injection e1 with e1
  subst e0 e1
  have hz : (DataW.weightsEach Try.prog [4, 23] [y0.1, y1.1]).all (· ≤ reachBytes) = true := by
    rw [List.all_eq_true] at hsz ⊢
    intro x hx
    refine hsz x (DataW.weights_mem_each ht hd x ?_)
    rw [DataW.weights, hs]
    simp only [List.map_cons, List.map_nil, t0, t1]
    exact hx
  have hy : DataW.Trod enc Try.prog W 0 (fun _ => true) true 23 (.slice a len cap) y1.1 y1.2 := ⟨n, by simpa [Value.cells] using h1⟩
  have w4 := sized_ints hz (j := 1) (t := 23) rfl rfl Try.underlying23 Try.underlying78 cellsLimb bytesLimb hy
  obtain ⟨zs, hr⟩ : ∃ zs, IsRow .u32 W a len cap zs := by
    rcases open_ints Try.underlying23 Try.underlying78 cellsLimb h1 with ⟨hcs, _⟩ | ⟨x, l, c, zs, hcs, _, hl, hm, hz, _, hcell, hwz⟩
    · injection hcs with hcs
      injection hcs with q1 q2 q3
      subst q1 q2 q3
      exact ⟨[], .inl ⟨rfl, rfl, rfl, rfl⟩⟩
    · injection hcs with hcs
      injection hcs with q1 q2 q3
      subst q1 q2 q3
      exact ⟨zs, .inr ⟨_, rfl, hl, hm, by simpa using hz, hcell, hwz⟩⟩
  exact ⟨ng, a, len, cap, zs.take len, rfl, ⟨hr.le, hr.rds, hr.dig⟩, w4, hlt⟩
end Go.Proofs.Ytgnophflogmmaaa

/- cruciblelaw01: BeyondNat, LeftNat. -/
namespace Go.Proofs.Ytgnophflogmmaaa
open Go.RowKit



/-- The numbers of places of so many lists, each one more. -/
def parts : List Nat → Nat
  | [] => 0
  | n :: l => n + 1 + parts l

theorem parts_take_succ (l : List Nat) (j : Nat) (h : j < l.length) : parts (l.take (j + 1)) = parts (l.take j) + 1 + l[j]?.getD 0 := by
  induction l generalizing j with
  | nil => simp at h
  | cons x l ih =>
    cases j with
    | zero => simp [parts]; omega
    | succ j =>
      simp only [List.length_cons, Nat.add_lt_add_iff_right] at h
      simp only [List.take_succ_cons, parts, ih j h, List.getElem?_cons_succ]
      omega

/-- BeyondNat: where it says no, the lists have at most 2^20 parts. -/
def Beyond (l : List Nat) (w : World) (e : Ending) (w' : World) : Prop := ∃ r : Bool, e = .returned (.bool r) ∧ w = w' ∧ (r = false → parts l ≤ 1048576)

theorem beyond_calls (b n c : Nat) (l : List Nat) (f : Nat → Option Addr × Nat) (w : World) (hn : l.length = n) (hs : n ≤ 1000) (hb : ∀ j : Nat, l[j]?.getD 0 ≤ 140737488355328)
    (hc : ∀ j, j < n → w.cell? ⟨b, j, none⟩ = some (.slice (f j).1 (l[j]?.getD 0) (f j).2)) :
    Calls Try.prog 48 #[.slice (some ⟨b, 0, none⟩) n c] w (Beyond l w) := by
  have HN := Lib.hid hn
  have HB := Lib.hid hb
  have HC := Lib.hid hc
  clear hn hb hc
  go_enter Try.func48, Try.ntmps48
  go_wp2
  go_loop [3, 4] (fun s i => ∃ k q : Nat, k ≤ n ∧ i = .int .i64 k ∧ s = .int .i64 q ∧ q ≤ 1048576 ∧ Hid (q = parts (l.take k))) (fun _ i => n - (intOf i).toNat)
  case atStart => exact ⟨0, 0, Nat.zero_le _, rfl, rfl, by omega, rfl⟩
  case round =>
    obtain ⟨k, q, hk, rfl, rfl, hq, hs2⟩ := hrel
    by_cases hkn : k < n
    · have hcell := HC.out k hkn
      have hbk := HB.out k
      have HS := Lib.hid (parts_take_succ l k (by rw [HN.out]; exact hkn))
      generalize l[k]?.getD 0 = x at *
      go_wp2
      · go_ret
        exact ⟨true, rfl, rfl, fun h => by cases h⟩
      · go_round
        case rel =>
          refine ⟨k + 1, q + 1 + x, by omega, by go_num, by go_num, by omega, ?_⟩
          show q + 1 + x = parts (l.take (k + 1))
          rw [HS.out, ← hs2.out]
        case measure => simp [intOf]; omega
    · obtain rfl : k = n := by omega
      have HE := Lib.hid (show parts l ≤ 1048576 by have := hs2.out; rw [← HN.out, List.take_length] at this; omega)
      go_wp2
      go_ret
      exact ⟨false, rfl, rfl, fun _ => HE.out⟩

/-- LeftNat of a copy and what it was made of. -/
theorem left_calls (b : Nat) (ld : Option Addr) (n c : Nat) (xs : List Int) (w : World) (hn : n ≤ 1000000000000) (ht : Blk w b 78 .u32 (xs ++ [2148261425])) (hl : Rds w .u32 ld n xs) :
    Calls Try.prog 56 #[.slice (some ⟨b, 0, none⟩) n (n + 1), .slice ld n c] w (Same true w) := by
  have HL := Lib.hid hl.len
  have rt : Rds w .u32 (some ⟨b, 0, none⟩) n xs := by
    have := ht.rds.take n (by rw [List.length_append, HL.out]; simp)
    rwa [List.take_append_of_le_length (by rw [HL.out]; exact Nat.le_refl _), ← HL.out, List.take_length, HL.out] at this
  have hs := same_calls (some ⟨b, 0, none⟩) ld n n (n + 1) c xs xs w (by omega) (by omega) rt hl
  have hm := ht.cell n (by rw [List.length_append, HL.out]; simp)
  rw [show ((xs ++ [2148261425])[n]?).getD 0 = 2148261425 by rw [List.getElem?_append_right (by rw [HL.out]; exact Nat.le_refl _), HL.out]; simp] at hm
  rw [decide_eq_true rfl] at hs
  clear hl rt
  go_enter Try.func56, Try.ntmps56
  go_wp2_with fail
  refine hs.mono ?_
  rintro e w' ⟨rfl, q, rfl⟩
  go_wp2
  go_ret
  exact ⟨rfl, _, rfl⟩

theorem num_left (b : Nat) (ld : Option Addr) (n c : Nat) (xs : List Int) (w : World) (ht : Tw w b n xs) (hl : Arg w ld n c xs) (hn : n ≤ 1000000000000) :
    Calls Try.prog 56 #[.slice (some ⟨b, 0, none⟩) n (n + 1), .slice ld n c] w (Same true w) := left_calls b ld n c xs w hn ht.blk hl.rds

end Go.Proofs.Ytgnophflogmmaaa

/- Norm by worth alone. -/
namespace Go.Proofs.Ytgnophflogmmaaa
open Go.RowKit

theorem num_norm (ad : Option Addr) (n c : Nat) (V : Int) (w : World) (h : Num w ad n c V) (hn : n ≤ 70368744177663) :
    Calls Try.prog 67 #[.slice ad n c] w (RetC V w) := by
  obtain ⟨xs, h1, h2, rfl⟩ := h.row
  exact (norm_calls ad n c xs w (by omega) h.le h1 h2).mono fun e w' q => q.can
end Go.Proofs.Ytgnophflogmmaaa

/- A block of few cells of the call's own (a struct in memory), known whole. -/
namespace Go.Proofs.Ytgnophflogmmaaa
open Go.RowKit

theorem Num.nonneg {w : World} {ad : Option Addr} {n c : Nat} {V : Int} (h : Num w ad n c V) : 0 ≤ V := by
  obtain ⟨xs, h1, h2, rfl⟩ := h.row
  exact val_nonneg (by omega) h2
theorem Num.lt {w : World} {ad : Option Addr} {n c : Nat} {V : Int} (h : Num w ad n c V) : V < 4294967296 ^ n := by
  obtain ⟨xs, h1, h2, rfl⟩ := h.row
  have := val_lt (by omega) h2
  rwa [h1.len] at this

def Cel (w : World) (b : Nat) (t : TypeId) (cs : List Value) : Prop := w.heap[b]? = some (.cells cs.toArray t (0, 0))
theorem Cel.lt {w : World} {b : Nat} {t : TypeId} {cs : List Value} (h : Cel w b t cs) : b < w.heap.size := (Array.getElem?_eq_some_iff.1 h).1
theorem Cel.cell {w : World} {b : Nat} {t : TypeId} {cs : List Value} (h : Cel w b t cs) (j : Nat) (v : Value) (hj : cs[j]? = some v) : w.cell? ⟨b, j, none⟩ = some v := by
  unfold Cel at h
  simp [World.cell?, h, hj]
theorem Cel.free {w : World} {b : Nat} {t : TypeId} {cs : List Value} (h : Cel w b t cs) (j : Nat) : w.frozen? ⟨b, j, none⟩ = false := by
  unfold Cel at h
  simp [World.frozen?, h]
theorem Cel.set {w : World} {b : Nat} {t : TypeId} {cs : List Value} (h : Cel w b t cs) (j : Nat) (v : Value) : Cel (w.setCell ⟨b, j, none⟩ v) b t (cs.set j v) := by
  unfold Cel at *
  simp only [World.setCell, Array.getElem?_modify, h, if_true, Option.map_some, Option.isSome_none]
  simp
theorem Cel.setOther {w : World} {b : Nat} {t : TypeId} {cs : List Value} (h : Cel w b t cs) {b2 : Nat} (j : Nat) (v : Value) (hp : b ≠ b2) : Cel (w.setCell ⟨b2, j, none⟩ v) b t cs := by
  unfold Cel at *
  simp only [World.setCell, Array.getElem?_modify, if_neg (Ne.symm hp)]
  exact h
theorem Cel.below {w w1 : World} {b : Nat} {t : TypeId} {cs : List Value} (h : Cel w b t cs) {B : Nat} (hb : Below B w w1) (hB : b < B) : Cel w1 b t cs := (hb.block b hB).trans h
theorem Cel.next {w w1 : World} {b : Nat} {t : TypeId} {cs : List Value} (h : Cel w b t cs) (hb : Below w.heap.size w w1) : Cel w1 b t cs := h.below hb h.lt
theorem Cel.made (w : World) (t : TypeId) (cs : List Value) (b : Nat) (hb : b = w.heap.size) : Cel (w.alloc (.cells cs.toArray t)) b t cs := by
  subst hb
  exact heap_alloc_new w _
theorem Cel.drewN {w : World} {b : Nat} {t : TypeId} {cs : List Value} (h : Cel w b t cs) (n : Nat) : Cel (w.drewN n) b t cs := h
theorem Cel.row {w : World} {b : Nat} {t : TypeId} {cs : List Value} (h : Cel w b t cs) : w.heap[b]? = some (.cells cs.toArray t (0, 0)) := h

/-- A store into a cell that holds no number leaves lists of numbers alone. -/
theorem Rds.poke {w : World} {k : IntKind} {ad : Option Addr} {n : Nat} {xs : List Int} (h : Rds w k ad n xs) (p : Addr) (u v : Value) (hp : w.cell? p = some u) (hu : ∀ x, u ≠ .int k x) : Rds (w.setCell p v) k ad n xs := by
  refine ⟨h.len, fun j hj => ?_⟩
  obtain ⟨a, e, hc⟩ := h.cell j hj
  refine ⟨a, e, ?_⟩
  rw [World.cell?_setCell_other, hc]
  intro e2
  rw [e2, hc] at hp
  injection hp with hp
  exact hu _ hp.symm
theorem Num.poke {w : World} {ad : Option Addr} {n c : Nat} {V : Int} (h : Num w ad n c V) (p : Addr) (u v : Value) (hp : w.cell? p = some u) (hu : ∀ x, u ≠ .int .u32 x) : Num (w.setCell p v) ad n c V := by
  obtain ⟨xs, h1, h2, h3⟩ := h.row
  exact ⟨h.le, xs, h1.poke p u v hp hu, h2, h3⟩
theorem Can.poke {w : World} {ad : Option Addr} {n c : Nat} {V : Int} (h : Can w ad n c V) (p : Addr) (u v : Value) (hp : w.cell? p = some u) (hu : ∀ x, u ≠ .int .u32 x) : Can (w.setCell p v) ad n c V := ⟨h.le, h.rds.poke p u v hp hu⟩
/-- Both cells of a whole number in memory written over. -/
theorem Can.poke2 {w : World} {ad : Option Addr} {n c : Nat} {V : Int} (h : Can w ad n c V) {b : Nat} {t : TypeId} {b0 : Bool} {a0 : Option Addr} {n0 c0 : Nat} (k : Cel w b t [.bool b0, .slice a0 n0 c0]) (v0 v1 : Value) : Can ((w.setCell ⟨b, 0, none⟩ v0).setCell ⟨b, 1, none⟩ v1) ad n c V := by
  refine (h.poke _ _ v0 (k.cell 0 _ rfl) (fun x e => by cases e)).poke _ (.slice a0 n0 c0) v1 ?_ (fun x e => by cases e)
  exact (k.set 0 v0).cell 1 _ rfl
theorem Num.poke2 {w : World} {ad : Option Addr} {n c : Nat} {V : Int} (h : Num w ad n c V) {b : Nat} {t : TypeId} {b0 : Bool} {a0 : Option Addr} {n0 c0 : Nat} (k : Cel w b t [.bool b0, .slice a0 n0 c0]) (v0 v1 : Value) : Num ((w.setCell ⟨b, 0, none⟩ v0).setCell ⟨b, 1, none⟩ v1) ad n c V := by
  refine (h.poke _ _ v0 (k.cell 0 _ rfl) (fun x e => by cases e)).poke _ (.slice a0 n0 c0) v1 ?_ (fun x e => by cases e)
  exact (k.set 0 v0).cell 1 _ rfl
end Go.Proofs.Ytgnophflogmmaaa

/- A row in memory that a call may write upon, known at its first places; one block alone has turned. -/
namespace Go.Proofs.Ytgnophflogmmaaa
open Go.RowKit

/-- The first cells of block b read as xs; they may be written upon. -/
def RowAt (w : World) (b : Nat) (t : TypeId) (k : IntKind) (xs : List Int) : Prop :=
  ∃ cs, w.heap[b]? = some (.cells cs t (0, 0)) ∧ xs.length ≤ cs.size ∧ ∀ j, j < xs.length → cs[j]? = some (.int k (xs[j]?.getD 0))

theorem RowAt.lt {w : World} {b : Nat} {t : TypeId} {k : IntKind} {xs : List Int} (h : RowAt w b t k xs) : b < w.heap.size := by
  obtain ⟨cs, h1, _⟩ := h
  exact (Array.getElem?_eq_some_iff.1 h1).1
theorem RowAt.cell {w : World} {b : Nat} {t : TypeId} {k : IntKind} {xs : List Int} (h : RowAt w b t k xs) (j : Nat) (hj : j < xs.length) :
    w.cell? ⟨b, j, none⟩ = some (.int k (xs[j]?.getD 0)) := by
  obtain ⟨cs, h1, _, h3⟩ := h
  simp [World.cell?, h1, h3 j hj]
theorem RowAt.free {w : World} {b : Nat} {t : TypeId} {k : IntKind} {xs : List Int} (h : RowAt w b t k xs) (j : Nat) : w.frozen? ⟨b, j, none⟩ = false := by
  obtain ⟨cs, h1, _⟩ := h
  simp [World.frozen?, h1]
theorem RowAt.drewN {w : World} {b : Nat} {t : TypeId} {k : IntKind} {xs : List Int} (h : RowAt w b t k xs) (n : Nat) : RowAt (w.drewN n) b t k xs := h
theorem RowAt.drew {w : World} {b : Nat} {t : TypeId} {k : IntKind} {xs : List Int} (h : RowAt w b t k xs) : RowAt w.drew b t k xs := h
theorem RowAt.set {w : World} {b : Nat} {t : TypeId} {k : IntKind} {xs : List Int} (h : RowAt w b t k xs) (j : Nat) (x : Int) : RowAt (w.setCell ⟨b, j, none⟩ (.int k x)) b t k (xs.set j x) := by
  obtain ⟨cs, h1, h2, h3⟩ := h
  refine ⟨cs.setIfInBounds j (.int k x), ?_, by simpa using h2, fun i hi => ?_⟩
  · simp only [World.setCell, Array.getElem?_modify, h1, if_true, Option.map_some, Option.isSome_none]
    simp
  · rw [List.length_set] at hi
    rw [Array.getElem?_setIfInBounds, List.getElem?_set]
    by_cases e : j = i
    · subst e
      rw [if_pos rfl, if_pos (by omega), if_pos rfl, if_pos hi]
      rfl
    · rw [if_neg e, if_neg e]
      exact h3 i hi
theorem RowAt.below {w w1 : World} {b : Nat} {t : TypeId} {k : IntKind} {xs : List Int} (h : RowAt w b t k xs) {B : Nat} (hb : Below B w w1) (hB : b < B) : RowAt w1 b t k xs := by
  obtain ⟨cs, h1, h2⟩ := h
  exact ⟨cs, (hb.block b hB).trans h1, h2⟩
theorem RowAt.part {w : World} {b : Nat} {t : TypeId} {k : IntKind} {xs : List Int} (h : RowAt w b t k xs) (j n : Nat) (hj : j + n ≤ xs.length) : Rds w k (some ⟨b, j, none⟩) n ((xs.drop j).take n) := by
  refine ⟨by rw [List.length_take, List.length_drop]; omega, fun i hi => ⟨_, rfl, ?_⟩⟩
  have e : (⟨b, j, none⟩ : Addr).add i = ⟨b, j + i, none⟩ := by unfold Addr.add; split <;> simp_all
  rw [e, h.cell (j + i) (by omega), List.getElem?_take_of_lt hi, List.getElem?_drop]
theorem RowAt.first {w : World} {b : Nat} {t : TypeId} {k : IntKind} {xs : List Int} (h : RowAt w b t k xs) (n : Nat) (hn : n ≤ xs.length) : RowAt w b t k (xs.take n) := by
  obtain ⟨cs, h1, h2, h3⟩ := h
  refine ⟨cs, h1, by rw [List.length_take]; omega, fun j hj => ?_⟩
  rw [List.length_take] at hj
  rw [h3 j (by omega), List.getElem?_take_of_lt (by omega)]
theorem RowAt.rds {w : World} {b : Nat} {t : TypeId} {k : IntKind} {xs : List Int} (h : RowAt w b t k xs) : Rds w k (some ⟨b, 0, none⟩) xs.length xs :=
  ⟨rfl, fun j hj => ⟨_, rfl, by rw [plain_add]; exact h.cell j hj⟩⟩
theorem Blk.rowAt {w : World} {b : Nat} {t : TypeId} {k : IntKind} {ys : List Int} (h : Blk w b t k ys) : RowAt w b t k ys :=
  ⟨_, h, by simp [nums], fun j hj => by rw [List.getElem?_toArray, nums_get k ys j hj]⟩
theorem Own.rowAt {B : Nat} {w : World} {t : TypeId} {k : IntKind} {ad : Option Addr} {n c : Nat} {xs : List Int} (h : Own B w t k ad n c xs) (hn : 0 < n) : ∃ b, ad = some ⟨b, 0, none⟩ ∧ B ≤ b ∧ RowAt w b t k xs := by
  have h1 := h.le
  have h2 := h.len
  obtain ⟨b, cs, e, hb, hh, hc, hx⟩ := h.row (by omega)
  exact ⟨b, e, hb, cs, hh, by omega, fun j hj => hx j (by omega)⟩

/-- Block b alone has turned. -/
structure Only (b : Nat) (w w' : World) : Prop where
  os : w'.os = w.os
  tape : w'.tape = w.tape
  output : w'.output = w.output
  size : w'.heap.size = w.heap.size
  rest : ∀ i, i ≠ b → w'.heap[i]? = w.heap[i]?
theorem Only.refl (b : Nat) (w : World) : Only b w w := ⟨rfl, rfl, rfl, rfl, fun _ _ => rfl⟩
theorem Only.set {b : Nat} {w W : World} (h : Only b w W) (j : Nat) (v : Value) : Only b w (W.setCell ⟨b, j, none⟩ v) := by
  refine ⟨h.os, h.tape, h.output, ?_, fun i hi => ?_⟩
  · simp only [World.setCell, Array.size_modify]
    exact h.size
  · simp only [World.setCell, Array.getElem?_modify]
    rw [if_neg (fun e => hi e.symm)]
    exact h.rest i hi
theorem Only.drewN {b : Nat} {w W : World} (h : Only b w W) (n : Nat) : Only b w (W.drewN n) := ⟨h.os, h.tape, h.output, h.size, h.rest⟩
theorem Only.drew {b : Nat} {w W : World} (h : Only b w W) : Only b w W.drew := ⟨h.os, h.tape, h.output, h.size, h.rest⟩
theorem Only.trans {b : Nat} {w w1 w2 : World} (h : Only b w w1) (k : Only b w1 w2) : Only b w w2 :=
  ⟨k.os.trans h.os, k.tape.trans h.tape, k.output.trans h.output, k.size.trans h.size, fun i hi => (k.rest i hi).trans (h.rest i hi)⟩
theorem Only.below {B b : Nat} {w0 w w' : World} (hb : Below B w0 w) (hB : B ≤ b) (h : Only b w w') : Below B w0 w' :=
  hb.trans ⟨h.os, h.tape, h.output, Nat.le_of_eq h.size.symm, fun i hi => h.rest i (by omega)⟩
theorem Rds.only {w w1 : World} {k : IntKind} {ad : Option Addr} {n : Nat} {xs : List Int} (h : Rds w k ad n xs) {b : Nat} (ho : Only b w w1) (hne : ∀ a, ad = some a → a.block ≠ b) : Rds w1 k ad n xs :=
  ⟨h.len, fun j hj => by
    obtain ⟨a, e, hc⟩ := h.cell j hj
    refine ⟨a, e, ?_⟩
    rw [← hc]
    have e2 : (a.add j).block = a.block := by unfold Addr.add; split <;> rfl
    have e3 := ho.rest a.block (hne a e)
    simp only [World.cell?, e2, e3]⟩
theorem RowAt.only {w w1 : World} {c : Nat} {t : TypeId} {k : IntKind} {xs : List Int} (h : RowAt w c t k xs) {b : Nat} (ho : Only b w w1) (hne : c ≠ b) : RowAt w1 c t k xs := by
  obtain ⟨cs, h1, h2⟩ := h
  exact ⟨cs, (ho.rest c hne).trans h1, h2⟩
theorem Blk.only {w w1 : World} {c : Nat} {t : TypeId} {k : IntKind} {xs : List Int} (h : Blk w c t k xs) {b : Nat} (ho : Only b w w1) (hne : c ≠ b) : Blk w1 c t k xs := (ho.rest c hne).trans h

/-- The list X put upon Z from place j on. -/
def putAt (Z : List Int) (j : Nat) (X : List Int) : List Int := Z.take j ++ (X ++ Z.drop (j + X.length))
theorem putAt_length (Z : List Int) (j : Nat) (X : List Int) (h : j + X.length ≤ Z.length) : (putAt Z j X).length = Z.length := by
  simp [putAt]
  omega
theorem putAt_get (Z : List Int) (j : Nat) (X : List Int) (hj : j ≤ Z.length) (i : Nat) (hi : i < X.length) : (putAt Z j X)[j + i]?.getD 0 = X[i]?.getD 0 := by
  unfold putAt
  rw [List.getElem?_append_right (by rw [List.length_take]; omega), List.length_take, Nat.min_eq_left hj, Nat.add_sub_cancel_left, List.getElem?_append_left hi]
theorem putAt_set (Z : List Int) (j : Nat) (X : List Int) (hj : j ≤ Z.length) (i : Nat) (hi : i < X.length) (v : Int) : (putAt Z j X).set (j + i) v = putAt Z j (X.set i v) := by
  unfold putAt
  rw [List.set_append_right _ _ (by rw [List.length_take]; omega), List.length_take, Nat.min_eq_left hj, Nat.add_sub_cancel_left, List.set_append_left _ _ hi, List.length_set]
theorem putAt_self (Z : List Int) (j n : Nat) (h : j + n ≤ Z.length) : putAt Z j ((Z.drop j).take n) = Z := by
  unfold putAt
  have e : ((Z.drop j).take n).length = n := by rw [List.length_take, List.length_drop]; omega
  rw [e]
  have e2 : List.drop (j + n) Z = (Z.drop j).drop n := by rw [List.drop_drop]
  rw [e2, List.take_append_drop, List.take_append_drop]
theorem putAt_part (Z : List Int) (j : Nat) (X : List Int) (hj : j ≤ Z.length) : ((putAt Z j X).drop j).take X.length = X := by
  unfold putAt
  rw [List.drop_append_of_le_length (by rw [List.length_take]; omega), List.drop_of_length_le (by rw [List.length_take]; omega), List.nil_append, List.take_left']
  rfl
theorem putAt_put (Z : List Int) (j : Nat) (X Y : List Int) (hj : j + X.length ≤ Z.length) (e : Y.length = X.length) : putAt (putAt Z j X) j Y = putAt Z j Y := by
  unfold putAt
  rw [e, List.take_append_of_le_length (by rw [List.length_take]; omega), List.take_take, Nat.min_self]
  congr 2
  rw [← List.append_assoc, List.drop_left']
  simp [List.length_take]
  omega
theorem putAt_dig {b : Int} {Z X : List Int} (hZ : Dig b Z) (hX : Dig b X) (j : Nat) : Dig b (putAt Z j X) := (hZ.take _).append (hX.append (hZ.drop _))
theorem putAt_val (b : Int) (Z : List Int) (j n : Nat) (X : List Int) (hX : X.length = n) (h : j + n ≤ Z.length) :
    val b (putAt Z j X) = val b Z + b ^ j * (val b X - val b ((Z.drop j).take n)) := by
  have e1 : val b Z = val b (Z.take j) + b ^ j * (val b ((Z.drop j).take n) + b ^ n * val b (Z.drop (j + n))) := by
    have h1 := val_split b Z j (by omega)
    have h2 := val_split b (Z.drop j) n (by rw [List.length_drop]; omega)
    rw [List.drop_drop] at h2
    rw [h1, h2]
  unfold putAt
  rw [val_append, val_append, hX, List.length_take, Nat.min_eq_left (by omega), e1]
  generalize val b (List.drop (j + n) Z) = D
  generalize val b (List.take n (List.drop j Z)) = W
  generalize val b X = V
  generalize b ^ j = P
  generalize b ^ n = R
  grind
end Go.Proofs.Ytgnophflogmmaaa

/- Taking a multiple off, putting it on again, moving up: place by place. -/
namespace Go.Proofs.Ytgnophflogmmaaa

theorem below_step (B : Int) (x X y : List Int) (i : Nat) (hi : i < X.length) (m c r p v r' : Int) (hp : p = y[i]?.getD 0 * m + c) (hv : v = x[i]?.getD 0 - p % B - r + r' * B)
    (E : val B (X.take i) + val B (y.take i) * m = val B (x.take i) + (c + r) * B ^ i) :
    val B ((X.set i v).take (i + 1)) + val B (y.take (i + 1)) * m = val B (x.take (i + 1)) + (p / B + r') * B ^ (i + 1) := by
  rw [val_set_take B X i _ hi, val_take_succ', val_take_succ', Int.pow_succ]
  have h := Int.emod_add_mul_ediv p B
  generalize x[i]?.getD 0 = xi at *
  generalize y[i]?.getD 0 = yi at *
  generalize p / B = q at *
  generalize p % B = s at *
  generalize B ^ i = P at *
  generalize val B (X.take i) = VX at *
  generalize val B (x.take i) = Vx at *
  generalize val B (y.take i) = Vy at *
  have e : s = yi * m + c - B * q := by omega
  subst e
  subst hv
  grind

theorem below_end (B : Int) (x X y : List Int) (n : Nat) (hx : x.length = n + 1) (hX : X.length = n + 1) (hy : y.length = n) (m c r v r' : Int) (hv : v = x[n]?.getD 0 - c - r + r' * B)
    (E : val B (X.take n) + val B (y.take n) * m = val B (x.take n) + (c + r) * B ^ n) :
    val B (X.set n v) + val B y * m = val B x + r' * B ^ (n + 1) := by
  have h1 := val_set_take B X n v (by omega)
  rw [List.take_of_length_le (by rw [List.length_set]; omega)] at h1
  have h2 := val_take_succ' B x n
  rw [List.take_of_length_le (by omega)] at h2
  rw [List.take_of_length_le (show y.length ≤ n by omega)] at E
  rw [h1, h2, Int.pow_succ]
  generalize x[n]?.getD 0 = xi at *
  generalize B ^ n = P at *
  generalize val B (X.take n) = VX at *
  generalize val B (x.take n) = Vx at *
  subst hv
  grind

theorem back_step (B : Int) (x X y : List Int) (i : Nat) (hi : i < X.length) (c s : Int) (hs : s = x[i]?.getD 0 + y[i]?.getD 0 + c)
    (E : val B (X.take i) + c * B ^ i = val B (x.take i) + val B (y.take i)) :
    val B ((X.set i (s % B)).take (i + 1)) + s / B * B ^ (i + 1) = val B (x.take (i + 1)) + val B (y.take (i + 1)) := add_step B x y X i hi c s hs E

theorem back_end (B : Int) (x X y : List Int) (n : Nat) (hx : x.length = n + 1) (hX : X.length = n + 1) (hy : y.length = n) (c s : Int) (hs : s = x[n]?.getD 0 + c)
    (E : val B (X.take n) + c * B ^ n = val B (x.take n) + val B (y.take n)) :
    val B (X.set n (s % B)) + s / B * B ^ (n + 1) = val B x + val B y := by
  have h1 := val_set_take B X n (s % B) (by omega)
  rw [List.take_of_length_le (by rw [List.length_set]; omega)] at h1
  have h2 := val_take_succ' B x n
  rw [List.take_of_length_le (by omega)] at h2
  rw [List.take_of_length_le (show y.length ≤ n by omega)] at E
  have h := Int.emod_add_mul_ediv s B
  rw [h1, h2, Int.pow_succ]
  generalize x[n]?.getD 0 = xi at *
  generalize B ^ n = P at *
  generalize val B (X.take n) = VX at *
  generalize val B (x.take n) = Vx at *
  generalize s / B = q at *
  generalize s % B = t at *
  have e : t = xi + c - B * q := by omega
  subst e
  grind

/-- Moved up by one more place. -/
theorem moved_step (B R : Int) (x X : List Int) (i : Nat) (hX : X.length = i) (c s : Int) (hs : s = x[i]?.getD 0 * R + c)
    (E : val B X + c * B ^ i = val B (x.take i) * R) :
    val B (X ++ [s % B]) + s / B * B ^ (i + 1) = val B (x.take (i + 1)) * R := by
  rw [val_append, val_take_succ', Int.pow_succ, hX]
  have h := Int.emod_add_mul_ediv s B
  simp only [val, Int.mul_zero, Int.add_zero]
  generalize x[i]?.getD 0 = xi at *
  generalize B ^ i = P at *
  generalize val B X = VX at *
  generalize val B (x.take i) = Vx at *
  generalize s / B = q at *
  generalize s % B = t at *
  have e : t = xi * R + c - B * q := by omega
  subst e
  grind
end Go.Proofs.Ytgnophflogmmaaa
