/- Contracts of functions, and plain facts, part 17. -/
import Derived.Deep.LoopGhost
import Derived.Test.YtbcbmkeeoognpaaGreatDoorProg
import Derived.Deep.QuietTactic
import Derived.BigQuiet
import Derived.Deep.AppendLies
import Derived.Deep.RegionLaw
import Derived.Lib.IndexBytes
import Derived.BigRegion
import Derived.Deep.DeepCutAuto
import Derived.Deep.CutBlock
import Derived.Laws.BitsAllLaws
import Derived.Test.YtbcbmkeeoognpaaGreatDoorPk1
import Derived.Test.YtbcbmkeeoognpaaGreatDoorPk4
import Derived.Test.YtbcbmkeeoognpaaGreatDoorPk5
import Derived.Test.YtbcbmkeeoognpaaGreatDoorPk6
import Derived.Test.YtbcbmkeeoognpaaGreatDoorPk7
import Derived.Test.YtbcbmkeeoognpaaGreatDoorPk9
import Derived.Test.YtbcbmkeeoognpaaGreatDoorPk10
import Derived.Test.YtbcbmkeeoognpaaGreatDoorPk11
import Derived.Test.YtbcbmkeeoognpaaGreatDoorPk12
import Derived.Test.YtbcbmkeeoognpaaGreatDoorPk13
import Derived.Test.YtbcbmkeeoognpaaGreatDoorPk14
import Derived.Test.YtbcbmkeeoognpaaGreatDoorPk15
import Derived.Test.YtbcbmkeeoognpaaGreatDoorPk16
set_option linter.unusedVariables false
set_option linter.unusedSimpArgs false
/- quot.Digits: a number in decimal. -/
namespace Go.Proofs.YtbcbmkeeoognpaaGreatDoor
open Go.RowKit

/-- Between two digits. -/
structure DigSt (w : World) (rb : Nat) (NA : Nat) (wr : World) (bd : Option Addr) (bn bc : Nat) (xs : List Int) (x : Option Addr) (n c : Nat) (R : Int) : Prop where
  cell : wr.heap[rb]? = some (.cells #[.slice x n c] 23 (0, 0))
  rds : Rds wr .u32 x n (dg 4294967296 R)
  app : App w.heap.size wr 5 .u8 bd bn bc (asc xs)
  dig : Dig 10 xs
  bel : Below w.heap.size w wr
  size : w.heap.size ≤ wr.heap.size
  rbw : w.heap.size ≤ rb
  sep1 : blkOf bd ≠ some rb
  sep2 : 0 < n → ∀ b, blkOf x = some b → blkOf bd ≠ some b
  nle : n ≤ NA
  pos : 0 ≤ R

theorem DigSt.take {w : World} {rb NA : Nat} {wr : World} {bd : Option Addr} {bn bc : Nat} {xs : List Int} {x : Option Addr} {n c : Nat} {R : Int} (h : DigSt w rb NA wr bd bn bc xs x n c R) {w' : World}
    {ad : Option Addr} {m d : Nat} (t1 : w'.heap[rb]? = some (.cells #[.slice ad m d] 23 (0, 0))) (t2 : Own wr.heap.size w' 44 .u32 ad m d (dg 4294967296 (R / 1000000000)))
    (t3 : ∀ b, blkOf ad = some b → 0 < d → wr.heap.size ≤ b) (t4 : ∀ i, i < wr.heap.size → i ≠ rb → w'.heap[i]? = wr.heap[i]?) (t5 : wr.heap.size ≤ w'.heap.size) (t6 : w'.os = wr.os ∧ w'.tape = wr.tape ∧ w'.output = wr.output) :
    DigSt w rb NA w' bd bn bc xs ad m d (R / 1000000000) := by
  have hR := h.pos
  refine ⟨t1, t2.rds, h.app.kept fun b hb => t4 b (h.app.lt b hb).2 fun e => h.sep1 (by rw [← e]; exact hb), h.dig, h.bel.trans ⟨t6.1, t6.2.1, t6.2.2, t5, fun i hi => t4 i (by have := h.size; omega) (by have := h.rbw; omega)⟩, by have := h.size; omega, h.rbw, h.sep1, ?_, ?_, by omega⟩
  · intro hm b hb e
    have := t3 b hb (by have := t2.le; omega)
    have := (h.app.lt b e).2
    omega
  · have h1 := h.nle
    have h2 := h.rds.len
    have h3 := dg_lt_of_len 4294967296 (by omega) n R hR (by omega)
    rw [← t2.len]
    exact Nat.le_trans (dg_length_le 4294967296 (by omega) n _ (by omega)) h1

theorem DigSt.more {w : World} {rb NA : Nat} {wr : World} {bd : Option Addr} {bn bc : Nat} {xs : List Int} {x : Option Addr} {n c : Nat} {R : Int} (h : DigSt w rb NA wr bd bn bc xs x n c R) {w' : World} {v : Int}
    {ad : Option Addr} {d : Nat} (hv : 0 ≤ v ∧ v < 10) (t1 : App w.heap.size w' 5 .u8 ad (bn + 1) d (asc xs ++ [48 + v])) (t2 : Below w.heap.size w w') (t3 : wr.heap.size ≤ w'.heap.size)
    (t4 : ∀ i, i < wr.heap.size → blkOf bd ≠ some i → w'.heap[i]? = wr.heap[i]?) (t5 : ∀ i, blkOf ad = some i → blkOf bd = some i ∨ wr.heap.size ≤ i) : DigSt w rb NA w' ad (bn + 1) d (xs ++ [v]) x n c R := by
  have hlt := lt_of_block h.cell
  refine ⟨by rw [t4 rb hlt h.sep1]; exact h.cell, h.rds.kept fun hn b hb => ?_, ?_, h.dig.append (Dig.cons hv.1 hv.2 (Dig.nil _)), t2, by have := h.size; omega, h.rbw, fun e => ?_, fun hn b hb e => ?_, h.nle, h.pos⟩
  · obtain ⟨a, ea, ha⟩ := h.rds.lt hn
    have hab : a.block = b := by rw [ea] at hb; exact Option.some.inj hb
    rw [hab] at ha
    exact t4 _ ha (h.sep2 hn _ hb)
  · rw [asc_append, show asc [v] = [48 + v] by simp [asc, Int.add_comm]]
    exact t1
  · rcases t5 rb e with h1 | h1
    · exact h.sep1 h1
    · omega
  · obtain ⟨a, ea, ha⟩ := h.rds.lt hn
    have hab : a.block = b := by rw [ea] at hb; exact Option.some.inj hb
    rw [hab] at ha
    rcases t5 _ e with h1 | h1
    · exact h.sep2 hn _ hb h1
    · omega

end Go.Proofs.YtbcbmkeeoognpaaGreatDoor


/- whole: Sum. (Printed by whole.py.) -/
namespace Go.Proofs.YtbcbmkeeoognpaaGreatDoor
open Go.RowKit

end Go.Proofs.YtbcbmkeeoognpaaGreatDoor


/- crucibleref03: Norm. (Printed by ref03.py.) -/
namespace Go.Proofs.YtbcbmkeeoognpaaGreatDoor
open Go.RowKit

end Go.Proofs.YtbcbmkeeoognpaaGreatDoor


/- crucibleref03: From. (Printed by ref03.py.) -/
namespace Go.Proofs.YtbcbmkeeoognpaaGreatDoor
open Go.RowKit

end Go.Proofs.YtbcbmkeeoognpaaGreatDoor


/- cruciblelaw01: markLimb, isLimb; a Book's keepLimb. -/
namespace Go.Proofs.YtbcbmkeeoognpaaGreatDoor
open Go Go.RowKit

theorem mark_calls (n : Int) (w : World) (hn : 0 ≤ n ∧ n < 2147483648) : Calls Tryz.prog 57 #[.int .i64 n] w (fun e w' => e = .returned (.int .u32 (2147483648 + n)) ∧ w = w') := by
  have e1 : IntKind.i64.wrap (2147483648 + n) = 2147483648 + n := by rw [IntKind.wrap_i64]; omega
  have e2 : IntKind.u32.wrap (2147483648 + n) = 2147483648 + n := by rw [IntKind.wrap_u32]; omega
  go_enter Tryz.func57, Tryz.ntmps57
  go_wp2
  go_ret
  exact ⟨rfl, rfl⟩
theorem isLimb_calls (n : Int) (w : World) (hn : 0 ≤ n ∧ n < 2147483648) : Calls Tryz.prog 115 #[.int .u32 (2147483648 + n), .int .i64 n] w (fun e w' => e = .returned (.bool true) ∧ w = w') := by
  have e1 : IntKind.i64.wrap (2147483648 + n) = 2147483648 + n := by rw [IntKind.wrap_i64]; omega
  have e2 : IntKind.u32.wrap (2147483648 + n) = 2147483648 + n := by rw [IntKind.wrap_u32]; omega
  go_enter Tryz.func115, Tryz.ntmps115
  go_wp2
  go_ret
  exact ⟨by simp, rfl⟩

theorem info_held : (Tryz.prog.info? 150).map (fun i => (i.zero, i.size, i.bytes)) = some (some (.agg #[.slice none 0 0, .slice none 0 0, .int .i64 0]), 3, 56) := by kernel_rfl
/-- The cells of the book. -/
theorem BookAt.cells {B : Nat} {w : World} {b : Nat} {v : Value} {L : List Hd} (h : BookAt B w b v L) : w.cell? ⟨b, 0, none⟩ = some (.int .i64 (L.length : Int)) ∧ w.cell? ⟨b, 1, none⟩ = some v ∧ w.frozen? ⟨b, 0, none⟩ = false ∧ w.frozen? ⟨b, 1, none⟩ = false := by
  have h1 := h.hd
  refine ⟨?_, ?_, ?_, ?_⟩ <;> simp [World.cell?, World.frozen?, h1, bookCells]
/-- What has turned: the book's own cells, rows of what is held. -/
structure Kp (B b : Nat) (w w' : World) : Prop where
  os : w'.os = w.os
  tape : w'.tape = w.tape
  output : w'.output = w.output
  size : w.heap.size ≤ w'.heap.size
  rest : ∀ k, k < w.heap.size → k ≠ b → w'.heap[k]? = w.heap[k]? ∨ (B ≤ k ∧ ∃ cs, w.heap[k]? = some (.cells cs 150 (0, 0)))
theorem Kp.refl (B b : Nat) (w : World) : Kp B b w w := ⟨rfl, rfl, rfl, Nat.le_refl _, fun _ _ _ => .inl rfl⟩
theorem Kp.trans {B b : Nat} {w w1 w2 : World} (h : Kp B b w w1) (k : Kp B b w1 w2) : Kp B b w w2 := by
  refine ⟨k.os.trans h.os, k.tape.trans h.tape, k.output.trans h.output, Nat.le_trans h.size k.size, fun i hi hne => ?_⟩
  rcases h.rest i hi hne with e | e
  · rcases k.rest i (Nat.lt_of_lt_of_le hi h.size) hne with e2 | e2
    · exact .inl (e2.trans e)
    · rw [e] at e2; exact .inr e2
  · exact .inr e
theorem Kp.of_below {B b : Nat} {w w1 : World} (h : Below w.heap.size w w1) : Kp B b w w1 := ⟨h.os, h.tape, h.output, h.size, fun k hk _ => .inl (h.block k hk)⟩
theorem Kp.below {B b : Nat} {w w1 : World} (h : Kp B b w w1) (hb : B ≤ b) (hB : B ≤ w.heap.size) : Below B w w1 :=
  ⟨h.os, h.tape, h.output, h.size, fun k hk => (h.rest k (by omega) (by omega)).resolve_right (by omega)⟩

theorem keep_done {B b : Nat} {v : Value} {L : List Hd} {ad : Option Addr} {n c : Nat} {w w1 w4 : World} {gg cap : Nat} (h : BookAt B w b v L) (hl : L.length < 1000000)
    (ho : HdOk B w ⟨ad, n, c, none, 0, 0⟩) (hs : ∀ h ∈ L, 0 < h.c → 0 < c → blkOf h.ad ≠ blkOf ad) (hO : Only b w w1)
    (hd1 : w1.heap[b]? = some (.cells (bookCells (L.length + 1) v) 42 (0, 0)))
    (hown : w4.ownsRow B 150 3 (.slice (some ⟨gg, 0, none⟩) (L.length + 1) cap) (L.length + 1) (hc 0 L ++ [.slice ad n c, .slice none 0 0, .int .i64 ((L.length : Int) + 1)]))
    (hgrow : (w1.alloc (.cells #[.slice ad n c, .slice none 0 0, .int .i64 ((L.length : Int) + 1)] 150)).drew.grownBy w4 v.ownBlock) (hat : v.ownBlock = some gg ∨ gg = w1.heap.size + 1) :
    Kp B b w (w4.setCell ⟨b, 1, none⟩ (.slice (some ⟨gg, 0, none⟩) (L.length + 1) cap)) ∧ ∃ v', BookAt B (w4.setCell ⟨b, 1, none⟩ (.slice (some ⟨gg, 0, none⟩) (L.length + 1) cap)) b v' (L ++ [⟨ad, n, c, none, 0, 0⟩]) ∧ ∀ x, v'.ownBlock = some x → v.ownBlock = some x ∨ w.heap.size ≤ x := by
  have hlt1 : b < w1.heap.size := by rw [hO.size]; exact h.lt
  have hz : (w1.alloc (.cells #[.slice ad n c, .slice none 0 0, .int .i64 ((L.length : Int) + 1)] 150)).drew.heap.size = w1.heap.size + 1 := by simp
  have old : ∀ k, k < w1.heap.size → some k ≠ v.ownBlock → w4.heap[k]? = w1.heap[k]? := fun k hk hne => (hgrow.block k (by rw [hz]; omega) hne).trans (Go.heap_alloc_old _ _ hk)
  have h4 : w4.heap[b]? = some (.cells (bookCells (L.length + 1) v) 42 (0, 0)) := (old b hlt1 h.row_ne.symm).trans hd1
  have hP : Only b w4 (w4.setCell ⟨b, 1, none⟩ (.slice (some ⟨gg, 0, none⟩) (L.length + 1) cap)) := (Only.refl b w4).set 1 _
  have hf : (w4.setCell ⟨b, 1, none⟩ (.slice (some ⟨gg, 0, none⟩) (L.length + 1) cap)).heap[b]? = some (.cells (bookCells (L.length + 1) (.slice (some ⟨gg, 0, none⟩) (L.length + 1) cap)) 42 (0, 0)) := by
    rw [heap_setCell_same w4 b 1 _ _ _ h4]
    simp [bookCells]
  have hgb : gg ≠ b := by
    rintro rfl
    rcases hown.2 with ⟨h1, _⟩ | ⟨g2, cap2, cur, h1, _, h3, _⟩
    · cases h1
    · injection h1 with h1 _ _
      injection h1 with h1
      injection h1 with h1
      subst h1
      rw [h4] at h3
      injection h3 with h3
      injection h3 with _ h3
      revert h3; decide
  generalize w4.setCell ⟨b, 1, none⟩ (.slice (some ⟨gg, 0, none⟩) (L.length + 1) cap) = wf at *
  have other : ∀ k, k < w.heap.size → k ≠ b → some k ≠ v.ownBlock → wf.heap[k]? = w.heap[k]? := fun k hk hne hv =>
    (hP.rest k hne).trans ((old k (by rw [hO.size]; exact hk) hv).trans (hO.rest k hne))
  have keepH : ∀ h2 : Hd, HdOk B w h2 → HdOk B wf h2 := fun h2 k2 => ⟨k2.le, k2.big, k2.cap, fun hc0 => by
    obtain ⟨g, cs, e, h1, h3, h5⟩ := k2.row hc0
    obtain ⟨n1, n2⟩ := h.block_ne h3
    exact ⟨g, cs, e, h1, (other g (Array.getElem?_eq_some_iff.1 h3).1 n1 n2.symm).trans h3, h5⟩⟩
  refine ⟨⟨hP.os.trans (hgrow.os.trans hO.os), hP.tape.trans (hgrow.tape.trans hO.tape), hP.output.trans (hgrow.output.trans hO.output), ?_, fun k hk hne => ?_⟩, .slice (some ⟨gg, 0, none⟩) (L.length + 1) cap, ⟨h.lo, ?_, ?_, by simp; omega, fun h2 hm => ?_, fun i j hi hj ei ej hij ci cj => ?_⟩, fun x hx => ?_⟩
  · have := hgrow.size
    rw [hz] at this
    rw [hP.size, ← hO.size]
    omega
  · by_cases hv : some k = v.ownBlock
    · right
      rcases h.row.2 with ⟨rfl, _⟩ | ⟨g2, cap2, cur, h1, h2, h3, _⟩
      · simp [Value.ownBlock] at hv
      · rw [h1] at hv
        simp only [Value.ownBlock, Option.some.injEq] at hv
        subst hv
        exact ⟨h2, cur, h3⟩
    · exact .inl (other k hk hne hv)
  · rw [hf]; simp
  · rw [hc_app, List.length_append]
    refine ⟨by simpa using hown.1, ?_⟩
    rcases hown.2 with ⟨h1, _⟩ | ⟨g2, cap2, cur, h1, h2, h3, h5⟩
    · cases h1
    · refine .inr ⟨g2, cap2, cur, h1, h2, ?_, by simpa using h5⟩
      injection h1 with h1 _ _
      injection h1 with h1
      injection h1 with h1
      subst h1
      rw [hP.rest _ hgb]; exact h3
  · rcases List.mem_append.1 hm with hm | hm
    · exact keepH _ (h.one h2 hm)
    · rw [List.mem_singleton] at hm
      subst hm
      exact keepH _ ho
  · rcases Nat.lt_or_ge i L.length with h1 | h1 <;> rcases Nat.lt_or_ge j L.length with h3 | h3
    · rw [List.getElem?_append_left h1] at ei
      rw [List.getElem?_append_left h3] at ej
      exact h.sep i j hi hj ei ej hij ci cj
    · rw [List.getElem?_append_left h1] at ei
      rw [List.getElem?_append_right h3] at ej
      have h0 : j - L.length = 0 := by
        rcases Nat.eq_zero_or_pos (j - L.length) with h5 | h5
        · exact h5
        · rw [List.getElem?_eq_none (by simp; omega)] at ej; cases ej
      rw [h0] at ej
      simp only [List.getElem?_cons_zero, Option.some.injEq] at ej
      subst ej
      exact hs hi (List.mem_of_getElem? ei) ci cj
    · rw [List.getElem?_append_left h3] at ej
      rw [List.getElem?_append_right h1] at ei
      have h0 : i - L.length = 0 := by
        rcases Nat.eq_zero_or_pos (i - L.length) with h5 | h5
        · exact h5
        · rw [List.getElem?_eq_none (by simp; omega)] at ei; cases ei
      rw [h0] at ei
      simp only [List.getElem?_cons_zero, Option.some.injEq] at ei
      subst ei
      exact (hs hj (List.mem_of_getElem? ej) cj ci).symm
    · exfalso
      have h5 := (List.getElem?_eq_some_iff.1 ei).1
      have h6 := (List.getElem?_eq_some_iff.1 ej).1
      simp at h5 h6
      omega
  · simp only [Value.ownBlock, Option.some.injEq] at hx
    subst hx
    rcases hat with h5 | h5
    · exact .inl h5
    · right
      rw [h5, hO.size]
      omega

set_option maxHeartbeats 4000000 in
set_option maxRecDepth 100000 in
theorem keep_calls (B b : Nat) (v : Value) (L : List Hd) (ad : Option Addr) (n c : Nat) (w : World) (h : BookAt B w b v L) (hB : B ≤ w.heap.size) (hl : L.length < 1000000)
    (ho : HdOk B w ⟨ad, n, c, none, 0, 0⟩) (hs : ∀ h ∈ L, 0 < h.c → 0 < c → blkOf h.ad ≠ blkOf ad) :
    Calls Tryz.prog 63 #[.pointer (some ⟨b, 0, none⟩), .slice ad n c] w (fun e w' => e = .returned (.tuple #[]) ∧ Kp B b w w' ∧ ∃ v', BookAt B w' b v' (L ++ [⟨ad, n, c, none, 0, 0⟩]) ∧ ∀ x, v'.ownBlock = some x → v.ownBlock = some x ∨ w.heap.size ≤ x) := by
  obtain ⟨c0, c1, f0, f1⟩ := h.cells
  have eL : IntKind.i64.wrap ((L.length : Int) + 1) = (L.length : Int) + 1 := by rw [IntKind.wrap_i64]; omega
  go_enter Tryz.func63, Tryz.ntmps63
  go_wp2
  have hO : Only b w (w.setCell ⟨b, 0, none⟩ (.int .i64 ((L.length : Int) + 1))) := (Only.refl b w).set 0 _
  have hd1 : (w.setCell ⟨b, 0, none⟩ (.int .i64 ((L.length : Int) + 1))).heap[b]? = some (.cells (bookCells (L.length + 1) v) 42 (0, 0)) := by
    rw [heap_setCell_same w b 0 _ _ _ h.hd]
    simp [bookCells]
  have hr1 : (w.setCell ⟨b, 0, none⟩ (.int .i64 ((L.length : Int) + 1))).ownsRow B 150 3 v L.length (hc 0 L) := by
    refine ⟨h.row.1, ?_⟩
    rcases h.row.2 with h2 | ⟨g, cap, cur, h1, h2, h3, h4⟩
    · exact .inl h2
    · refine .inr ⟨g, cap, cur, h1, h2, ?_, h4⟩
      rw [hO.rest g fun e => h.row_ne (by rw [h1, e]; rfl)]
      exact h3
  generalize w.setCell ⟨b, 0, none⟩ (.int .i64 ((L.length : Int) + 1)) = w1 at *
  have hB1 : B ≤ w1.heap.size := by rw [hO.size]; exact hB
  have d0 : w1.cell? ⟨b, 0, none⟩ = some (.int .i64 ((L.length : Int) + 1)) := by simp [World.cell?, hd1, bookCells]
  have d1 : w1.cell? ⟨b, 1, none⟩ = some v := by simp [World.cell?, hd1, bookCells]
  have d2 : w1.frozen? ⟨b, 1, none⟩ = false := by simp [World.frozen?, hd1]
  have hlt1 : b < w1.heap.size := by rw [hO.size]; exact h.lt
  have hne := h.row_ne
  have hln := hc_len L 0
  obtain ⟨i0, hi0, hz0, hz1, hz2⟩ := info_parts info_held
  clear c0 c1 f0 f1 eL
  go_region_law (refine step_append_lies _ rfl (.tmp 15) (.tmp 22) _ rfl B 150 i0 _ 3 56 Tryz.underlying27 hi0 hz0 hz1 hz2 rfl (by omega) v L.length (hc 0 L) (by simp [Act.eval, Act.put]) (hr1.alloc _) ⟨w1.heap.size, 0, none⟩ 1 1 [.slice ad n c, .slice none 0 0, .int .i64 ((L.length : Int) + 1)] (by simp [Act.eval, Act.put]) (by rfl) (World.news_of_block (cs := #[.slice ad n c, .slice none 0 0, .int .i64 ((L.length : Int) + 1)]) (t := 150) (fr := (0, 0)) (heap_alloc_new w1 _)) (by simp [Value.oneCell']) (by omega) (by simp only [maxLen]; omega) (by omega) (by simp; omega) (w1.heap.size + 1) (by simp) ?_; intro gg cap w4 hown1 hgrow hat hlt4; have q1 : w4.cell? ⟨b, 1, none⟩ = some v := hgrow.cell ((World.cell?_alloc_lt _ _ _ hlt1).trans d1) hne.symm; have q2 : w4.frozen? ⟨b, 1, none⟩ = false := (hgrow.frozen_far ⟨b, 1, none⟩ (by simp; omega) hne.symm).trans ((World.frozen?_of_block (Go.heap_alloc_old _ _ hlt1)).trans d2))
  all_goals
    go_end0
    exact ⟨rfl, keep_done h hl ho hs hO hd1 hown1 hgrow hat⟩
end Go.Proofs.YtbcbmkeeoognpaaGreatDoor


/- crucibleref02.FromBytes: the number of bytes. (Printed by r2fromb.py.) -/
namespace Go.Proofs.YtbcbmkeeoognpaaGreatDoor
open Go.RowKit

end Go.Proofs.YtbcbmkeeoognpaaGreatDoor


/- quot.Div: quotient and rest. -/
namespace Go.Proofs.YtbcbmkeeoognpaaGreatDoor
open Go.RowKit

end Go.Proofs.YtbcbmkeeoognpaaGreatDoor

