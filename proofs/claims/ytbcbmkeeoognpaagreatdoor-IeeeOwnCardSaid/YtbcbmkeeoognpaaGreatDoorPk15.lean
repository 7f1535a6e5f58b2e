/- Contracts of functions, and plain facts, part 15. -/
import Derived.Laws.OwnMore
import Derived.ArgAppend
import Derived.Laws.Tables
import Derived.Lib.IndexBytes
import Derived.BigRegion
import Derived.Deep.DeepCutAuto
import Derived.Deep.CutBlock
import Derived.Laws.BitsAllLaws
import Derived.Test.YtbcbmkeeoognpaaGreatDoorPk4
import Derived.Test.YtbcbmkeeoognpaaGreatDoorPk9
import Derived.Test.YtbcbmkeeoognpaaGreatDoorPk12
import Derived.Test.YtbcbmkeeoognpaaGreatDoorPk13
set_option linter.unusedVariables false
set_option linter.unusedSimpArgs false
/- A Book of lists of limbs in memory: what it holds, that no two of its lists share memory; nothing here walks. -/
namespace Go.Proofs.YtbcbmkeeoognpaaGreatDoor
open Go.RowKit

/-- A list that is held: the slice, and what has been put behind it. -/
structure Hd where
  ad : Option Addr
  n : Nat
  c : Nat
  la : Option Addr
  ln : Nat
  lc : Nat
/-- The cells of the row of what is held. -/
def hc : Nat → List Hd → List Value
  | _, [] => []
  | s, h :: t => .slice h.ad h.n h.c :: .slice h.la h.ln h.lc :: .int .i64 ((s + 1 : Nat) : Int) :: hc (s + 1) t
def setLv (L : List Hd) (i : Nat) (la : Option Addr) (ln lc : Nat) : List Hd := L.modify i fun h => { h with la := la, ln := ln, lc := lc }
theorem hc_len : ∀ (L : List Hd) (s : Nat), (hc s L).length = L.length * 3
  | [], s => rfl
  | h :: t, s => by simp only [hc, List.length_cons, hc_len t (s + 1)]; omega
theorem hc_get : ∀ (L : List Hd) (s i : Nat) (h : Hd), L[i]? = some h → (hc s L)[3 * i]? = some (.slice h.ad h.n h.c) ∧ (hc s L)[3 * i + 1]? = some (.slice h.la h.ln h.lc) ∧ (hc s L)[3 * i + 2]? = some (.int .i64 ((s + i + 1 : Nat) : Int))
  | [], s, i, h, e => by simp at e
  | a :: t, s, 0, h, e => by
    simp only [List.getElem?_cons_zero, Option.some.injEq] at e
    subst e
    exact ⟨rfl, rfl, rfl⟩
  | a :: t, s, i + 1, h, e => by
    have := hc_get t (s + 1) i h (by simpa using e)
    have e1 : 3 * (i + 1) = 3 * i + 1 + 1 + 1 := by omega
    have e2 : 3 * (i + 1) + 1 = (3 * i + 1) + 1 + 1 + 1 := by omega
    have e3 : 3 * (i + 1) + 2 = (3 * i + 2) + 1 + 1 + 1 := by omega
    rw [e3, e2, e1]
    simp only [hc, List.getElem?_cons_succ]
    refine ⟨this.1, this.2.1, ?_⟩
    rw [this.2.2, show s + 1 + i + 1 = s + (i + 1) + 1 by omega]
theorem hc_set (la : Option Addr) (ln lc : Nat) : ∀ (L : List Hd) (s i : Nat), (hc s L).set (3 * i + 1) (.slice la ln lc) = hc s (setLv L i la ln lc)
  | [], s, i => by simp [hc, setLv]
  | a :: t, s, 0 => rfl
  | a :: t, s, i + 1 => by
    have := hc_set la ln lc t (s + 1) i
    have e2 : 3 * (i + 1) + 1 = (3 * i + 1) + 1 + 1 + 1 := by omega
    rw [e2]
    simp only [hc, setLv, List.set_cons_succ, List.modify_succ_cons] at this ⊢
    rw [this]
theorem hc_app : ∀ (L : List Hd) (s : Nat) (h : Hd), hc s (L ++ [h]) = hc s L ++ [.slice h.ad h.n h.c, .slice h.la h.ln h.lc, .int .i64 ((s + L.length + 1 : Nat) : Int)]
  | [], s, h => by simp [hc]
  | a :: t, s, h => by
    have := hc_app t (s + 1) h
    simp only [List.cons_append, hc, this, List.length_cons]
    rw [show s + 1 + t.length + 1 = s + (t.length + 1) + 1 by omega]
theorem setLv_len (L : List Hd) (i : Nat) (la : Option Addr) (ln lc : Nat) : (setLv L i la ln lc).length = L.length := by simp [setLv]
theorem setLv_get (L : List Hd) (i j : Nat) (la : Option Addr) (ln lc : Nat) (h : Hd) (e : (setLv L i la ln lc)[j]? = some h) : ∃ g, L[j]? = some g ∧ h.ad = g.ad ∧ h.n = g.n ∧ h.c = g.c ∧ (i = j → h.la = la ∧ h.ln = ln ∧ h.lc = lc) ∧ (i ≠ j → h = g) := by
  unfold setLv at e
  rw [List.getElem?_modify] at e
  cases hj : L[j]? with
  | none => rw [hj] at e; simp at e
  | some g =>
    rw [hj] at e
    by_cases hij : i = j
    · subst hij
      simp at e
      subst e
      exact ⟨g, rfl, rfl, rfl, rfl, fun _ => ⟨rfl, rfl, rfl⟩, fun h => absurd rfl h⟩
    · simp [hij] at e
      subst e
      exact ⟨g, rfl, rfl, rfl, rfl, fun h => absurd h hij, fun _ => rfl⟩
/-- The book's own cells. -/
def bookCells (n : Nat) (v : Value) : Array Value := #[.int .i64 (n : Int), v, .slice none 0 0, .slice none 0 0, .slice none 0 0, .slice none 0 0, .slice none 0 0, .slice none 0 0, .slice none 0 0, .slice none 0 0, .slice none 0 0, .slice none 0 0, .slice none 0 0, .slice none 0 0, .slice none 0 0]
/-- A list's memory: limbs, from block B on. -/
structure HdOk (B : Nat) (w : World) (h : Hd) : Prop where
  le : h.n ≤ h.c
  big : h.n ≤ 4398046511104
  cap : h.c ≤ 9223372036854775807
  row : 0 < h.c → ∃ g cs, h.ad = some ⟨g, 0, none⟩ ∧ B ≤ g ∧ w.heap[g]? = some (.cells cs 44 (0, 0)) ∧ h.c ≤ cs.size
def Sep (L : List Hd) : Prop := ∀ (i j : Nat) (hi hj : Hd), L[i]? = some hi → L[j]? = some hj → i ≠ j → 0 < hi.c → 0 < hj.c → blkOf hi.ad ≠ blkOf hj.ad
/-- The book at block b, its lists L. -/
structure BookAt (B : Nat) (w : World) (b : Nat) (v : Value) (L : List Hd) : Prop where
  lo : B ≤ b
  hd : w.heap[b]? = some (.cells (bookCells L.length v) 42 (0, 0))
  row : w.ownsRow B 150 3 v L.length (hc 0 L)
  len : L.length ≤ 1000000
  one : ∀ h ∈ L, HdOk B w h
  sep : Sep L
theorem BookAt.lt {B : Nat} {w : World} {b : Nat} {v : Value} {L : List Hd} (h : BookAt B w b v L) : b < w.heap.size := (Array.getElem?_eq_some_iff.1 h.hd).1
theorem HdOk.below {B B' : Nat} {w w1 : World} {h : Hd} (k : HdOk B w h) (hb : Below B' w w1) (hB : w.heap.size ≤ B') : HdOk B w1 h :=
  ⟨k.le, k.big, k.cap, fun hc => by
    obtain ⟨g, cs, e, h1, h2, h3⟩ := k.row hc
    exact ⟨g, cs, e, h1, by rw [hb.block g (Nat.lt_of_lt_of_le (Array.getElem?_eq_some_iff.1 h2).1 hB)]; exact h2, h3⟩⟩
theorem ownsRow_below {B B' e size n : Nat} {v : Value} {xs : List Value} {w w1 : World} (h : w.ownsRow B e size v n xs) (hb : Below B' w w1) (hB : w.heap.size ≤ B') : w1.ownsRow B e size v n xs := by
  refine ⟨h.1, ?_⟩
  rcases h.2 with h2 | ⟨g, cap, cur, h1, h2, h3, h4⟩
  · exact .inl h2
  · exact .inr ⟨g, cap, cur, h1, h2, by rw [hb.block g (Nat.lt_of_lt_of_le (Array.getElem?_eq_some_iff.1 h3).1 hB)]; exact h3, h4⟩
theorem BookAt.below {B B' : Nat} {w w1 : World} {b : Nat} {v : Value} {L : List Hd} (h : BookAt B w b v L) (hb : Below B' w w1) (hB : w.heap.size ≤ B') : BookAt B w1 b v L :=
  ⟨h.lo, by rw [hb.block b (Nat.lt_of_lt_of_le h.lt hB)]; exact h.hd, ownsRow_below h.row hb hB, h.len, fun k hk => (h.one k hk).below hb hB, h.sep⟩
theorem BookAt.drewN {B : Nat} {w : World} {b : Nat} {v : Value} {L : List Hd} (h : BookAt B w b v L) (n : Nat) : BookAt B (w.drewN n) b v L := h.below (below_drewN (Below.refl _ _) n) (Nat.le_refl _)

/-- The block of a held list is neither the book's nor the row's. -/
theorem BookAt.block_ne {B : Nat} {w : World} {b : Nat} {v : Value} {L : List Hd} (h : BookAt B w b v L) {g : Nat} {cs : Array Value} (hg : w.heap[g]? = some (.cells cs 44 (0, 0))) : g ≠ b ∧ v.ownBlock ≠ some g := by
  constructor
  · rintro rfl
    rw [h.hd] at hg
    injection hg with hg
    injection hg with _ h2
    revert h2; decide
  · intro e
    rcases h.row.2 with ⟨rfl, _⟩ | ⟨g2, cap, cur, rfl, _, h3, _⟩
    · simp [Value.ownBlock] at e
    · simp only [Value.ownBlock, Option.some.injEq] at e
      subst e
      rw [h3] at hg
      injection hg with hg
      injection hg with _ h2
      revert h2; decide
theorem BookAt.row_ne {B : Nat} {w : World} {b : Nat} {v : Value} {L : List Hd} (h : BookAt B w b v L) : v.ownBlock ≠ some b := by
  intro e
  rcases h.row.2 with ⟨rfl, _⟩ | ⟨g2, cap, cur, rfl, _, h3, _⟩
  · simp [Value.ownBlock] at e
  · simp only [Value.ownBlock, Option.some.injEq] at e
    subst e
    have hg := h.hd
    rw [h3] at hg
    injection hg with hg
    injection hg with _ h2
    revert h2; decide
/-- A store into a row of limbs keeps the book. -/
theorem BookAt.fill {B : Nat} {w : World} {b : Nat} {v : Value} {L : List Hd} (h : BookAt B w b v L) {g : Nat} {cs : Array Value} (hg : w.heap[g]? = some (.cells cs 44 (0, 0))) (j : Nat) (x : Int) :
    BookAt B (w.setCell ⟨g, j, none⟩ (.int .u32 x)) b v L := by
  obtain ⟨n1, n2⟩ := h.block_ne hg
  have hO : Only g w (w.setCell ⟨g, j, none⟩ (.int .u32 x)) := (Only.refl g w).set j _
  have hg2 : (w.setCell ⟨g, j, none⟩ (.int .u32 x)).heap[g]? = some (.cells (cs.setIfInBounds j (.int .u32 x)) 44 (0, 0)) := heap_setCell_same w g j cs _ _ hg
  refine ⟨h.lo, by rw [hO.rest b (Ne.symm n1)]; exact h.hd, ⟨h.row.1, ?_⟩, h.len, fun k hk => ?_, h.sep⟩
  · rcases h.row.2 with h2 | ⟨g2, cap, cur, h1, h2, h3, h4⟩
    · exact .inl h2
    · refine .inr ⟨g2, cap, cur, h1, h2, ?_, h4⟩
      rw [hO.rest g2 fun e => n2 (by rw [h1, e]; rfl)]
      exact h3
  · refine ⟨(h.one k hk).le, (h.one k hk).big, (h.one k hk).cap, fun hc => ?_⟩
    obtain ⟨q, ds, e, h1, h2, h3⟩ := (h.one k hk).row hc
    by_cases e2 : q = g
    · subst e2
      rw [hg] at h2
      injection h2 with h2
      injection h2 with h2 _
      subst h2
      exact ⟨q, _, e, h1, hg2, by simpa using h3⟩
    · exact ⟨q, ds, e, h1, by rw [hO.rest q e2]; exact h2, h3⟩
/-- Rows of limbs are written upon, no other block turns. -/
theorem BookAt.turn {B : Nat} {w w1 : World} {b : Nat} {v : Value} {L : List Hd} (h : BookAt B w b v L) (hr : ∀ i, i < w.heap.size → w1.heap[i]? = w.heap[i]? ∨ ∃ cs cs' : Array Value, w.heap[i]? = some (.cells cs 44 (0, 0)) ∧ w1.heap[i]? = some (.cells cs' 44 (0, 0)) ∧ cs.size ≤ cs'.size) : BookAt B w1 b v L := by
  have key : ∀ (i : Nat) (cs : Array Value) (t : TypeId), t ≠ 44 → w.heap[i]? = some (.cells cs t (0, 0)) → w1.heap[i]? = some (.cells cs t (0, 0)) := fun i cs t ht hi => by
    rcases hr i (Array.getElem?_eq_some_iff.1 hi).1 with e | ⟨ds, ds', e, _⟩
    · exact e.trans hi
    · rw [hi] at e
      injection e with e
      injection e with _ e
      exact absurd e ht
  refine ⟨h.lo, key b _ _ (by decide) h.hd, ⟨h.row.1, ?_⟩, h.len, fun k hk => ⟨(h.one k hk).le, (h.one k hk).big, (h.one k hk).cap, fun hc => ?_⟩, h.sep⟩
  · rcases h.row.2 with h2 | ⟨g2, cap, cur, h1, h2, h3, h4⟩
    · exact .inl h2
    · exact .inr ⟨g2, cap, cur, h1, h2, key g2 _ _ (by decide) h3, h4⟩
  · obtain ⟨q, ds, e, h1, h2, h3⟩ := (h.one k hk).row hc
    rcases hr q (Array.getElem?_eq_some_iff.1 h2).1 with e1 | ⟨cs, cs', e1, e2, e3⟩
    · exact ⟨q, ds, e, h1, e1.trans h2, h3⟩
    · rw [h2] at e1
      injection e1 with e1
      injection e1 with e1 _
      subst e1
      exact ⟨q, cs', e, h1, e2, by omega⟩
end Go.Proofs.YtbcbmkeeoognpaaGreatDoor


/- append(v, y) of a list that the call owns: in its room, or in a new row. -/
namespace Go.Proofs.YtbcbmkeeoognpaaGreatDoor
open Go Go.RowKit

/-- Where the list lies behind the append. -/
def Grew (W w1 : World) (e : TypeId) (k : IntKind) (y : Int) (ad : Option Addr) (n c : Nat) (ad1 : Option Addr) (c1 : Nat) : Prop :=
  (n < c ∧ ad1 = ad ∧ c1 = c ∧ ∃ g cs, ad = some ⟨g, 0, none⟩ ∧ W.heap[g]? = some (.cells cs e (0, 0)) ∧ n < cs.size ∧ w1.heap[g]? = some (.cells (cs.setIfInBounds n (.int k y)) e (0, 0)) ∧ ∀ i, i < W.heap.size → i ≠ g → w1.heap[i]? = W.heap[i]?) ∨
  (∃ g1 cs1, ad1 = some ⟨g1, 0, none⟩ ∧ W.heap.size ≤ g1 ∧ w1.heap[g1]? = some (.cells cs1 e (0, 0)) ∧ ∀ i, i < W.heap.size → w1.heap[i]? = W.heap[i]?)
theorem take_put (cs : Array Value) (n : Nat) (u : Value) (hn : n < cs.size) : (cs.toList.take n ++ [u] ++ cs.toList.drop (n + 1)).toArray = cs.setIfInBounds n u := by
  apply Array.ext'
  rw [Array.toList_setIfInBounds]
  simp only [List.append_assoc, List.singleton_append]
  rw [List.set_eq_take_append_cons_drop, if_pos (by simpa using hn)]
section
variable {P : Program} {ops : Array Oper} {rest : List Oper} {o : Oper} {a : Act} {Q : Exit → Act → World → Prop}
theorem app_own {w0 W : World} (B : Nat) (hgd : o.guard = none) (s x : Operand) (t e : TypeId) (k : IntKind) (bytes : Nat)
    (ho : o.op = .call { callee := .builtin .append, args := #[s, x], argTypes := #[t, t] })
    (ht : P.underlying t = some (.slice e)) (hinfo : (P.info? e).map (fun i => (i.zero, i.size, i.bytes)) = some (some (.int k 0), 1, bytes)) (hb0 : 0 < bytes)
    (ad : Option Addr) (n c : Nat) (xs : List Int) (y : Int) (hs : a.eval s = .slice ad n c) (hx : a.eval x = .slice (some ⟨W.heap.size, 0, none⟩) 1 1)
    (HO : Own B W e k ad n c xs) (HB : Below B w0 W) (hB : B ≤ W.heap.size) (hl : (n + 1) * bytes ≤ 140737488355328)
    (h : ∀ ad1 c1 w1, Own B w1 e k ad1 (n + 1) c1 (xs ++ [y]) → Below B w0 w1 → W.heap.size ≤ w1.heap.size → Grew W w1 e k y ad n c ad1 c1 → wpList P ops Q rest (a.put o.dst (.slice ad1 (n + 1) c1)) w1) :
    wpList P ops Q (o :: rest) a (W.alloc (.cells #[.int k y] e)) := by
  obtain ⟨i0, hi, hzz⟩ := Option.map_eq_some_iff.1 hinfo
  simp only [Prod.mk.injEq] at hzz
  obtain ⟨hz0, hz1, hz2⟩ := hzz
  have hlen : n + 1 ≤ 140737488355328 := Nat.le_trans (Nat.le_mul_of_pos_right _ hb0) hl
  have hnews : ∀ j u, ([Value.int k y] : List Value)[j]? = some u → (W.alloc (.cells #[.int k y] e)).cell? ((⟨W.heap.size, 0, none⟩ : Addr).add j) = some u := World.news_of_block (cs := #[.int k y]) (t := e) (fr := (0, 0)) (heap_alloc_new W _)
  have h1 : ∀ u ∈ ([Value.int k y] : List Value), u.oneCell' = true := by intro u hu; simp at hu; subst hu; rfl
  have hle := HO.le
  have hxl := HO.len
  have hsz : (W.alloc (.cells #[.int k y] e)).heap.size = W.heap.size + 1 := by simp
  by_cases hroom : n + 1 ≤ c
  · obtain ⟨g, cs, rfl, hgB, hg, hcs, hcell⟩ := HO.row (by omega)
    have hgl : g < W.heap.size := (Array.getElem?_eq_some_iff.1 hg).1
    have hg2 : (W.alloc (.cells #[.int k y] e)).heap[g]? = some (.cells cs e (0, 0)) := (Go.heap_alloc_old W _ hgl).trans hg
    have hr := run_append_room (P := P) (W.alloc (.cells #[.int k y] e)) t o.type e i0 ht hi g n c cs hg2 ⟨W.heap.size, 0, none⟩ 1 1 [.int k y] (by simp [hz1]) hnews h1 hroom (by rw [hz1]; simp; omega)
    rw [hz1, Nat.mul_one] at hr
    simp only [List.length_singleton] at hr
    rw [take_put cs n _ (by omega)] at hr
    refine Go.Lib.wpList_append_run _ hgd s x t t ho _ _ hs hx _ _ hr ?_
    have hnew := setRow_heap (W.alloc (.cells #[.int k y] e)) g cs (cs.setIfInBounds n (.int k y)) e (0, 0) hg2
    have hold : ∀ i, i ≠ g → ((W.alloc (.cells #[.int k y] e)).setRow g (cs.setIfInBounds n (.int k y))).heap[i]? = (W.alloc (.cells #[.int k y] e)).heap[i]? := fun i hi => setRow_other _ g i _ hi
    have hsz2 : ((W.alloc (.cells #[.int k y] e)).setRow g (cs.setIfInBounds n (.int k y))).heap.size = W.heap.size + 1 := by simp [World.setRow]
    refine h _ _ _ ⟨by simp [hxl], hroom, HO.big, fun _ => ⟨g, _, rfl, hgB, hnew, by simpa using hcs, fun j hj => ?_⟩⟩ ⟨HB.os, HB.tape, HB.output, by rw [hsz2]; have := HB.size; omega, fun i hi => ?_⟩ (by rw [hsz2]; omega)
      (.inl ⟨by omega, rfl, rfl, g, cs, rfl, hg, by omega, hnew, fun i hi hne => (hold i hne).trans (Go.heap_alloc_old W _ hi)⟩)
    · rw [Array.getElem?_setIfInBounds]
      by_cases e2 : n = j
      · subst e2
        rw [if_pos rfl, if_pos (by omega), List.getElem?_append_right (by omega), hxl]
        simp
      · rw [if_neg e2, hcell j (by omega), List.getElem?_append_left (by omega)]
    · rw [hold i (by omega), Go.heap_alloc_old W _ (by omega)]
      exact HB.block i hi
  · have hn0 : ad = none → n = 0 ∧ c = 0 := fun e0 => by
      by_cases hc : 0 < c
      · obtain ⟨g, cs, e1, _⟩ := HO.row hc
        rw [e0] at e1; cases e1
      · omega
    refine wpList_append_grows (W.alloc (.cells #[.int k y] e)) hgd s x t ho e i0 (.int k 0) 1 bytes ht hi hz0 hz1 hz2 rfl (by omega) ad n c (nums k xs) hs hn0 (by simp [nums, hxl]) (fun b hb j u hu => ?_) ⟨W.heap.size, 0, none⟩ 1 1 [.int k y] hx rfl hnews h1 (by omega) (by simp only [maxLen]; omega) hl ?_
    · have hj : j < n := by
        have := (List.getElem?_eq_some_iff.1 hu).1
        simpa [nums, hxl] using this
      obtain ⟨b2, e2, hc2⟩ := HO.rds.cell j hj
      rw [hb] at e2
      injection e2 with e2
      subst e2
      rw [nums_get k xs j (by omega)] at hu
      rw [← hu, ← hc2]
      exact World.cell?_alloc_lt _ _ _ (World.block_lt_of_cell? W _ hc2)
    · intro v1 w1 hown hgr
      rw [hsz] at hown
      obtain ⟨g, cap, rfl, hb, hlt⟩ := hown.form (by omega)
      have hown2 : App (W.heap.size + 1) w1 e k (some ⟨g, 0, none⟩) (n + 1) cap (xs ++ [y]) := by
        have := hown
        unfold App nums
        rw [List.map_append]
        exact this
      have hold : ∀ i, i < W.heap.size → w1.heap[i]? = W.heap[i]? := fun i hi => (hgr.block i (by rw [hsz]; omega) (by simp)).trans (Go.heap_alloc_old W _ hi)
      have hsz1 := hgr.size
      rw [hsz] at hsz1
      obtain ⟨g2, cs2, e2, _, h2, _⟩ := hown2.own.row (by have := hown2.own.le; omega)
      injection e2 with e2
      injection e2 with e2
      subst e2
      exact h _ _ w1 (hown2.own.mono (by omega)) ⟨hgr.os.trans HB.os, hgr.tape.trans HB.tape, hgr.output.trans HB.output, by have := HB.size; omega, fun i hi => (hold i (by omega)).trans (HB.block i hi)⟩ (by omega) (.inr ⟨g, cs2, rfl, by omega, h2, hold⟩)
end
end Go.Proofs.YtbcbmkeeoognpaaGreatDoor


/- quot.FromBytes: the number of bytes. -/
namespace Go.Proofs.YtbcbmkeeoognpaaGreatDoor
open Go.RowKit

end Go.Proofs.YtbcbmkeeoognpaaGreatDoor


/- whole: Neg. (Printed by whole.py.) -/
namespace Go.Proofs.YtbcbmkeeoognpaaGreatDoor
open Go.RowKit

end Go.Proofs.YtbcbmkeeoognpaaGreatDoor

