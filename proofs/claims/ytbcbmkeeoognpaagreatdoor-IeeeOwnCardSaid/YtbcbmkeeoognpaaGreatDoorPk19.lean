/- Contracts of functions, and plain facts, part 19. -/
import Derived.Deep.LoopGhost
import Derived.Lib.BufferWrite
import Derived.Laws.CopyOwn
import Derived.BigRegion
import Derived.Test.YtbcbmkeeoognpaaGreatDoorPk4
import Derived.Test.YtbcbmkeeoognpaaGreatDoorPk5
import Derived.Test.YtbcbmkeeoognpaaGreatDoorPk6
import Derived.Test.YtbcbmkeeoognpaaGreatDoorPk7
import Derived.Test.YtbcbmkeeoognpaaGreatDoorPk9
import Derived.Test.YtbcbmkeeoognpaaGreatDoorPk11
import Derived.Test.YtbcbmkeeoognpaaGreatDoorPk12
import Derived.Test.YtbcbmkeeoognpaaGreatDoorPk13
import Derived.Test.YtbcbmkeeoognpaaGreatDoorPk14
import Derived.Test.YtbcbmkeeoognpaaGreatDoorPk15
import Derived.Test.YtbcbmkeeoognpaaGreatDoorPk17
import Derived.Test.YtbcbmkeeoognpaaGreatDoorPk18
set_option linter.unusedVariables false
set_option linter.unusedSimpArgs false
/- A Book's growLimb. -/
namespace Go.Proofs.YtbcbmkeeoognpaaGreatDoor
open Go Go.RowKit

/-- What has been put behind list q: marks, in memory that no other list has. -/
def LongOk (w : World) (L : List Hd) (q : Nat) (h : Hd) : Prop :=
  h.ln = h.n + 70 ∧ ∃ lg cs, h.la = some ⟨lg, 0, none⟩ ∧ w.heap[lg]? = some (.cells cs 44 (0, 0)) ∧ (∀ j, j < h.ln → cs[j]? = some (.int .u32 (2147483648 + ((q : Int) + 1)))) ∧ (∀ p hp, p ≠ q → L[p]? = some hp → 0 < hp.c → blkOf hp.ad ≠ some lg)
def Grown (w : World) (L : List Hd) (i : Nat) : Prop := ∀ (q : Nat) (h : Hd), q < i → L[q]? = some h → LongOk w L q h
theorem Filled.kept {w w1 : World} {L : List Hd} {i : Nat} (h : Filled w L i) (hk : ∀ (q : Nat) (p : Hd) (g : Nat), q < i → L[q]? = some p → p.ad = some ⟨g, 0, none⟩ → 0 < p.n → g < w.heap.size → ∀ j, j < p.n → w1.cell? ⟨g, j, none⟩ = w.cell? ⟨g, j, none⟩) : Filled w1 L i := fun q p g hq hp hg j hj => by
  have := h q p g hq hp hg j hj
  rw [hk q p g hq hp hg (by omega) (World.block_lt_of_cell? w _ this) j hj]
  exact this
theorem Grown.kept {w w1 : World} {L : List Hd} {i : Nat} (h : Grown w L i) (hk : ∀ (q : Nat) (p : Hd) (g : Nat), q < i → L[q]? = some p → p.la = some ⟨g, 0, none⟩ → g < w.heap.size → w1.heap[g]? = w.heap[g]?) : Grown w1 L i := fun q p hq hp => by
  obtain ⟨h1, lg, cs, h2, h3, h4, h5⟩ := h q p hq hp
  exact ⟨h1, lg, cs, h2, (hk q p lg hq hp h2 (Array.getElem?_eq_some_iff.1 h3).1).trans h3, h4, h5⟩
theorem Grown.below {B : Nat} {w w1 : World} {L : List Hd} {i : Nat} (h : Grown w L i) (hb : Below B w w1) (hB : w.heap.size ≤ B) : Grown w1 L i := h.kept fun _ _ g _ _ _ hg => hb.block g (Nat.lt_of_lt_of_le hg hB)
/-- The list as one's own, full of marks. -/
theorem BookAt.mine {B : Nat} {w : World} {b : Nat} {v : Value} {L : List Hd} (h : BookAt B w b v L) {N i : Nat} (hf : Filled w L N) (hi : i < N) {q : Hd} (hq : L[i]? = some q) : Own B w 44 .u32 q.ad q.n q.c (List.replicate q.n (2147483648 + ((i : Int) + 1))) := by
  have k := h.one q (List.mem_of_getElem? hq)
  refine ⟨by simp, k.le, k.cap, fun hc => ?_⟩
  obtain ⟨g, cs, e, h1, h2, h3⟩ := k.row hc
  refine ⟨g, cs, e, h1, h2, h3, fun j hj => ?_⟩
  have := hf i q g hi hq e j hj
  rw [cell_row h2] at this
  rw [this, List.getElem?_replicate, if_pos hj]
  rfl
/-- The long list is laid beside its list. -/
theorem BookAt.laid {B : Nat} {w : World} {b : Nat} {L : List Hd} {rb cap : Nat} (h : BookAt B w b (.slice (some ⟨rb, 0, none⟩) L.length cap) L) (i : Nat) (la : Option Addr) (ln lc : Nat) :
    BookAt B (w.setCell ⟨rb, i * 3 + 1, none⟩ (.slice la ln lc)) b (.slice (some ⟨rb, 0, none⟩) L.length cap) (setLv L i la ln lc) := by
  have hO : Only rb w (w.setCell ⟨rb, i * 3 + 1, none⟩ (.slice la ln lc)) := (Only.refl rb w).set _ _
  have hs := (h.row.stored (i * 3 + 1) (.slice la ln lc)).1
  rw [Nat.mul_comm i 3, hc_set] at hs
  rw [Nat.mul_comm i 3] at hO ⊢
  have hbr : b ≠ rb := fun e => h.row_ne (by rw [e]; rfl)
  have hrt : ∀ (g : Nat) (cs : Array Value), w.heap[g]? = some (.cells cs 44 (0, 0)) → g ≠ rb := fun g cs hg e => (h.block_ne hg).2 (by rw [e]; rfl)
  refine ⟨h.lo, ?_, by rw [setLv_len]; exact hs, by rw [setLv_len]; exact h.len, fun p hp => ?_, fun x y hx hy ex ey hxy cx cy => ?_⟩
  · rw [setLv_len, hO.rest b hbr]; exact h.hd
  · obtain ⟨x, hx⟩ := List.getElem?_of_mem hp
    obtain ⟨g, hg, e1, e2, e3, _⟩ := setLv_get L i x la ln lc p hx
    have k := h.one g (List.mem_of_getElem? hg)
    refine ⟨by rw [e2, e3]; exact k.le, by rw [e2]; exact k.big, by rw [e3]; exact k.cap, fun hc => ?_⟩
    rw [e3] at hc ⊢
    rw [e1]
    obtain ⟨q, ds, r1, r2, r3, r4⟩ := k.row hc
    exact ⟨q, ds, r1, r2, (hO.rest q (hrt q ds r3)).trans r3, r4⟩
  · obtain ⟨g, hg, e1, e2, e3, _⟩ := setLv_get L i x la ln lc hx ex
    obtain ⟨g2, hg2, f1, f2, f3, _⟩ := setLv_get L i y la ln lc hy ey
    rw [e1, f1]
    exact h.sep x y g g2 hg hg2 hxy (by rw [← e3]; exact cx) (by rw [← f3]; exact cy)
theorem Filled.laid {w : World} {L : List Hd} {N : Nat} (h : Filled w L N) (i : Nat) (la : Option Addr) (ln lc : Nat) : Filled w (setLv L i la ln lc) N := fun q p g hq hp hg j hj => by
  obtain ⟨p0, h0, e1, e2, e3, _⟩ := setLv_get L i q la ln lc p hp
  exact h q p0 g hq h0 (by rw [← e1]; exact hg) j (by rw [← e2]; exact hj)
theorem Grown.laid {w : World} {L : List Hd} {i : Nat} (h : Grown w L i) {p : Hd} (hp : L[i]? = some p) {lg lc : Nat} {cs : Array Value} (hw : w.heap[lg]? = some (.cells cs 44 (0, 0)))
    (hm : ∀ j, j < p.n + 70 → cs[j]? = some (.int .u32 (2147483648 + ((i : Int) + 1)))) (hs : ∀ q hq, q ≠ i → L[q]? = some hq → 0 < hq.c → blkOf hq.ad ≠ some lg) : Grown w (setLv L i (some ⟨lg, 0, none⟩) (p.n + 70) lc) (i + 1) := fun q r hq hr => by
  have conv : ∀ (q lg : Nat), (∀ x hx, x ≠ q → L[x]? = some hx → 0 < hx.c → blkOf hx.ad ≠ some lg) → ∀ x hx, x ≠ q → (setLv L i (some ⟨lg, 0, none⟩) (p.n + 70) lc)[x]? = some hx → 0 < hx.c → blkOf hx.ad ≠ some lg := fun q lg k x hx hne ex cx => by
    obtain ⟨x0, h0, e1, e2, e3, _⟩ := setLv_get L i x _ _ _ hx ex
    rw [e1]
    exact k x x0 hne h0 (by rw [← e3]; exact cx)
  have conv2 : ∀ (q lg2 : Nat), (∀ x hx, x ≠ q → L[x]? = some hx → 0 < hx.c → blkOf hx.ad ≠ some lg2) → ∀ x hx, x ≠ q → (setLv L i (some ⟨lg, 0, none⟩) (p.n + 70) lc)[x]? = some hx → 0 < hx.c → blkOf hx.ad ≠ some lg2 := fun q lg2 k x hx hne ex cx => by
    obtain ⟨x0, h0, e1, e2, e3, _⟩ := setLv_get L i x _ _ _ hx ex
    rw [e1]
    exact k x x0 hne h0 (by rw [← e3]; exact cx)
  obtain ⟨r0, h0, e1, e2, e3, e4, e5⟩ := setLv_get L i q _ _ _ r hr
  by_cases e : q = i
  · subst e
    obtain ⟨f1, f2, f3⟩ := e4 rfl
    rw [hp] at h0
    injection h0 with h0
    subst h0
    exact ⟨by rw [f2, e2], lg, cs, f1, hw, fun j hj => hm j (by rw [f2] at hj; exact hj), conv2 q lg hs⟩
  · obtain ⟨g1, lg2, cs2, g2, g3, g4, g5⟩ := h q r0 (by omega) h0
    have e6 := e5 (Ne.symm e)
    subst e6
    exact ⟨g1, lg2, cs2, g2, g3, g4, conv2 q lg2 g5⟩

/-- The state within the inner loop: the long list so far. -/
structure GrowI (B : Nat) (w0 w : World) (b : Nat) (v : Value) (L : List Hd) (i n H : Nat) (cells : Array Value) (k : Nat) (la : Option Addr) (lc : Nat) : Prop where
  at_ : BookAt B w b v L
  filled : Filled w L L.length
  grown : Grown w L i
  below : Below B w0 w
  size : B ≤ w.heap.size
  box : w.heap[H]? = some (.cells cells 150 (0, 0))
  own : Own B w 44 .u32 la (n + k) lc (List.replicate (n + k) (2147483648 + ((i : Int) + 1)))
  sep1 : 0 < lc → ∀ p hp, p ≠ i → L[p]? = some hp → 0 < hp.c → blkOf hp.ad ≠ blkOf la
  sep2 : 0 < lc → ∀ q h, q < i → L[q]? = some h → blkOf h.la ≠ blkOf la
theorem GrowI.step {B : Nat} {w0 w w1 : World} {b : Nat} {v : Value} {L : List Hd} {i n H : Nat} {cells : Array Value} {k : Nat} {la : Option Addr} {lc : Nat} (h : GrowI B w0 w b v L i n H cells k la lc) (hi : ∃ q, L[i]? = some q ∧ q.n = n)
    {la1 : Option Addr} {lc1 : Nat} (ho : Own B w1 44 .u32 la1 (n + k + 1) lc1 (List.replicate (n + k) (2147483648 + ((i : Int) + 1)) ++ [2147483648 + ((i : Int) + 1)])) (hb : Below B w0 w1) (hs : w.heap.size ≤ w1.heap.size) (hg : Grew w w1 44 .u32 (2147483648 + ((i : Int) + 1)) la (n + k) lc la1 lc1) :
    GrowI B w0 w1 b v L i n H cells (k + 1) la1 lc1 := by
  have hho : Own B w1 44 .u32 la1 (n + (k + 1)) lc1 (List.replicate (n + (k + 1)) (2147483648 + ((i : Int) + 1))) := by
    rw [← Nat.add_assoc, List.replicate_succ']
    exact ho
  have typ : ∀ g cs, w.heap[g]? = some (.cells cs 44 (0, 0)) → H ≠ g := by
    rintro g cs hg rfl
    have := h.box
    rw [hg] at this
    injection this with this
    injection this with _ this
    revert this; decide
  have hH : H < w.heap.size := (Array.getElem?_eq_some_iff.1 h.box).1
  rcases hg with ⟨g1, rfl, rfl, g, cs, rfl, g2, g3, g4, g5⟩ | ⟨g, cs1, rfl, g2, g3, g4⟩
  · have hlc : 0 < lc1 := by omega
    refine ⟨h.at_.turn fun j hj => ?_, h.filled.kept fun q p g6 hq hp hpa hp0 hlt j hj => ?_, h.grown.kept fun q p g6 hq hp hpa hlt => ?_, hb, by have := h.size; omega, (g5 H hH (typ g cs g2)).trans h.box, hho, h.sep1, h.sep2⟩
    · by_cases e : j = g
      · subst e
        exact .inr ⟨cs, _, g2, g4, by simp⟩
      · exact .inl (g5 j hj e)
    · by_cases e : g6 = g
      · subst e
        have hqi : q = i := by
          by_cases e2 : q = i
          · exact e2
          · have hle := (h.at_.one p (List.mem_of_getElem? hp)).le
            exact absurd (by rw [hpa]) (h.sep1 hlc q p e2 hp (by omega))
        obtain ⟨q2, e3, e4⟩ := hi
        rw [hqi, e3] at hp
        injection hp with hp
        subst hp
        rw [cell_row g4, cell_row g2, Array.getElem?_setIfInBounds, if_neg (by omega)]
      · exact World.cell?_of_block (g5 g6 hlt e)
    · refine g5 g6 hlt fun e => ?_
      subst e
      exact h.sep2 hlc q p hq hp (by rw [hpa])
  · refine ⟨h.at_.turn fun j hj => .inl (g4 j hj), h.filled.kept fun q p g6 hq hp hpa hp0 hlt j hj => World.cell?_of_block (g4 g6 hlt), h.grown.kept fun q p g6 hq hp hpa hlt => g4 g6 hlt, hb, by have := h.size; omega, (g4 H hH).trans h.box, hho, fun hc p hp hne hpp hpc e => ?_, fun hc q r hq hr e => ?_⟩
    · obtain ⟨x, ds, e1, e2, e3, e4⟩ := (h.at_.one hp (List.mem_of_getElem? hpp)).row hpc
      rw [e1] at e
      have e5 : x = g := by injection e
      have := (Array.getElem?_eq_some_iff.1 e3).1
      omega
    · obtain ⟨_, lg, ds, e1, e2, _⟩ := h.grown q r hq hr
      rw [e1] at e
      have e5 : lg = g := by injection e
      have := (Array.getElem?_eq_some_iff.1 e2).1
      omega

set_option maxHeartbeats 4000000 in
set_option maxRecDepth 100000 in
theorem grow_calls (B b : Nat) (v : Value) (L : List Hd) (w : World) (h : BookAt B w b v L) (hB : B ≤ w.heap.size) (hF : Filled w L L.length) :
    Calls Tryz.prog 78 #[.pointer (some ⟨b, 0, none⟩)] w (fun e w' => e = .returned (.tuple #[]) ∧ (∃ L', L'.length = L.length ∧ BookAt B w' b v L' ∧ Filled w' L' L'.length ∧ Grown w' L' L'.length) ∧ Below B w w') := by
  have hL := h.len
  obtain ⟨vd, vc, rfl⟩ := h.form
  obtain ⟨N, hN⟩ : ∃ N, L.length = N := ⟨_, rfl⟩
  rw [hN] at h hL hF ⊢
  have hN2 := Lib.hid hN
  clear hN
  go_enter Tryz.func78, Tryz.ntmps78
  go_wp2
  go_loopw [2] (fun x wr => ∃ i : Nat, i ≤ N ∧ x = .int .i64 i ∧ (∃ L', L'.length = N ∧ BookAt B wr b (.slice vd N vc) L' ∧ Filled wr L' L'.length ∧ Grown wr L' i) ∧ Below B w wr ∧ B ≤ wr.heap.size) (fun x _ => N - (intOf x).toNat)
  case atStart => exact ⟨0, Nat.zero_le _, rfl, ⟨L, hN2.out, h, by rw [hN2.out]; exact hF, fun q _ hq => absurd hq (Nat.not_lt_zero _)⟩, Below.refl _ _, hB⟩
  case round =>
    clear h hF
    obtain ⟨i, hi, rfl, ⟨L', hL', h1, h2, h5⟩, h3, h4⟩ := hrel
    clear hN2 L
    subst hL'
    obtain ⟨c0, c1, f0, f1⟩ := h1.cells
    by_cases hil : i < L'.length
    · obtain ⟨q, hq⟩ : ∃ q, L'[i]? = some q := ⟨_, List.getElem?_eq_getElem hil⟩
      obtain ⟨ad, n, c, la0, ln0, lc0⟩ := q
      obtain ⟨rb, cap, hv, r1, r2, r3, e0, e1, e2, fr⟩ := h1.held hq
      simp only at e0 e1
      injection hv with hv1 _ hv2
      subst hv1 hv2
      have hqo := (h1.one _ (List.mem_of_getElem? hq)).le
      have hqb := (h1.one _ (List.mem_of_getElem? hq)).big
      have hmine := h1.mine h2 hil hq
      simp only at hqo hqb hmine
      go_wp2
      obtain ⟨H, hH⟩ : ∃ H, wr.heap.size = H := ⟨_, rfl⟩
      have hI : GrowI B w (wr.alloc (.cells #[.slice ad n c, .slice la0 ln0 lc0, .int .i64 ((i : Int) + 1)] 150)) b (.slice (some ⟨rb, 0, none⟩) L'.length vc) L' i n H #[.slice ad n c, .slice la0 ln0 lc0, .int .i64 ((i : Int) + 1)] 0 ad c := by
        have hb0 : Below wr.heap.size wr (wr.alloc (.cells #[.slice ad n c, .slice la0 ln0 lc0, .int .i64 ((i : Int) + 1)] 150)) := (Below.refl _ _).alloc (Nat.le_refl _) _
        refine ⟨h1.below hb0 (Nat.le_refl _), h2.below hb0 (Nat.le_refl _), h5.below hb0 (Nat.le_refl _), h3.alloc h4 _, Nat.le_trans h4 hb0.size, hH ▸ heap_alloc_new wr _, hmine.below hb0 (Nat.le_refl _), fun hc p hp hne hpp hpc => h1.sep p i hp _ hpp hq hne hpc hc, fun hc x hx hxi hxx e => ?_⟩
        obtain ⟨_, lg, cs, g1, g2, g3, g4⟩ := h5 x hx hxi hxx
        exact g4 i _ (by omega) hq hc (by show blkOf ad = _; rw [← e, g1]; rfl)
      rw [hH]
      generalize wr.alloc (.cells #[.slice ad n c, .slice la0 ln0 lc0, .int .i64 ((i : Int) + 1)] 150) = w2 at *
      clear h1 h2 h3 h4 h5 c0 c1 f0 f1 e0 e1 e2 fr hH hmine
      have a0 := cell_row hI.box 0
      simp at a0
      go_wp2
      clear a0
      go_loopw [4, 5] (fun l y wr => ∃ (k : Nat) (la : Option Addr) (lc : Nat), k ≤ 70 ∧ y = .int .i64 k ∧ l = .slice la (n + k) lc ∧ GrowI B w wr b (.slice (some ⟨rb, 0, none⟩) L'.length vc) L' i n H #[.slice ad n c, .slice la0 ln0 lc0, .int .i64 ((i : Int) + 1)] k la lc) (fun _ y _ => 70 - (intOf y).toNat)
      case atStart => exact ⟨0, ad, c, by omega, rfl, rfl, hI⟩
      case round =>
        clear hI
        obtain ⟨k, la, lc, hk, rfl, rfl, hI⟩ := hrel
        have a0 := cell_row hI.box 0
        have a2 := cell_row hI.box 2
        simp at a0 a2
        by_cases hkn : k < 70
        · have M := mark_calls ((i : Int) + 1)
          go_wp2_with fail
          refine (M _ (by omega)).mono ?_
          rintro e w' ⟨rfl, rfl⟩
          clear M
          go_wp2_with (at_builtin; refine app_own (w0 := w) B rfl (.tmp 28) (.tmp 32) 22 44 .u32 4 rfl Tryz.underlying22 info_limbL (by omega) la (n + k) lc (List.replicate (n + k) (2147483648 + ((i : Int) + 1))) (2147483648 + ((i : Int) + 1)) rfl rfl hI.own hI.below hI.size (by omega) ?_; intro la1 lc1 w3 k1 k2 k3 k4)
          have K := Lib.hid (hI.step ⟨_, hq, rfl⟩ k1 k2 k3 k4)
          clear hI k1 k2 k3 k4 a0 a2
          go_wp2
          go_roundw
          case rel => exact ⟨k + 1, la1, lc1, by omega, by go_num, rfl, K.out⟩
          case measure => simp [intOf]; omega
        · obtain rfl : k = 70 := by omega
          obtain ⟨p0, p1, p2, p3⟩ := hI.at_.cells
          obtain ⟨rb2, cap2, hv2, _, _, _, _, q1, _, fr2⟩ := hI.at_.held hq
          injection hv2 with hv2 _ _
          injection hv2 with hv2
          injection hv2 with hv2
          subst hv2
          have f2 := fr2 (i * 3 + 1)
          clear fr2
          go_wp2
          go_roundw
          case rel =>
            obtain ⟨lg, cs, rfl, g1, g2, g3, g4⟩ := hI.own.row (by have := hI.own.le; omega)
            have hO : Only rb wr (wr.setCell ⟨rb, i * 3 + 1, none⟩ (.slice (some ⟨lg, 0, none⟩) (n + 70) lc)) := (Only.refl rb wr).set _ _
            have hrt : ∀ (g : Nat) (cs : Array Value), wr.heap[g]? = some (.cells cs 44 (0, 0)) → g ≠ rb := fun g cs hg e => (hI.at_.block_ne hg).2 (by rw [e]; rfl)
            have hlc : 0 < lc := by have := hI.own.le; omega
            refine ⟨i + 1, by omega, by go_num, ⟨setLv L' i (some ⟨lg, 0, none⟩) (n + 70) lc, setLv_len .., ?_, ?_, ?_⟩, hO.below hI.below r1, ?_⟩
            · exact hI.at_.laid i _ _ _
            · rw [setLv_len]
              refine Filled.laid (hI.filled.kept fun q p g hq hp hpa hp0 hlt j hj => ?_) i _ _ _
              have hle := (hI.at_.one p (List.mem_of_getElem? hp)).le
              obtain ⟨x, ds, e1, e2, e3, e4⟩ := (hI.at_.one p (List.mem_of_getElem? hp)).row (by omega)
              rw [hpa] at e1
              injection e1 with e1
              injection e1 with e1
              subst e1
              exact World.cell?_of_block (hO.rest g (hrt g ds e3))
            · refine Grown.laid (hI.grown.kept fun q p g hq hp hpa hlt => ?_) hq (cs := cs) ((hO.rest lg (hrt lg cs g2)).trans g2) (fun j hj => ?_) (fun q h hne hqq hqc e => hI.sep1 hlc q h hne hqq hqc (by rw [e]; rfl))
              · obtain ⟨_, x, ds, e1, e2, _⟩ := hI.grown q p hq hp
                rw [hpa] at e1
                injection e1 with e1
                injection e1 with e1
                subst e1
                exact hO.rest g (hrt g ds e2)
              · have := g4 j hj
                rw [List.getElem?_replicate, if_pos hj] at this
                exact this
            · rw [hO.size]; exact hI.size
          case measure => simp [intOf]; omega
    · obtain rfl : i = L'.length := by omega
      go_wp2
      go_end0
      exact ⟨rfl, ⟨L', rfl, h1, h2, h5⟩, h3⟩
end Go.Proofs.YtbcbmkeeoognpaaGreatDoor


/- quot.Gcd. -/
namespace Go.Proofs.YtbcbmkeeoognpaaGreatDoor
open Go.RowKit

end Go.Proofs.YtbcbmkeeoognpaaGreatDoor


/- whole: Quo. (Printed by whole.py.) -/
namespace Go.Proofs.YtbcbmkeeoognpaaGreatDoor
open Go.RowKit

/-- The quotient cut towards 0 and what is left are told. -/
def RetQuo (Q R : Int) (ok : Bool) (w : World) (e : Ending) (w' : World) : Prop :=
  ∃ ad n c ad2 n2 c2, e = .returned (.tuple #[.agg #[.bool (decide (Q < 0)), .slice ad n c], .agg #[.bool (decide (R < 0)), .slice ad2 n2 c2], .bool ok]) ∧ Can w' ad n c Q.natAbs ∧ Can w' ad2 n2 c2 R.natAbs ∧ Below w.heap.size w w'
end Go.Proofs.YtbcbmkeeoognpaaGreatDoor


/- whole: Show. (Printed by whole.py.) -/
namespace Go.Proofs.YtbcbmkeeoognpaaGreatDoor
open Go.RowKit

end Go.Proofs.YtbcbmkeeoognpaaGreatDoor


/- whole: Read. (Printed by whole.py.) -/
namespace Go.Proofs.YtbcbmkeeoognpaaGreatDoor
open Go.RowKit

end Go.Proofs.YtbcbmkeeoognpaaGreatDoor


/- whole: Twos. (Printed by whole.py.) -/
namespace Go.Proofs.YtbcbmkeeoognpaaGreatDoor
open Go.RowKit

section
variable {P : Program} {ops : Array Oper} {rest : List Oper} {o : Oper} {a : Act} {Q : Exit → Act → World → Prop}
end

end Go.Proofs.YtbcbmkeeoognpaaGreatDoor


/- A Book's lookLimb: all is as it was marked. -/
namespace Go.Proofs.YtbcbmkeeoognpaaGreatDoor
open Go Go.RowKit

set_option maxHeartbeats 4000000 in
set_option maxRecDepth 100000 in
theorem look_calls (B b : Nat) (v : Value) (L : List Hd) (w : World) (h : BookAt B w b v L) (hB : B ≤ w.heap.size) (hF : Filled w L L.length) (hG : Grown w L L.length) :
    Calls Tryz.prog 92 #[.pointer (some ⟨b, 0, none⟩)] w (fun e w' => e = .returned (.bool true) ∧ Below w.heap.size w w') := by
  have hL := h.len
  obtain ⟨vd, vc, rfl⟩ := h.form
  go_enter Tryz.func92, Tryz.ntmps92
  go_wp2
  go_loopw [3] (fun x wr => ∃ i : Nat, i ≤ L.length ∧ x = .int .i64 i ∧ Below w.heap.size w wr) (fun x _ => L.length - (intOf x).toNat)
  case atStart => exact ⟨0, Nat.zero_le _, rfl, Below.refl _ _⟩
  case round =>
    obtain ⟨i, hi, rfl, hb⟩ := hrel
    have h1 := h.below hb (Nat.le_refl _)
    have h2 := hF.below hb (Nat.le_refl _)
    have h3 := hG.below hb (Nat.le_refl _)
    obtain ⟨c0, c1, f0, f1⟩ := h1.cells
    by_cases hil : i < L.length
    · obtain ⟨q, hq⟩ : ∃ q, L[i]? = some q := ⟨_, List.getElem?_eq_getElem hil⟩
      obtain ⟨el, lg, cs, ela, hlg, hmark, _⟩ := h3 i q hil hq
      obtain ⟨ad, n, c, la, ln, lc⟩ := q
      simp only at el ela hmark
      subst el ela
      obtain ⟨rb, cap, hv, r1, r2, r3, e0, e1, e2, fr⟩ := h1.held hq
      simp only at e0 e1
      injection hv with hv1 _ hv2
      subst hv1 hv2
      have hqo := (h1.one _ (List.mem_of_getElem? hq)).le
      have hqb := (h1.one _ (List.mem_of_getElem? hq)).big
      have hrow := (h1.one _ (List.mem_of_getElem? hq)).row
      simp only at hqo hqb hrow
      have hb0 : Below wr.heap.size wr (wr.alloc (.cells #[.slice ad n c, .slice (some ⟨lg, 0, none⟩) (n + 70) lc, .int .i64 ((i : Int) + 1)] 150)) := (Below.refl _ _).alloc (Nat.le_refl _) _
      have hbb := below_trans hb hb0
      have h4 := (h1.below hb0 (Nat.le_refl _))
      have h5 := (h2.below hb0 (Nat.le_refl _))
      have hlg2 := (hb0.block lg (Array.getElem?_eq_some_iff.1 hlg).1).trans hlg
      have W1 : IntKind.i64.wrap ((n : Int) + 70) = (n : Int) + 70 := by rw [IntKind.wrap_i64]; omega
      go_wp2
      have hbox : (wr.alloc (.cells #[.slice ad n c, .slice (some ⟨lg, 0, none⟩) (n + 70) lc, .int .i64 ((i : Int) + 1)] 150)).heap[wr.heap.size]? = some (.cells #[.slice ad n c, .slice (some ⟨lg, 0, none⟩) (n + 70) lc, .int .i64 ((i : Int) + 1)] 150 (0, 0)) := heap_alloc_new wr _
      obtain ⟨H, hH⟩ : ∃ H, wr.heap.size = H := ⟨_, rfl⟩
      rw [hH] at hbox ⊢
      generalize wr.alloc (.cells #[.slice ad n c, .slice (some ⟨lg, 0, none⟩) (n + 70) lc, .int .i64 ((i : Int) + 1)] 150) = w2 at *
      clear h1 h2 h3 hb hb0 hlg c0 c1 f0 f1 e0 e1 e2 fr hH hrow
      have hrow := (h4.one _ (List.mem_of_getElem? hq)).row
      simp only at hrow
      go_wp2
      go_loopw [5] (fun y wr => ∃ k : Nat, k ≤ n + 70 ∧ y = .int .i64 k ∧ Below w2.heap.size w2 wr) (fun y _ => n + 70 - (intOf y).toNat)
      case atStart => exact ⟨0, by omega, rfl, Below.refl _ _⟩
      case round =>
        obtain ⟨k, hk, rfl, hb⟩ := hrel
        have hbx := (hb.block H (Array.getElem?_eq_some_iff.1 hbox).1).trans hbox
        have hlx := (hb.block lg (Array.getElem?_eq_some_iff.1 hlg2).1).trans hlg2
        have a0 := cell_row hbx 0
        have a1 := cell_row hbx 1
        have a2 := cell_row hbx 2
        simp at a0 a1 a2
        have W2 : IntKind.i64.wrap ((k : Int) + 1) = (k : Int) + 1 := by rw [IntKind.wrap_i64]; omega
        by_cases hk1 : k < n + 70
        · have b1 : wr.cell? ⟨lg, k, none⟩ = some (.int .u32 (2147483648 + ((i : Int) + 1))) := by rw [cell_row hlx]; exact hmark k hk1
          have M := isLimb_calls ((i : Int) + 1)
          by_cases hk2 : k < n
          · obtain ⟨g, ds, rfl, g1, g2, g3⟩ := hrow (by omega)
            have b2 : wr.cell? ⟨g, k, none⟩ = some (.int .u32 (2147483648 + ((i : Int) + 1))) := (hb.cell (p := ⟨g, k, none⟩) (Array.getElem?_eq_some_iff.1 g2).1).trans (h5 i _ g hil hq rfl k hk2)
            go_wp2
            go_region_held3 (fun w' => w'.cell? ⟨H, 0, none⟩ = some (.slice (some ⟨g, 0, none⟩) n c) ∧ w'.cell? ⟨H, 1, none⟩ = some (.slice (some ⟨lg, 0, none⟩) (n + 70) lc) ∧ w'.cell? ⟨H, 2, none⟩ = some (.int .i64 ((i : Int) + 1)) ∧ w'.cell? ⟨lg, k, none⟩ = some (.int .u32 (2147483648 + ((i : Int) + 1))) ∧ w'.cell? ⟨g, k, none⟩ = some (.int .u32 (2147483648 + ((i : Int) + 1)))) (go_keep)
              (first | (go_at_call 115; refine (M _ (by omega)).mono ?_; rintro e w' ⟨rfl, rfl⟩))
            go_wp2
            go_roundw
            case rel => exact ⟨k + 1, by omega, by go_num, below_drew hb⟩
            case measure => simp [intOf]; omega
          · go_wp2
            go_quiet ((go_at_call 115; exact quiet_left (M _ (by omega))))
            go_wp2
            go_roundw
            case rel => exact ⟨k + 1, by omega, by go_num, below_drewN hb _⟩
            case measure => simp [intOf]; omega
        · obtain rfl : k = n + 70 := by omega
          go_wp2
          go_roundw
          case rel => exact ⟨i + 1, by omega, by go_num, below_trans hbb hb⟩
          case measure => simp [intOf]; omega
    · obtain rfl : i = L.length := by omega
      go_wp2
      go_ret
      exact ⟨rfl, hb⟩
end Go.Proofs.YtbcbmkeeoognpaaGreatDoor


/- quot.Gcd, FromBytes by worth alone. -/
namespace Go.Proofs.YtbcbmkeeoognpaaGreatDoor
open Go.RowKit

end Go.Proofs.YtbcbmkeeoognpaaGreatDoor


/- whole.Twos, for every number. -/
namespace Go.Proofs.YtbcbmkeeoognpaaGreatDoor
open Go.RowKit

end Go.Proofs.YtbcbmkeeoognpaaGreatDoor


/- crucibleref02.Digits: a number in decimal. -/
namespace Go.Proofs.YtbcbmkeeoognpaaGreatDoor
open Go.RowKit

end Go.Proofs.YtbcbmkeeoognpaaGreatDoor


/- A Book's Apart: no two lists share memory. (Printed by book.py.) -/
set_option maxRecDepth 50000
namespace Go.Proofs.YtbcbmkeeoognpaaGreatDoor
open Go Go.RowKit

set_option maxHeartbeats 8000000 in
theorem apart_calls (B b : Nat) (v : Value) (L : List Hd) (w : World) (h : BookAt B w b v L) (hB : B ≤ w.heap.size) : Calls Tryz.prog 18 #[.pointer (some ⟨b, 0, none⟩)] w (fun e w' => e = .returned (.bool true) ∧ Below B w w') := by
  have F := Lib.hid (fill_calls B b v L w h hB)
  clear h
  go_enter Tryz.func18, Tryz.ntmps18
  go_wp2_with fail
  refine (F.out).mono ?_
  rintro e w1 ⟨rfl, h1, h2, h3⟩
  clear F
  have hB1 : B ≤ w1.heap.size := Nat.le_trans hB h3.size
  have N1 := Lib.hid (none_fillValue b w1 (h1.nilc 2 rfl))
  go_wp2_with fail
  refine (N1.out).mono ?_
  rintro e w2 ⟨rfl, rfl⟩
  clear N1
  have N1 := Lib.hid (none_fillText b w1 (h1.nilc 3 rfl))
  go_wp2_with fail
  refine (N1.out).mono ?_
  rintro e w2 ⟨rfl, rfl⟩
  clear N1
  have N1 := Lib.hid (none_fillByte b w1 (h1.nilc 4 rfl))
  go_wp2_with fail
  refine (N1.out).mono ?_
  rintro e w2 ⟨rfl, rfl⟩
  clear N1
  have N1 := Lib.hid (none_fillSum b w1 (h1.nilc 5 rfl))
  go_wp2_with fail
  refine (N1.out).mono ?_
  rintro e w2 ⟨rfl, rfl⟩
  clear N1
  have N1 := Lib.hid (none_fillRune b w1 (h1.nilc 6 rfl))
  go_wp2_with fail
  refine (N1.out).mono ?_
  rintro e w2 ⟨rfl, rfl⟩
  clear N1
  have N1 := Lib.hid (none_fillUnit b w1 (h1.nilc 7 rfl))
  go_wp2_with fail
  refine (N1.out).mono ?_
  rintro e w2 ⟨rfl, rfl⟩
  clear N1
  have N1 := Lib.hid (none_fillInt64 b w1 (h1.nilc 8 rfl))
  go_wp2_with fail
  refine (N1.out).mono ?_
  rintro e w2 ⟨rfl, rfl⟩
  clear N1
  have N1 := Lib.hid (none_fillFloat b w1 (h1.nilc 9 rfl))
  go_wp2_with fail
  refine (N1.out).mono ?_
  rintro e w2 ⟨rfl, rfl⟩
  clear N1
  have N1 := Lib.hid (none_fillComplex b w1 (h1.nilc 10 rfl))
  go_wp2_with fail
  refine (N1.out).mono ?_
  rintro e w2 ⟨rfl, rfl⟩
  clear N1
  have N1 := Lib.hid (none_fillInt b w1 (h1.nilc 11 rfl))
  go_wp2_with fail
  refine (N1.out).mono ?_
  rintro e w2 ⟨rfl, rfl⟩
  clear N1
  have N1 := Lib.hid (none_fillEdit b w1 (h1.nilc 12 rfl))
  go_wp2_with fail
  refine (N1.out).mono ?_
  rintro e w2 ⟨rfl, rfl⟩
  clear N1
  have N1 := Lib.hid (none_fillResult b w1 (h1.nilc 13 rfl))
  go_wp2_with fail
  refine (N1.out).mono ?_
  rintro e w2 ⟨rfl, rfl⟩
  clear N1
  have N1 := Lib.hid (none_fillJob b w1 (h1.nilc 14 rfl))
  go_wp2_with fail
  refine (N1.out).mono ?_
  rintro e w2 ⟨rfl, rfl⟩
  clear N1
  have F := Lib.hid (grow_calls B b v L w1 h1 hB1 h2)
  go_wp2_with fail
  refine (F.out).mono ?_
  clear F h1 h2
  rintro e w3 ⟨rfl, ⟨L3, _, h1, h2, h4⟩, h5⟩
  have hB3 : B ≤ w3.heap.size := Nat.le_trans hB1 h5.size
  have h6 := h3.trans h5
  clear h3 h5
  have N1 := Lib.hid (none_growValue b w3 (h1.nilc 2 rfl))
  go_wp2_with fail
  refine (N1.out).mono ?_
  rintro e w2 ⟨rfl, rfl⟩
  clear N1
  have N1 := Lib.hid (none_growText b w3 (h1.nilc 3 rfl))
  go_wp2_with fail
  refine (N1.out).mono ?_
  rintro e w2 ⟨rfl, rfl⟩
  clear N1
  have N1 := Lib.hid (none_growByte b w3 (h1.nilc 4 rfl))
  go_wp2_with fail
  refine (N1.out).mono ?_
  rintro e w2 ⟨rfl, rfl⟩
  clear N1
  have N1 := Lib.hid (none_growSum b w3 (h1.nilc 5 rfl))
  go_wp2_with fail
  refine (N1.out).mono ?_
  rintro e w2 ⟨rfl, rfl⟩
  clear N1
  have N1 := Lib.hid (none_growRune b w3 (h1.nilc 6 rfl))
  go_wp2_with fail
  refine (N1.out).mono ?_
  rintro e w2 ⟨rfl, rfl⟩
  clear N1
  have N1 := Lib.hid (none_growUnit b w3 (h1.nilc 7 rfl))
  go_wp2_with fail
  refine (N1.out).mono ?_
  rintro e w2 ⟨rfl, rfl⟩
  clear N1
  have N1 := Lib.hid (none_growInt64 b w3 (h1.nilc 8 rfl))
  go_wp2_with fail
  refine (N1.out).mono ?_
  rintro e w2 ⟨rfl, rfl⟩
  clear N1
  have N1 := Lib.hid (none_growFloat b w3 (h1.nilc 9 rfl))
  go_wp2_with fail
  refine (N1.out).mono ?_
  rintro e w2 ⟨rfl, rfl⟩
  clear N1
  have N1 := Lib.hid (none_growComplex b w3 (h1.nilc 10 rfl))
  go_wp2_with fail
  refine (N1.out).mono ?_
  rintro e w2 ⟨rfl, rfl⟩
  clear N1
  have N1 := Lib.hid (none_growInt b w3 (h1.nilc 11 rfl))
  go_wp2_with fail
  refine (N1.out).mono ?_
  rintro e w2 ⟨rfl, rfl⟩
  clear N1
  have N1 := Lib.hid (none_growEdit b w3 (h1.nilc 12 rfl))
  go_wp2_with fail
  refine (N1.out).mono ?_
  rintro e w2 ⟨rfl, rfl⟩
  clear N1
  have N1 := Lib.hid (none_growResult b w3 (h1.nilc 13 rfl))
  go_wp2_with fail
  refine (N1.out).mono ?_
  rintro e w2 ⟨rfl, rfl⟩
  clear N1
  have N1 := Lib.hid (none_growJob b w3 (h1.nilc 14 rfl))
  go_wp2_with fail
  refine (N1.out).mono ?_
  rintro e w2 ⟨rfl, rfl⟩
  clear N1
  have F := Lib.hid (look_calls B b v L3 w3 h1 hB3 h2 h4)
  go_wp2_with fail
  refine (F.out).mono ?_
  clear F h2 h4
  rintro e w4 ⟨rfl, h5⟩
  have h7 := h1.below h5 (Nat.le_refl _)
  have h8 : Below B w w4 := h6.trans ⟨h5.os, h5.tape, h5.output, h5.size, fun i hi => h5.block i (Nat.lt_of_lt_of_le hi hB3)⟩
  clear h1 h6 h5
  have N1 := Lib.hid (none_lookValue b w4 (h7.nilc 2 rfl))
  go_wp2_with fail
  refine (N1.out).mono ?_
  rintro e w2 ⟨rfl, rfl⟩
  clear N1
  have N1 := Lib.hid (none_lookText b w4 (h7.nilc 3 rfl))
  go_wp2_with fail
  refine (N1.out).mono ?_
  rintro e w2 ⟨rfl, rfl⟩
  clear N1
  have N1 := Lib.hid (none_lookByte b w4 (h7.nilc 4 rfl))
  go_wp2_with fail
  refine (N1.out).mono ?_
  rintro e w2 ⟨rfl, rfl⟩
  clear N1
  have N1 := Lib.hid (none_lookSum b w4 (h7.nilc 5 rfl))
  go_wp2_with fail
  refine (N1.out).mono ?_
  rintro e w2 ⟨rfl, rfl⟩
  clear N1
  have N1 := Lib.hid (none_lookRune b w4 (h7.nilc 6 rfl))
  go_wp2_with fail
  refine (N1.out).mono ?_
  rintro e w2 ⟨rfl, rfl⟩
  clear N1
  have N1 := Lib.hid (none_lookUnit b w4 (h7.nilc 7 rfl))
  go_wp2_with fail
  refine (N1.out).mono ?_
  rintro e w2 ⟨rfl, rfl⟩
  clear N1
  have N1 := Lib.hid (none_lookInt64 b w4 (h7.nilc 8 rfl))
  go_wp2_with fail
  refine (N1.out).mono ?_
  rintro e w2 ⟨rfl, rfl⟩
  clear N1
  have N1 := Lib.hid (none_lookFloat b w4 (h7.nilc 9 rfl))
  go_wp2_with fail
  refine (N1.out).mono ?_
  rintro e w2 ⟨rfl, rfl⟩
  clear N1
  have N1 := Lib.hid (none_lookComplex b w4 (h7.nilc 10 rfl))
  go_wp2_with fail
  refine (N1.out).mono ?_
  rintro e w2 ⟨rfl, rfl⟩
  clear N1
  have N1 := Lib.hid (none_lookInt b w4 (h7.nilc 11 rfl))
  go_wp2_with fail
  refine (N1.out).mono ?_
  rintro e w2 ⟨rfl, rfl⟩
  clear N1
  have N1 := Lib.hid (none_lookEdit b w4 (h7.nilc 12 rfl))
  go_wp2_with fail
  refine (N1.out).mono ?_
  rintro e w2 ⟨rfl, rfl⟩
  clear N1
  have N1 := Lib.hid (none_lookResult b w4 (h7.nilc 13 rfl))
  go_wp2_with fail
  refine (N1.out).mono ?_
  rintro e w2 ⟨rfl, rfl⟩
  clear N1
  have N1 := Lib.hid (none_lookJob b w4 (h7.nilc 14 rfl))
  go_wp2_with fail
  refine (N1.out).mono ?_
  rintro e w2 ⟨rfl, rfl⟩
  clear N1
  go_wp2
  go_ret
  exact ⟨rfl, h8⟩
end Go.Proofs.YtbcbmkeeoognpaaGreatDoor


/- cruciblelaw02: tight, may. -/
namespace Go.Proofs.YtbcbmkeeoognpaaGreatDoor
open Go.RowKit

end Go.Proofs.YtbcbmkeeoognpaaGreatDoor


/- The greatest common divisor: plain. -/
namespace Go.Proofs.YtbcbmkeeoognpaaGreatDoor

end Go.Proofs.YtbcbmkeeoognpaaGreatDoor

