/- Contracts of functions, and plain facts, part 12. -/
import Derived.OneCell
import Derived.OwnWalk
import Derived.Test.YtbcbmkeeoognpaaGreatDoorProg
import Derived.BigRegion
import Derived.Test.YtbcbmkeeoognpaaGreatDoorPk2
import Derived.Test.YtbcbmkeeoognpaaGreatDoorPk4
import Derived.Test.YtbcbmkeeoognpaaGreatDoorPk9
set_option linter.unusedVariables false
set_option linter.unusedSimpArgs false
/- A slice of the call's own that is appended to: what else stays as it was. -/
namespace Go.Proofs.YtbcbmkeeoognpaaGreatDoor
open Go.RowKit

/-- The block that an address lies in. -/
def blkOf (ad : Option Addr) : Option Nat := ad.map (·.block)
theorem ownBlock_slice (ad : Option Addr) (n c : Nat) : (Value.slice ad n c).ownBlock = blkOf ad := by cases ad <;> rfl

theorem App.kept {B : Nat} {w w1 : World} {e : TypeId} {k : IntKind} {ad : Option Addr} {n c : Nat} {xs : List Int} (h : App B w e k ad n c xs) (hk : ∀ b, blkOf ad = some b → w1.heap[b]? = w.heap[b]?) : App B w1 e k ad n c xs := by
  refine ⟨h.1, ?_⟩
  rcases h.2 with h2 | ⟨g, cap, cur, h1, h2, h3, h4⟩
  · exact .inl h2
  · injection h1 with h1 _ _
    subst h1
    exact .inr ⟨g, cap, cur, by rename_i h5 h6; subst h6; rfl, h2, by rw [hk g rfl]; exact h3, h4⟩
theorem App.lt {B : Nat} {w : World} {e : TypeId} {k : IntKind} {ad : Option Addr} {n c : Nat} {xs : List Int} (h : App B w e k ad n c xs) (b : Nat) (hb : blkOf ad = some b) : B ≤ b ∧ b < w.heap.size :=
  World.ownsRow.lt h b (by rw [ownBlock_slice]; exact hb)
theorem Rds.kept {w w1 : World} {k : IntKind} {ad : Option Addr} {n : Nat} {xs : List Int} (h : Rds w k ad n xs) (hk : 0 < n → ∀ b, blkOf ad = some b → w1.heap[b]? = w.heap[b]?) : Rds w1 k ad n xs :=
  ⟨h.len, fun j hj => by
    obtain ⟨a, rfl, hc⟩ := h.cell j hj
    refine ⟨a, rfl, ?_⟩
    rw [← hc]
    have e2 : (a.add j).block = a.block := by unfold Addr.add; split <;> rfl
    simp only [World.cell?, e2, hk (by omega) a.block rfl]⟩

/-- Its places, and that they may be written upon. -/
theorem App.opened {B : Nat} {w : World} {e : TypeId} {k : IntKind} {ad : Option Addr} {n c : Nat} {xs : List Int} (h : App B w e k ad n c xs) (hn : 0 < n) :
    ∃ g, ad = some ⟨g, 0, none⟩ ∧ B ≤ g ∧ (∀ j, j < n → w.cell? ⟨g, j, none⟩ = some (.int k (xs[j]?.getD 0))) ∧ (∀ j, w.frozen? ⟨g, j, none⟩ = false) ∧ (∀ j v, j < n → App B (w.setCell ⟨g, j, none⟩ (.int k v)) e k ad n c (xs.set j v)) ∧
      (∀ j v, Only g w (w.setCell ⟨g, j, none⟩ v)) := by
  have hl := h.len
  rcases h.2 with ⟨_, h2⟩ | ⟨g, cap, cur, h1, h2, h3, h4, h5, h6, h7⟩
  · omega
  · injection h1 with h1 h1' h1''
    subst h1
    subst h1''
    rw [Nat.mul_one] at h7 h6
    have hr : RowAt w g e k xs := ⟨cur, h3, by omega, fun j hj => by
      have e1 := congrArg (fun l => l[j]?) h7
      simp only [List.getElem?_take_of_lt (show j < n by omega)] at e1
      rw [← Array.getElem?_toList, e1, nums_get k xs j hj]⟩
    refine ⟨g, rfl, h2, fun j hj => hr.cell j (by omega), hr.free, fun j v hj => ⟨by rw [nums_length, List.length_set, hl, Nat.mul_one], .inr ⟨g, c, cur.setIfInBounds j (.int k v), rfl, h2, ?_, h4, h5, by simpa using h6, ?_⟩⟩, fun j v => (Only.refl g w).set j v⟩
    · simp only [World.setCell, Array.getElem?_modify, h3, if_true, Option.map_some, Option.isSome_none]
      simp
    · rw [Nat.mul_one]
      have e1 : (cur.setIfInBounds j (.int k v)).toList = cur.toList.set j (.int k v) := by simp
      rw [e1, List.take_set, h7]
      unfold nums
      rw [List.map_set]
section
variable {P : Program} {ops : Array Oper} {rest : List Oper} {o : Oper} {a : Act} {Q : Exit → Act → World → Prop}
/-- As app_one: and no other block has turned; the row lies where it lay, or is new. -/
theorem app_kept {w0 W : World} (B : Nat) (hgd : o.guard = none) (s x : Operand) (t e : TypeId) (k : IntKind) (bytes : Nat)
    (ho : o.op = .call { callee := .builtin .append, args := #[s, x], argTypes := #[t, t] })
    (ht : P.underlying t = some (.slice e)) (hinfo : (P.info? e).map (fun i => (i.zero, i.size, i.bytes)) = some (some (.int k 0), 1, bytes)) (hb0 : 0 < bytes)
    (ad : Option Addr) (n c : Nat) (xs : List Int) (y : Int) (hs : a.eval s = .slice ad n c) (hx : a.eval x = .slice (some ⟨W.heap.size, 0, none⟩) 1 1)
    (HO : App B W e k ad n c xs) (HB : Below B w0 W) (hB : B ≤ W.heap.size) (hl : (n + 1) * bytes ≤ 140737488355328)
    (h : ∀ ad1 c1 w1, App B w1 e k ad1 (n + 1) c1 (xs ++ [y]) → Below B w0 w1 → W.heap.size ≤ w1.heap.size → Hid (∀ i, i < W.heap.size → blkOf ad ≠ some i → w1.heap[i]? = W.heap[i]?) → Hid (∀ i, blkOf ad1 = some i → blkOf ad = some i ∨ W.heap.size ≤ i) →
      wpList P ops Q rest (a.put o.dst (.slice ad1 (n + 1) c1)) w1) :
    wpList P ops Q (o :: rest) a (W.alloc (.cells #[.int k y] e)) := by
  obtain ⟨i0, hi, hzz⟩ := Option.map_eq_some_iff.1 hinfo
  simp only [Prod.mk.injEq] at hzz
  obtain ⟨hz0, hz1, hz2⟩ := hzz
  have hlen : n + 1 ≤ 140737488355328 := Nat.le_trans (Nat.le_mul_of_pos_right _ hb0) hl
  refine wpList_append_own_at (W.alloc (.cells #[.int k y] e)) hgd s x t ho B e i0 (.int k 0) 1 bytes ht hi hz0 hz1 hz2 rfl (by omega) (.slice ad n c) n (nums k xs) hs (HO.alloc _) ⟨W.heap.size, 0, none⟩ 1 1 [.int k y] hx rfl
    (World.news_of_block (cs := #[.int k y]) (t := e) (fr := (0, 0)) (heap_alloc_new W _)) (by intro u hu; simp at hu; subst hu; rfl) (by simp only [maxLen]; omega) hl (by simp; omega) ?_
  intro v1 w1 hown hg _ hat
  have hbel : Below B w0 w1 := (HB.alloc hB _).grown hg (by simp; omega) (fun r hr => (World.ownsRow.lt HO r hr).1)
  have hsz : W.heap.size ≤ w1.heap.size := Nat.le_trans (by simp) hg.size
  rcases hown.2 with ⟨_, h2⟩ | ⟨g, cap, cur, rfl, _⟩
  · omega
  · refine h _ _ w1 (by simpa [App, nums] using hown) hbel hsz (Lib.hid fun i hi hne => ?_) (Lib.hid fun i hi => ?_)
    · rw [hg.block i (by simp; omega) (by rw [ownBlock_slice]; exact fun e => hne e.symm)]
      simp only [World.alloc, Array.getElem?_push]
      rw [if_neg (by omega)]
    · rw [ownBlock_slice, ownBlock_slice] at hat
      rcases hat with h1 | h1
      · exact .inl (by rw [← h1]; exact hi)
      · rw [hi] at h1
        injection h1 with h1
        refine .inr ?_
        rw [h1]
        simp
/-- append(v, y0, y1, ..). -/
theorem app_many {w0 W : World} (B : Nat) (hgd : o.guard = none) (s x : Operand) (t e : TypeId) (k : IntKind) (bytes : Nat)
    (ho : o.op = .call { callee := .builtin .append, args := #[s, x], argTypes := #[t, t] })
    (ht : P.underlying t = some (.slice e)) (hinfo : (P.info? e).map (fun i => (i.zero, i.size, i.bytes)) = some (some (.int k 0), 1, bytes)) (hb0 : 0 < bytes)
    (ad : Option Addr) (n c : Nat) (xs ys : List Int) (m : Nat) (hm : ys.length = m) (hm0 : 0 < m) (cs : Array Value) (hcs : cs = (nums k ys).toArray) (hs : a.eval s = .slice ad n c) (hx : a.eval x = .slice (some ⟨W.heap.size, 0, none⟩) m m)
    (HO : App B W e k ad n c xs) (HB : Below B w0 W) (hB : B ≤ W.heap.size) (hl : (n + m) * bytes ≤ 140737488355328)
    (h : ∀ ad1 c1 w1, App B w1 e k ad1 (n + m) c1 (xs ++ ys) → Below B w0 w1 → B ≤ w1.heap.size → wpList P ops Q rest (a.put o.dst (.slice ad1 (n + m) c1)) w1) :
    wpList P ops Q (o :: rest) a (W.alloc (.cells cs e)) := by
  subst hcs
  obtain ⟨i0, hi, hzz⟩ := Option.map_eq_some_iff.1 hinfo
  simp only [Prod.mk.injEq] at hzz
  obtain ⟨hz0, hz1, hz2⟩ := hzz
  have hlen : n + m ≤ 140737488355328 := Nat.le_trans (Nat.le_mul_of_pos_right _ hb0) hl
  refine wpList_append_own_at (W.alloc (.cells (nums k ys).toArray e)) hgd s x t ho B e i0 (.int k 0) 1 bytes ht hi hz0 hz1 hz2 rfl (by omega) (.slice ad n c) n (nums k xs) hs (HO.alloc _) ⟨W.heap.size, 0, none⟩ m m (nums k ys) hx (by rw [nums_length, hm, Nat.mul_one])
    (by have := World.news_of_block (cs := (nums k ys).toArray) (t := e) (fr := (0, 0)) (heap_alloc_new W _); simpa using this) (by intro u hu; simp only [nums, List.mem_map] at hu; obtain ⟨z, _, rfl⟩ := hu; rfl) (by simp only [maxLen]; omega) hl (by simp; omega) ?_
  intro v1 w1 hown hg _ hat
  have hbel : Below B w0 w1 := (HB.alloc hB _).grown hg (by simp; omega) (fun r hr => (World.ownsRow.lt HO r hr).1)
  have hsz : B ≤ w1.heap.size := Nat.le_trans (Nat.le_trans hB (by simp)) hg.size
  rcases hown.2 with ⟨_, h2⟩ | ⟨g, cap, cur, rfl, _⟩
  · omega
  · exact h _ _ w1 (by have := hown; unfold App nums; rw [List.map_append]; exact this) hbel hsz
/-- append(v, y) where there is room: no bound is asked. -/
theorem app_room {w0 W : World} (B : Nat) (hgd : o.guard = none) (s x : Operand) (t e : TypeId) (k : IntKind) (bytes : Nat)
    (ho : o.op = .call { callee := .builtin .append, args := #[s, x], argTypes := #[t, t] })
    (ht : P.underlying t = some (.slice e)) (hinfo : (P.info? e).map (fun i => (i.zero, i.size, i.bytes)) = some (some (.int k 0), 1, bytes))
    (g n c : Nat) (xs : List Int) (y : Int) (hs : a.eval s = .slice (some ⟨g, 0, none⟩) n c) (hx : a.eval x = .slice (some ⟨W.heap.size, 0, none⟩) 1 1)
    (HO : App B W e k (some ⟨g, 0, none⟩) n c xs) (HB : Below B w0 W) (hB : B ≤ W.heap.size) (hroom : n + 1 ≤ c)
    (h : ∀ w1, App B w1 e k (some ⟨g, 0, none⟩) (n + 1) c (xs ++ [y]) → Below B w0 w1 → B ≤ w1.heap.size → wpList P ops Q rest (a.put o.dst (.slice (some ⟨g, 0, none⟩) (n + 1) c)) w1) :
    wpList P ops Q (o :: rest) a (W.alloc (.cells #[.int k y] e)) := by
  obtain ⟨i0, hi, hzz⟩ := Option.map_eq_some_iff.1 hinfo
  simp only [Prod.mk.injEq] at hzz
  obtain ⟨hz0, hz1, hz2⟩ := hzz
  refine wpList_append_fits (W.alloc (.cells #[.int k y] e)) hgd s x t ho B e i0 1 ht hi hz1 g n c (nums k xs) hs (HO.alloc _) ⟨W.heap.size, 0, none⟩ 1 1 [.int k y] hx rfl
    (World.news_of_block (cs := #[.int k y]) (t := e) (fr := (0, 0)) (heap_alloc_new W _)) (by intro u hu; simp at hu; subst hu; rfl) hroom ?_
  intro w1 hown hg
  have hb0 := (HO.lt g rfl).1
  have hbel : Below B w0 w1 := (HB.alloc hB _).grown hg (by simp; omega) (fun r hr => by injection hr with hr; omega)
  exact h w1 (by simpa [App, nums] using hown) hbel (Nat.le_trans (Nat.le_trans hB (by simp)) hg.size)
end
end Go.Proofs.YtbcbmkeeoognpaaGreatDoor


/- quot.below: a multiple is taken off a row. -/
namespace Go.Proofs.YtbcbmkeeoognpaaGreatDoor
open Go.RowKit

/-- Digit x less pm and r, in words of 64 bits. -/
theorem below_word (x pm r : Int) (hx : 0 ≤ x ∧ x < 4294967296) (hp : 0 ≤ pm ∧ pm < 4294967296) (hr : 0 ≤ r ∧ r < 4294967296) :
    ∃ d o : Int, IntKind.u64.wrap (IntKind.u64.wrap (x - pm) - r) = d ∧ 0 ≤ d ∧ d < 18446744073709551616 ∧ (o = 0 ∨ o = 1 ∨ o = 2) ∧ d % 4294967296 = x - pm - r + o * 4294967296 ∧ d / 9223372036854775808 = (if 0 < o then 1 else 0) ∧ (r ≤ 1 → o ≤ 1) := by
  have e : ∀ z : Int, IntKind.u64.wrap z = z % 18446744073709551616 := fun z => by rfl
  refine ⟨(x - pm - r) % 18446744073709551616, if x - pm - r < -4294967296 then 2 else if x - pm - r < 0 then 1 else 0, ?_, by omega, by omega, ?_, ?_, ?_, ?_⟩
  · rw [e, e]; omega
  · split
    · omega
    · split <;> omega
  · split
    · omega
    · split <;> omega
  · split
    · simp; omega
    · split <;> simp <;> omega
  · intro h; split
    · omega
    · split <;> omega

theorem and_low32 (z : Int) (hz : 0 ≤ z ∧ z < 18446744073709551616) : bits .and .u64 z 4294967295 = z % 4294967296 := by
  obtain ⟨z, rfl⟩ := Int.eq_ofNat_of_zero_le hz.1
  have e : bits .and .u64 (z : Int) ((4294967295 : Nat) : Int) = ((z &&& 4294967295 : Nat) : Int) := Go.bits_and_u64_nat z _ (by omega) (by omega)
  have e2 : z &&& 4294967295 = z % 4294967296 := Nat.and_two_pow_sub_one_eq_mod z 32
  rw [e2] at e
  have e' : bits .and .u64 (z : Int) 4294967295 = ((z % 4294967296 : Nat) : Int) := e
  rw [e']
  simp

def BelowI (w : World) (bl : Nat) (t : TypeId) (Z : List Int) (j n : Nat) (m : Int) (ys : List Int) (k : Nat) (c r : Int) (wr : World) : Prop :=
  ∃ X, RowAt wr bl t .u32 (putAt Z j X) ∧ X.length = n + 1 ∧ Dig 4294967296 X ∧ Only bl w wr ∧ 0 ≤ c ∧ c < 4294967296 ∧ 0 ≤ r ∧ r ≤ 1 ∧ (∀ q, k ≤ q → X[q]?.getD 0 = ((Z.drop j).take (n + 1))[q]?.getD 0) ∧
    val 4294967296 (X.take k) + val 4294967296 (ys.take k) * m = val 4294967296 (((Z.drop j).take (n + 1)).take k) + (c + r) * 4294967296 ^ k

/-- The row with m times ys taken off; was that too much? -/
def BelowR (w : World) (bl : Nat) (t : TypeId) (Z : List Int) (j n : Nat) (m : Int) (ys : List Int) (e : Ending) (w' : World) : Prop :=
  ∃ X ok, e = .returned (.bool ok) ∧ RowAt w' bl t .u32 (putAt Z j X) ∧ X.length = n + 1 ∧ Dig 4294967296 X ∧ Only bl w w' ∧
    val 4294967296 X + val 4294967296 ys * m = val 4294967296 ((Z.drop j).take (n + 1)) + (if ok = true then 1 else 0) * 4294967296 ^ (n + 1)

theorem below_calls (bl j n c cy : Nat) (t : TypeId) (Z ys : List Int) (yd : Option Addr) (m : Int) (w : World) (hlen : j + (n + 1) ≤ Z.length) (hbig : n < 70368744177664) (hc : n + 1 ≤ c) (hcy : n ≤ cy)
    (hx : RowAt w bl t .u32 Z) (hy : Rds w .u32 yd n ys) (hne : ∀ a, yd = some a → a.block ≠ bl) (dz : Dig 4294967296 Z) (dy : Dig 4294967296 ys) (hm0 : 0 ≤ m) (hm1 : m < 4294967296) :
    Calls Tryz.prog 242 #[.slice (some ⟨bl, j, none⟩) (n + 1) c, .slice yd n cy, .int .u64 m] w (BelowR w bl t Z j n m ys) := by
  have HY := Lib.hid hy.len
  have hI : BelowI w bl t Z j n m ys 0 0 0 w := ⟨(Z.drop j).take (n + 1), by rw [putAt_self Z j (n + 1) hlen]; exact hx, by rw [List.length_take, List.length_drop]; omega, (dz.drop j).take _, Only.refl _ _, by omega, by omega, by omega, by omega, fun _ _ => rfl, by simp [val]⟩
  obtain ⟨a, ha⟩ : ∃ a : Addr, (⟨bl, j, none⟩ : Addr) = a := ⟨_, rfl⟩
  have haj : ∀ k, a.add k = ⟨bl, j + k, none⟩ := fun k => by rw [← ha]; unfold Addr.add; split <;> simp_all
  have HA := Lib.hid haj
  rw [ha]
  have HX := Lib.hid (show ((Z.drop j).take (n + 1)).length = n + 1 by rw [List.length_take, List.length_drop]; omega)
  have dxx := (dz.drop j).take (n + 1)
  have HL := Lib.hid hlen
  clear ha haj hlen hx
  unfold BelowI at hI
  unfold BelowR
  generalize hxs : (Z.drop j).take (n + 1) = xs at *
  clear hxs
  go_enter Tryz.func242, Tryz.ntmps242
  go_wp2
  go_loopw [16, 7, 8] (fun i cy br wr => ∃ k : Nat, ∃ c r : Int, k ≤ n ∧ i = .int .i64 k ∧ cy = .int .u64 c ∧ br = .int .u64 r ∧
    ∃ X, RowAt wr bl t .u32 (putAt Z j X) ∧ X.length = n + 1 ∧ Dig 4294967296 X ∧ Only bl w wr ∧ 0 ≤ c ∧ c < 4294967296 ∧ 0 ≤ r ∧ r ≤ 1 ∧ (∀ q, k ≤ q → X[q]?.getD 0 = xs[q]?.getD 0) ∧
    val 4294967296 (X.take k) + val 4294967296 (ys.take k) * m = val 4294967296 (xs.take k) + (c + r) * 4294967296 ^ k) (fun i _ _ _ => n - (intOf i).toNat)
  case atStart => exact ⟨0, 0, 0, Nat.zero_le _, rfl, rfl, rfl, hI⟩
  case round =>
    clear hI
    obtain ⟨k, c, r, hk, rfl, rfl, rfl, X, h1, h2, h3, h4, hc0, hc1, hr0, hr1, h5, h6⟩ := hrel
    have H2 := Lib.hid h2
    have H5 := Lib.hid h5
    have H6 := Lib.hid h6
    clear h2 h5 h6
    have hcell : ∀ q, q < n + 1 → wr.cell? (a.add q) = some (.int .u32 (X[q]?.getD 0)) := fun q hq => by
      rw [HA.out q, h1.cell (j + q) (by rw [putAt_length _ _ _ (by rw [H2.out]; exact HL.out)]; have := HL.out; omega), putAt_get _ _ _ (by have := HL.out; omega) _ (by rw [H2.out]; exact hq)]
    have hfree : ∀ q, wr.frozen? (a.add q) = false := fun q => by rw [HA.out q]; exact h1.free _
    have hset : ∀ q v, q < n + 1 → RowAt (wr.setCell (a.add q) (.int .u32 v)) bl t .u32 (putAt Z j (X.set q v)) := fun q v hq => by
      rw [HA.out q, ← putAt_set Z j X (by have := HL.out; omega) q (by rw [H2.out]; exact hq)]
      exact h1.set _ _
    have hon : ∀ q v, Only bl w (wr.setCell (a.add q) v) := fun q v => by rw [HA.out q]; exact h4.set _ _
    by_cases hkn : k < n
    · have hcx := hcell k (by omega)
      rw [H5.out k (Nat.le_refl _)] at hcx
      have hf := hfree k
      obtain ⟨b, rfl, hyl⟩ := (hy.only h4 hne).cell k hkn
      have bx := dxx.get (by omega) k
      have bz := dy.get (by omega) k
      have bb := mul_bound (o := 0) rfl bz.1 bz.2 hm0 hm1 (by omega) (by omega) hc0 hc1
      have ST := fun v r' hv => Lib.hid (below_step 4294967296 xs X ys k (by rw [H2.out]; omega) m c r _ v r' rfl hv H6.out)
      clear H6
      generalize hgx : xs[k]?.getD 0 = x at *
      have HXK := Lib.hid hgx
      clear hgx
      generalize ys[k]?.getD 0 = y at *
      generalize ht : y * m = T at *
      have HT := Lib.hid ht
      clear ht
      obtain ⟨bt0, bt1, bs0, bs1⟩ := bb
      obtain ⟨p, hp⟩ : ∃ p, T + c = p := ⟨_, rfl⟩
      rw [hp] at ST
      obtain ⟨d, o, hw, hd0, hd1, ho, hlow, hhigh, ho1⟩ := below_word x (p % 4294967296) r bx (by omega) (by omega)
      have ho2 : o = 0 ∨ o = 1 := by omega
      have hh2 : d / 9223372036854775808 = o := by rcases ho2 with rfl | rfl <;> simpa using hhigh
      have hand := and_low32 p (by omega)
      have W1 : IntKind.u64.wrap (y * m) = T := by rw [HT.out]; exact IntWalk.u64_in _ (by omega)
      have W2 : IntKind.u64.wrap (T + c) = p := by rw [hp]; exact IntWalk.u64_in _ (by omega)
      have SX := ST _ o hlow
      have K1 := hset k (d % 4294967296) (by omega)
      have O1 := hon k (.int .u32 (d % 4294967296))
      have D1 := h3.set (show 0 ≤ d % 4294967296 by omega) (show d % 4294967296 < 4294967296 by omega) k
      clear ST hhigh ho1 hcell hset hon hfree hlow ho
      go_wp2
      go_roundw
      case rel =>
        refine ⟨k + 1, p / 4294967296, o, by omega, by go_num, rfl, rfl, _, K1, by rw [List.length_set, H2.out], D1, O1, by omega, by omega, by omega, by omega, fun q hq => ?_, SX.out⟩
        rw [List.getElem?_set_ne (by omega)]
        exact H5.out q (by omega)
      case measure => simp [intOf]; omega
    · obtain rfl : k = n := by omega
      have hcx := hcell k (by omega)
      rw [H5.out k (Nat.le_refl _)] at hcx
      have hf := hfree k
      have bx := dxx.get (by omega) k
      have ST := fun v r' hv => Lib.hid (below_end 4294967296 xs X ys k HX.out H2.out HY.out m c r v r' hv H6.out)
      generalize xs[k]?.getD 0 = x at *
      obtain ⟨d, o, hw, hd0, hd1, ho, hlow, hhigh, ho1⟩ := below_word x c r bx ⟨hc0, hc1⟩ ⟨hr0, by omega⟩
      have ho2 : o = 0 ∨ o = 1 := by omega
      have hh2 : d / 9223372036854775808 = o := by rcases ho2 with rfl | rfl <;> simpa using hhigh
      have SX := ST _ o hlow
      have K1 := hset k (d % 4294967296) (by omega)
      have O1 := hon k (.int .u32 (d % 4294967296))
      have D1 := h3.set (show 0 ≤ d % 4294967296 by omega) (show d % 4294967296 < 4294967296 by omega) k
      clear ST hhigh ho1 hcell hset hon hfree hlow ho
      go_wp2
      go_ret
      refine ⟨_, _, rfl, K1, by rw [List.length_set, H2.out], D1, O1, ?_⟩
      rw [SX.out]
      rcases ho2 with rfl | rfl <;> simp
end Go.Proofs.YtbcbmkeeoognpaaGreatDoor


/- quot.back: a number is put upon a row again. -/
namespace Go.Proofs.YtbcbmkeeoognpaaGreatDoor
open Go.RowKit

/-- The row with ys put on it; what comes up at its end is lost. -/
def BackR (w : World) (bl : Nat) (t : TypeId) (Z : List Int) (j n : Nat) (ys : List Int) (e : Ending) (w' : World) : Prop :=
  ∃ X o, e = .returned (.tuple #[]) ∧ RowAt w' bl t .u32 (putAt Z j X) ∧ X.length = n + 1 ∧ Dig 4294967296 X ∧ Only bl w w' ∧
    val 4294967296 X + o * 4294967296 ^ (n + 1) = val 4294967296 ((Z.drop j).take (n + 1)) + val 4294967296 ys

theorem back_calls (bl j n c cy : Nat) (t : TypeId) (Z ys : List Int) (yd : Option Addr) (w : World) (hlen : j + (n + 1) ≤ Z.length) (hbig : n < 70368744177664) (hc : n + 1 ≤ c) (hcy : n ≤ cy)
    (hx : RowAt w bl t .u32 Z) (hy : Rds w .u32 yd n ys) (hne : ∀ a, yd = some a → a.block ≠ bl) (dz : Dig 4294967296 Z) (dy : Dig 4294967296 ys) :
    Calls Tryz.prog 243 #[.slice (some ⟨bl, j, none⟩) (n + 1) c, .slice yd n cy] w (BackR w bl t Z j n ys) := by
  have HY := Lib.hid hy.len
  obtain ⟨a, ha⟩ : ∃ a : Addr, (⟨bl, j, none⟩ : Addr) = a := ⟨_, rfl⟩
  have haj : ∀ k, a.add k = ⟨bl, j + k, none⟩ := fun k => by rw [← ha]; unfold Addr.add; split <;> simp_all
  have HA := Lib.hid haj
  rw [ha]
  have HX := Lib.hid (show ((Z.drop j).take (n + 1)).length = n + 1 by rw [List.length_take, List.length_drop]; omega)
  have dxx := (dz.drop j).take (n + 1)
  have HL := Lib.hid hlen
  have hI : ∃ X, RowAt w bl t .u32 (putAt Z j X) ∧ X.length = n + 1 ∧ Dig 4294967296 X ∧ Only bl w w ∧ (0 : Int) ≤ 0 ∧ (0 : Int) ≤ 1 ∧ (∀ q, 0 ≤ q → X[q]?.getD 0 = ((Z.drop j).take (n + 1))[q]?.getD 0) ∧
    val 4294967296 (X.take 0) + 0 * 4294967296 ^ 0 = val 4294967296 (((Z.drop j).take (n + 1)).take 0) + val 4294967296 (ys.take 0) :=
    ⟨(Z.drop j).take (n + 1), by rw [putAt_self Z j (n + 1) hlen]; exact hx, HX.out, dxx, Only.refl _ _, by omega, by omega, fun _ _ => rfl, by simp [val]⟩
  clear ha haj hlen hx
  unfold BackR
  generalize hxs : (Z.drop j).take (n + 1) = xs at *
  clear hxs
  go_enter Tryz.func243, Tryz.ntmps243
  go_wp2
  go_loopw [10, 4] (fun i cy wr => ∃ k : Nat, ∃ c : Int, k ≤ n ∧ i = .int .i64 k ∧ cy = .int .u64 c ∧
    ∃ X, RowAt wr bl t .u32 (putAt Z j X) ∧ X.length = n + 1 ∧ Dig 4294967296 X ∧ Only bl w wr ∧ 0 ≤ c ∧ c ≤ 1 ∧ (∀ q, k ≤ q → X[q]?.getD 0 = xs[q]?.getD 0) ∧
    val 4294967296 (X.take k) + c * 4294967296 ^ k = val 4294967296 (xs.take k) + val 4294967296 (ys.take k)) (fun i _ _ => n - (intOf i).toNat)
  case atStart => exact ⟨0, 0, Nat.zero_le _, rfl, rfl, hI⟩
  case round =>
    clear hI
    obtain ⟨k, c, hk, rfl, rfl, X, h1, h2, h3, h4, hc0, hc1, h5, h6⟩ := hrel
    have H2 := Lib.hid h2
    have H5 := Lib.hid h5
    have H6 := Lib.hid h6
    clear h2 h5 h6
    have hcell : ∀ q, q < n + 1 → wr.cell? (a.add q) = some (.int .u32 (X[q]?.getD 0)) := fun q hq => by
      rw [HA.out q, h1.cell (j + q) (by rw [putAt_length _ _ _ (by rw [H2.out]; exact HL.out)]; have := HL.out; omega), putAt_get _ _ _ (by have := HL.out; omega) _ (by rw [H2.out]; exact hq)]
    have hfree : ∀ q, wr.frozen? (a.add q) = false := fun q => by rw [HA.out q]; exact h1.free _
    have hset : ∀ q v, q < n + 1 → RowAt (wr.setCell (a.add q) (.int .u32 v)) bl t .u32 (putAt Z j (X.set q v)) := fun q v hq => by
      rw [HA.out q, ← putAt_set Z j X (by have := HL.out; omega) q (by rw [H2.out]; exact hq)]
      exact h1.set _ _
    have hon : ∀ q v, Only bl w (wr.setCell (a.add q) v) := fun q v => by rw [HA.out q]; exact h4.set _ _
    by_cases hkn : k < n
    · have hcx := hcell k (by omega)
      rw [H5.out k (Nat.le_refl _)] at hcx
      have hf := hfree k
      obtain ⟨b, rfl, hyl⟩ := (hy.only h4 hne).cell k hkn
      have bx := dxx.get (by omega) k
      have bz := dy.get (by omega) k
      have ST := Lib.hid (back_step 4294967296 xs X ys k (by rw [H2.out]; omega) c _ rfl H6.out)
      clear H6
      generalize xs[k]?.getD 0 = x at *
      generalize ys[k]?.getD 0 = y at *
      have K1 := hset k ((x + y + c) % 4294967296) (by omega)
      have O1 := hon k (.int .u32 ((x + y + c) % 4294967296))
      have D1 := h3.set (show 0 ≤ (x + y + c) % 4294967296 by omega) (show (x + y + c) % 4294967296 < 4294967296 by omega) k
      clear hcell hset hon hfree
      go_wp2
      go_roundw
      case rel =>
        refine ⟨k + 1, _, by omega, by go_num, rfl, _, K1, by rw [List.length_set, H2.out], D1, O1, by omega, by omega, fun q hq => ?_, ST.out⟩
        rw [List.getElem?_set_ne (by omega)]
        exact H5.out q (by omega)
      case measure => simp [intOf]; omega
    · obtain rfl : k = n := by omega
      have hcx := hcell k (by omega)
      rw [H5.out k (Nat.le_refl _)] at hcx
      have hf := hfree k
      have bx := dxx.get (by omega) k
      have ST := Lib.hid (back_end 4294967296 xs X ys k HX.out H2.out HY.out c _ rfl H6.out)
      generalize xs[k]?.getD 0 = x at *
      have K1 := hset k ((x + c) % 4294967296) (by omega)
      have O1 := hon k (.int .u32 ((x + c) % 4294967296))
      have D1 := h3.set (show 0 ≤ (x + c) % 4294967296 by omega) (show (x + c) % 4294967296 < 4294967296 by omega) k
      clear hcell hset hon hfree
      go_wp2
      go_end0
      exact ⟨_, _, rfl, K1, by rw [List.length_set, H2.out], D1, O1, ST.out⟩
end Go.Proofs.YtbcbmkeeoognpaaGreatDoor


/- Long division: what holds between two digits. -/
namespace Go.Proofs.YtbcbmkeeoognpaaGreatDoor

/-- The digits from place j on are found: q holds them, X what is left. -/
structure LongI (B V Y : Int) (n L : Nat) (X q : List Int) (j : Nat) : Prop where
  lx : X.length = L
  lq : q.length = L - n
  dx : Dig B X
  dq : Dig B q
  sum : val B X + val B q * Y = V
  lt : val B (X.drop j) < Y
  zero : ∀ i, i < j → q[i]?.getD 0 = 0

variable {B V Y : Int} {n L j : Nat} {X q ys : List Int}

theorem val_take3 (B : Int) (W : List Int) (n : Nat) (hn : 2 ≤ n) (hW : W.length = n + 1) :
    val B W = ((W[n]?.getD 0 * B + W[n - 1]?.getD 0) * B + W[n - 2]?.getD 0) * B ^ (n - 2) + val B (W.take (n - 2)) := by
  have h1 := val_take_succ' B W n
  rw [List.take_of_length_le (by omega)] at h1
  have h2 := val_take_succ' B W (n - 1)
  have h3 := val_take_succ' B W (n - 2)
  rw [show n - 1 + 1 = n by omega] at h2
  rw [show n - 2 + 1 = n - 1 by omega] at h3
  have p1 : B ^ (n - 1) = B ^ (n - 2) * B := by rw [← Int.pow_succ]; congr 1; omega
  have p2 : B ^ n = B ^ (n - 2) * B * B := by rw [← p1, ← Int.pow_succ]; congr 1; omega
  rw [h1, h2, h3, p1, p2]
  generalize B ^ (n - 2) = P
  generalize val B (W.take (n - 2)) = T
  grind

theorem val_take2 (B : Int) (W : List Int) (n : Nat) (hn : 2 ≤ n) (hW : W.length = n) :
    val B W = (W[n - 1]?.getD 0 * B + W[n - 2]?.getD 0) * B ^ (n - 2) + val B (W.take (n - 2)) := by
  have h2 := val_take_succ' B W (n - 1)
  have h3 := val_take_succ' B W (n - 2)
  rw [show n - 1 + 1 = n by omega, List.take_of_length_le (by omega)] at h2
  rw [show n - 2 + 1 = n - 1 by omega] at h3
  have p1 : B ^ (n - 1) = B ^ (n - 2) * B := by rw [← Int.pow_succ]; congr 1; omega
  rw [h2, h3, p1]
  generalize B ^ (n - 2) = P
  generalize val B (W.take (n - 2)) = T
  grind

/-- The window's worth: all that stands from place j on, below B times the divisor; nothing above it. -/
theorem LongI.window (h : LongI B V Y n L X q (j + 1)) (hB : 2 ≤ B) (hj : j + n + 1 ≤ L) (hY : Y < B ^ n) :
    val B (X.drop j) = val B ((X.drop j).take (n + 1)) ∧ val B (X.drop (j + n + 1)) = 0 ∧ val B ((X.drop j).take (n + 1)) < B * Y ∧ 0 ≤ val B ((X.drop j).take (n + 1)) := by
  have lx := h.lx
  have e1 := val_drop B X j (by omega)
  have e2 := val_split B (X.drop j) (n + 1) (by rw [List.length_drop]; omega)
  rw [List.drop_drop, ← Nat.add_assoc] at e2
  have d1 := h.dx.get (by omega) j
  have z1 := val_nonneg (by omega) ((h.dx.drop j).take (n + 1))
  have z2 := val_nonneg (by omega) (h.dx.drop (j + n + 1))
  have hl := h.lt
  have k1 : val B (X.drop j) < B * Y := by
    have : B * (val B (X.drop (j + 1)) + 1) ≤ B * Y := Int.mul_le_mul_of_nonneg_left (by omega) (by omega)
    rw [Int.mul_add, Int.mul_one] at this
    omega
  have k2 : B * Y < B ^ (n + 1) := by
    rw [Int.pow_succ, Int.mul_comm]
    exact Int.mul_lt_mul_of_pos_right hY (by omega)
  have hp : 0 < B ^ (n + 1) := Int.pow_pos (by omega)
  have k3 : val B (X.drop (j + n + 1)) = 0 := by
    rcases Int.lt_or_eq_of_le z2 with h1 | h1
    · exfalso
      have : B ^ (n + 1) * 1 ≤ B ^ (n + 1) * val B (X.drop (j + n + 1)) := Int.mul_le_mul_of_nonneg_left (by omega) (by omega)
      omega
    · exact h1.symm
  rw [k3, Int.mul_zero, Int.add_zero] at e2
  exact ⟨e2, k3, by omega, z1⟩

theorem LongI.win (h : LongI B V Y n L X q (j + 1)) (hB : 2 ≤ B) (hn : 2 ≤ n) (hj : j + n + 1 ≤ L) (ly : ys.length = n) (dy : Dig B ys) (eY : val B ys = Y) (hh : B ≤ 2 * ys[n - 1]?.getD 0) :
    Win B (B ^ (n - 2)) (ys[n - 1]?.getD 0) (ys[n - 2]?.getD 0) (val B (ys.take (n - 2))) (X[j + n]?.getD 0) (X[j + n - 1]?.getD 0) (X[j + n - 2]?.getD 0) (val B (((X.drop j).take (n + 1)).take (n - 2))) Y (val B ((X.drop j).take (n + 1))) := by
  have lx := h.lx
  have hY : Y < B ^ n := by rw [← eY, ← ly]; exact val_lt (by omega) dy
  obtain ⟨w1, w2, w3, w4⟩ := h.window hB hj hY
  have g1 : ((X.drop j).take (n + 1))[n]?.getD 0 = X[j + n]?.getD 0 := by rw [List.getElem?_take_of_lt (by omega), List.getElem?_drop]
  have g2 : ((X.drop j).take (n + 1))[n - 1]?.getD 0 = X[j + n - 1]?.getD 0 := by rw [List.getElem?_take_of_lt (by omega), List.getElem?_drop, show j + (n - 1) = j + n - 1 by omega]
  have g3 : ((X.drop j).take (n + 1))[n - 2]?.getD 0 = X[j + n - 2]?.getD 0 := by rw [List.getElem?_take_of_lt (by omega), List.getElem?_drop, show j + (n - 2) = j + n - 2 by omega]
  have e := val_take3 B ((X.drop j).take (n + 1)) n hn (by rw [List.length_take, List.length_drop]; omega)
  rw [g1, g2, g3] at e
  have dw := (h.dx.drop j).take (n + 1)
  have l1 := val_lt (show 0 < B by omega) (dw.take (n - 2))
  have l2 := val_lt (show 0 < B by omega) (dy.take (n - 2))
  rw [show (((X.drop j).take (n + 1)).take (n - 2)).length = n - 2 by simp; omega] at l1
  rw [show (ys.take (n - 2)).length = n - 2 by simp; omega] at l2
  exact ⟨hB, Int.pow_pos (by omega), ⟨hh, (dy.get (by omega) _).2⟩, dy.get (by omega) _, ⟨val_nonneg (by omega) (dy.take _), l2⟩, h.dx.get (by omega) _, h.dx.get (by omega) _, h.dx.get (by omega) _,
    ⟨val_nonneg (by omega) (dw.take _), l1⟩, by rw [← eY]; exact val_take2 B ys n hn ly, e, w3⟩

/-- A digit is found. -/
theorem LongI.step (h : LongI B V Y n L X q (j + 1)) (hB : 2 ≤ B) (hj : j + n + 1 ≤ L) (hY : 0 < Y ∧ Y < B ^ n) (g : Int) (hg : g = val B ((X.drop j).take (n + 1)) / Y) (hgb : 0 ≤ g ∧ g < B) (X1 : List Int) (l1 : X1.length = n + 1) (d1 : Dig B X1)
    (v1 : val B X1 = val B ((X.drop j).take (n + 1)) % Y) : LongI B V Y n L (putAt X j X1) (q.set j g) j := by
  have lx := h.lx
  have lq := h.lq
  obtain ⟨w1, w2, w3, w4⟩ := h.window hB hj hY.2
  have hm := Int.emod_add_mul_ediv (val B ((X.drop j).take (n + 1))) Y
  have hr := Int.emod_lt_of_pos (val B ((X.drop j).take (n + 1))) hY.1
  refine ⟨by rw [putAt_length _ _ _ (by omega)]; exact lx, by rw [List.length_set]; exact lq, putAt_dig h.dx d1 j, h.dq.set hgb.1 hgb.2 j, ?_, ?_, fun i hi => ?_⟩
  · rw [putAt_val B X j (n + 1) X1 l1 (by omega), val_set B q j g (by omega), h.zero j (by omega), v1]
    have hs := h.sum
    rw [← hg] at hm
    generalize val B ((X.drop j).take (n + 1)) = W at *
    generalize W % Y = r at *
    generalize val B X = A at *
    generalize val B q = Q at *
    generalize B ^ j = P at *
    subst hs
    have : W = r + Y * g := hm.symm
    subst this
    grind
  · have e : (putAt X j X1).drop j = X1 ++ X.drop (j + X1.length) := by
      unfold putAt
      rw [List.drop_append_of_le_length (by rw [List.length_take]; omega), List.drop_of_length_le (by rw [List.length_take]; omega), List.nil_append]
    rw [e, val_append, l1, ← Nat.add_assoc, w2, Int.mul_zero, Int.add_zero, v1]
    exact hr
  · rw [List.getElem?_set_ne (by omega)]
    exact h.zero i (by omega)

theorem LongI.skip (h : LongI B V Y n L X q (j + 1)) (hB : 2 ≤ B) (hj : j + n + 1 ≤ L) (hY : 0 < Y ∧ Y < B ^ n) (hg : val B ((X.drop j).take (n + 1)) / Y ≤ 0) : LongI B V Y n L X q j := by
  obtain ⟨w1, w2, w3, w4⟩ := h.window hB hj hY.2
  have hm := Int.emod_add_mul_ediv (val B ((X.drop j).take (n + 1))) Y
  have hr := Int.emod_lt_of_pos (val B ((X.drop j).take (n + 1))) hY.1
  have h0 : 0 ≤ val B ((X.drop j).take (n + 1)) / Y := Int.ediv_nonneg w4 (by omega)
  have e : val B ((X.drop j).take (n + 1)) / Y = 0 := by omega
  rw [e, Int.mul_zero, Int.add_zero] at hm
  refine ⟨h.lx, h.lq, h.dx, h.dq, h.sum, by omega, fun i hi => h.zero i (by omega)⟩

theorem LongI.done (h : LongI B V Y n L X q 0) (hB : 2 ≤ B) (hY : 0 < Y) : val B q = V / Y ∧ val B X = V % Y := by
  have h1 := h.sum
  have h2 := h.lt
  rw [List.drop_zero] at h2
  have h3 := val_nonneg (show 0 < B by omega) h.dx
  have e1 : V / Y = val B q := by
    rw [← h1, Int.add_mul_ediv_right _ _ (by omega), Int.ediv_eq_zero_of_lt h3 h2, Int.zero_add]
  have e2 : V % Y = val B X := by
    rw [← h1, Int.add_mul_emod_self_right, Int.emod_eq_of_lt h3 h2]
  exact ⟨e1.symm, e2.symm⟩

theorem LongI.start (hB : 2 ≤ B) (hn : n < L) (lx : X.length = L) (dx : Dig B X) (hV : val B X = V) (hlt : val B (X.drop (L - n)) < Y) : LongI B V Y n L X (List.replicate (L - n) 0) (L - n) :=
  ⟨lx, by simp, dx, Dig.replicate _ (by omega) _, by rw [val_replicate, Int.zero_mul, Int.add_zero]; exact hV, hlt, fun i hi => by simp [List.getElem?_replicate]; split <;> rfl⟩
end Go.Proofs.YtbcbmkeeoognpaaGreatDoor


/- slices.Reverse of bytes. -/
namespace Go.Proofs.YtbcbmkeeoognpaaGreatDoor
open Go.RowKit

/-- The first k and the last k have changed places. -/
def RevI (xs X : List Int) (n k : Nat) : Prop := X.length = n ∧ ∀ j, j < n → X[j]?.getD 0 = if j < k ∨ n - 1 - j < k then xs[n - 1 - j]?.getD 0 else xs[j]?.getD 0

theorem rev_step (xs X : List Int) (n k m : Nat) (h : RevI xs X n k) (hkm : k < m) (hn : k + m + 1 = n) :
    RevI xs ((X.set k (X[m]?.getD 0)).set m (X[k]?.getD 0)) n (k + 1) := by
  obtain ⟨h1, h2⟩ := h
  refine ⟨by simpa using h1, fun j hj => ?_⟩
  rw [List.getElem?_set, List.length_set]
  by_cases e1 : m = j
  · subst e1
    rw [if_pos rfl, if_pos (by omega), Option.getD_some, h2 k (by omega), if_neg (by omega), if_pos (by omega)]
    congr 2
    omega
  · rw [if_neg e1, List.getElem?_set]
    by_cases e2 : k = j
    · subst e2
      rw [if_pos rfl, if_pos (by omega), Option.getD_some, h2 m (by omega), if_neg (by omega), if_pos (by omega)]
      congr 2
      omega
    · rw [if_neg e2, h2 j hj]
      by_cases e3 : j < k ∨ n - 1 - j < k
      · rw [if_pos e3, if_pos (by omega)]
      · rw [if_neg e3, if_neg (by omega)]
theorem rev_start (xs : List Int) (n : Nat) (h : xs.length = n) : RevI xs xs n 0 := ⟨h, fun j hj => by rw [if_neg (by omega)]⟩
theorem rev_end (xs X : List Int) (n k m : Nat) (hx : xs.length = n) (h : RevI xs X n k) (hkm : ¬ k < m) (hn : k + m + 1 = n) : X = xs.reverse := by
  obtain ⟨h1, h2⟩ := h
  refine List.ext_getElem? fun j => ?_
  by_cases hj : j < n
  · have e := h2 j hj
    rw [List.getElem?_eq_getElem (by omega), Option.getD_some] at e
    rw [List.getElem?_reverse (by omega), List.getElem?_eq_getElem (by omega), e, hx]
    split
    · rw [List.getElem?_eq_getElem (by omega), Option.getD_some]
    · have : j = n - 1 - j := by omega
      rw [List.getElem?_eq_getElem (show j < xs.length by omega), Option.getD_some, List.getElem?_eq_getElem (show n - 1 - j < xs.length by omega)]
      congr 1
      simp only [← this]
  · rw [List.getElem?_eq_none (by omega), List.getElem?_eq_none (by simp; omega)]

def RevR (w : World) (b : Nat) (t : TypeId) (xs : List Int) (e : Ending) (w' : World) : Prop :=
  e = .returned (.tuple #[]) ∧ RowAt w' b t .u8 xs.reverse ∧ Only b w w'

set_option maxHeartbeats 1000000 in
theorem rev_calls (b n c : Nat) (t : TypeId) (xs : List Int) (w : World) (hn : n ≤ 140737488355328) (hnc : n ≤ c) (hx : RowAt w b t .u8 xs) (hl : xs.length = n) :
    Calls Tryz.prog 124 #[.slice (some ⟨b, 0, none⟩) n c] w (RevR w b t xs) := by
  have HL := Lib.hid hl
  unfold RevR
  by_cases hn0 : n = 0
  · subst hn0
    obtain rfl : xs = [] := List.length_eq_zero_iff.1 hl
    clear hl HL
    go_enter Tryz.func124, Tryz.ntmps124
    go_wp2
    refine wp_loop_rounds 1 ?_
    rw [rounds_succ]
    go_wp2
    go_end0
    exact ⟨rfl, hx, Only.refl _ _⟩
  · have hI := rev_start xs n hl
    obtain ⟨m0, rfl⟩ : ∃ m0, n = m0 + 1 := ⟨n - 1, by omega⟩
    have HI := Lib.hid hI
    clear hl hI hn0
    go_enter Tryz.func124, Tryz.ntmps124
    go_wp2
    go_loopw [2, 3] (fun i j wr => ∃ k m : Nat, ∃ X, i = .int .i64 k ∧ j = .int .i64 m ∧ Hid (k + m = m0) ∧ k ≤ m0 ∧ m ≤ m0 ∧ Hid (RevI xs X (m0 + 1) k) ∧ RowAt wr b t .u8 X ∧ Only b w wr) (fun i j _ => m0 - (intOf i).toNat)
    case atStart => exact ⟨0, m0, xs, rfl, by first | rfl | (simp), Lib.hid (by omega), by omega, by omega, HI, hx, Only.refl _ _⟩
    case round =>
      clear hx HI
      obtain ⟨k, m, X, rfl, rfl, hkm, hk, hm, hX, hr, ho⟩ := hrel
      by_cases hlt : k < m
      · have ck := hr.cell k (by rw [hX.out.1]; omega)
        have cm := hr.cell m (by rw [hX.out.1]; omega)
        have fk := hr.free k
        have fm := hr.free m
        have ST := Lib.hid (rev_step xs X (m0 + 1) k m hX.out hlt (by have := hkm.out; omega))
        have hkm' := Lib.hid (show k + 1 + (m - 1) = m0 by have := hkm.out; omega)
        have hne : k ≠ m := by omega
        generalize X[k]?.getD 0 = x at *
        generalize X[m]?.getD 0 = y at *
        have R1 := fun (q : Nat) => ((hr.drewN q).set k y).set m x
        have R2 := fun (q : Nat) => ((hr.drewN q).set m x).set k y
        have O1 := fun (q : Nat) => ((ho.drewN q).set k (.int .u8 y)).set m (.int .u8 x)
        have O2 := fun (q : Nat) => ((ho.drewN q).set m (.int .u8 x)).set k (.int .u8 y)
        have hm1 : ((m : Int) - 1) = ((m - 1 : Nat) : Int) := by omega
        have HM := Lib.hid hm1
        clear hm1
        go_wp2_with fail
        go_region
        go_wp2
        go_roundw
        case rel =>
          first
            | exact ⟨k + 1, m - 1, _, by go_num, by rw [HM.out], hkm', by omega, by omega, ST, R1 1, O1 1⟩
            | exact ⟨k + 1, m - 1, _, by go_num, by rw [HM.out], hkm', by omega, by omega, ST, R1 0, O1 0⟩
        case measure => simp [intOf]; omega

      · obtain rfl := rev_end xs X (m0 + 1) k m HL.out hX.out hlt (by have := hkm.out; omega)
        go_wp2
        go_end0
        exact ⟨rfl, hr, ho⟩

theorem rev_nil (w : World) : Calls Tryz.prog 124 #[.slice none 0 0] w (fun e w' => e = .returned (.tuple #[]) ∧ w = w') := by
  go_enter Tryz.func124, Tryz.ntmps124
  go_wp2
  refine wp_loop_rounds 1 ?_
  rw [rounds_succ]
  go_wp2
  go_end0
  exact ⟨rfl, rfl⟩
end Go.Proofs.YtbcbmkeeoognpaaGreatDoor

