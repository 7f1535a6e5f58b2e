/- Contracts of functions, and plain facts, part 2. -/
import Derived.WalkKit
import Derived.Lib.Hide
import Derived.Deep.Draws
import Derived.Deep.OwnRows
import Derived.Deep.AppendLies
import Derived.Maps.AppendAt
import Derived.Laws.CopyOwn
import Derived.KernelRfl
import Derived.Deep.QuietTactic
import Derived.BigQuiet
import Derived.SizedLaws
import Derived.ChangeSlices
import Derived.OpenShut
import Derived.Test.YtoimhjcpeifegaaGreatDoorPk1
set_option linter.unusedVariables false
set_option linter.unusedSimpArgs false
/- Slices of whole numbers in memory: what is read, what the call owns; nothing here speaks of a program. -/
namespace Go.Proofs.YtoimhjcpeifegaaGreatDoor
open Go.RowKit

/-- Slice (ad, n) reads as the list xs, numbers of kind k. -/
structure Rds (w : World) (k : IntKind) (ad : Option Addr) (n : Nat) (xs : List Int) : Prop where
  len : xs.length = n
  cell : ∀ j, j < n → ∃ a, ad = some a ∧ w.cell? (a.add j) = some (.int k (xs[j]?.getD 0))

theorem Rds.lt {w : World} {k : IntKind} {ad : Option Addr} {n : Nat} {xs : List Int} (h : Rds w k ad n xs) (hn : 0 < n) :
    ∃ a, ad = some a ∧ a.block < w.heap.size := by
  obtain ⟨a, rfl, hc⟩ := h.cell 0 hn
  refine ⟨a, rfl, ?_⟩
  have := World.block_lt_of_cell? w _ hc
  simpa [Addr.add] using this

theorem Rds.below {w w1 : World} {k : IntKind} {ad : Option Addr} {n : Nat} {xs : List Int} (h : Rds w k ad n xs) {B : Nat} (hb : Below B w w1) (hB : w.heap.size ≤ B) : Rds w1 k ad n xs :=
  ⟨h.len, fun j hj => by
    obtain ⟨a, e, hc⟩ := h.cell j hj
    refine ⟨a, e, ?_⟩
    rw [← hc]
    exact hb.cell (Nat.lt_of_lt_of_le (World.block_lt_of_cell? w _ hc) hB)⟩

theorem Rds.drewN {w : World} {k : IntKind} {ad : Option Addr} {n : Nat} {xs : List Int} (h : Rds w k ad n xs) (q : Nat) : Rds (w.drewN q) k ad n xs := ⟨h.len, h.cell⟩

/-- A callee that leaves the world alone, in a region that draws. -/
theorem quiet_left {P : Program} {f : FuncId} {args : Array Value} {w : World} {n : Nat} {v : Value}
    (h : Calls P f args (w.drewN n) fun e w' => e = .returned v ∧ w.drewN n = w') : Calls P f args (w.drewN n) fun e w'' => e = .returned v ∧ ∃ m, w'' = w.drewN m :=
  h.mono fun _ _ ⟨he, hm⟩ => ⟨he, n, hm.symm⟩

theorem Rds.take {w : World} {k : IntKind} {ad : Option Addr} {n : Nat} {xs : List Int} (h : Rds w k ad n xs) (m : Nat) (hm : m ≤ n) : Rds w k ad m (xs.take m) := by
  refine ⟨by rw [List.length_take, h.len]; omega, fun j hj => ?_⟩
  obtain ⟨a, e, hc⟩ := h.cell j (by omega)
  refine ⟨a, e, ?_⟩
  rw [hc, List.getElem?_take_of_lt hj]

theorem Rds.norm {w : World} {k : IntKind} {ad : Option Addr} {n : Nat} {xs : List Int} (h : Rds w k ad n xs) : Rds w k ad (norm xs).length (norm xs) := by
  have := h.take (Go.Proofs.YtoimhjcpeifegaaGreatDoor.norm xs).length (by rw [← h.len]; exact norm_length_le _)
  rwa [← norm_take] at this

theorem Rds.nil (w : World) (k : IntKind) (ad : Option Addr) : Rds w k ad 0 [] := ⟨rfl, fun j hj => by omega⟩

theorem add_add (a : Addr) (i j : Nat) : (a.add i).add j = a.add (i + j) := by
  unfold Addr.add
  by_cases h1 : i = 0 <;> by_cases h2 : j = 0 <;> simp [h1, h2, Nat.add_assoc]

/-- xs[m:] of a slice that is read. -/
theorem Rds.drop {w : World} {k : IntKind} {ad : Option Addr} {n : Nat} {xs : List Int} (h : Rds w k ad n xs) (m : Nat) (hm : m ≤ n) : Rds w k (ad.map (·.add m)) (n - m) (xs.drop m) := by
  refine ⟨by rw [List.length_drop, h.len], fun j hj => ?_⟩
  obtain ⟨a, rfl, hc⟩ := h.cell (m + j) (by omega)
  refine ⟨a.add m, rfl, ?_⟩
  rw [add_add, hc, List.getElem?_drop]

theorem plain_add (g j : Nat) : (⟨g, 0, none⟩ : Addr).add j = ⟨g, j, none⟩ := by unfold Addr.add; split <;> simp_all

/-- Numbers as cells. -/
def nums (k : IntKind) (xs : List Int) : List Value := xs.map fun x => .int k x
theorem nums_length (k : IntKind) (xs : List Int) : (nums k xs).length = xs.length := by simp [nums]
theorem nums_get (k : IntKind) (xs : List Int) (j : Nat) (h : j < xs.length) : (nums k xs)[j]? = some (.int k (xs[j]?.getD 0)) := by
  simp [nums, List.getElem?_eq_getElem h]

/-- Block b is a row of numbers of the call's own, known whole. -/
def Blk (w : World) (b : Nat) (t : TypeId) (k : IntKind) (ys : List Int) : Prop := w.heap[b]? = some (.cells (nums k ys).toArray t (0, 0))

theorem Blk.lt {w : World} {b : Nat} {t : TypeId} {k : IntKind} {ys : List Int} (h : Blk w b t k ys) : b < w.heap.size := (Array.getElem?_eq_some_iff.1 h).1
theorem Blk.cell {w : World} {b : Nat} {t : TypeId} {k : IntKind} {ys : List Int} (h : Blk w b t k ys) (j : Nat) (hj : j < ys.length) :
    w.cell? ⟨b, j, none⟩ = some (.int k (ys[j]?.getD 0)) := by
  have e := nums_get k ys j hj
  unfold Blk at h
  simp [World.cell?, h, e]
theorem Blk.free {w : World} {b : Nat} {t : TypeId} {k : IntKind} {ys : List Int} (h : Blk w b t k ys) (j : Nat) : w.frozen? ⟨b, j, none⟩ = false := by
  unfold Blk at h
  simp [World.frozen?, h]
theorem Blk.drewN {w : World} {b : Nat} {t : TypeId} {k : IntKind} {ys : List Int} (h : Blk w b t k ys) (n : Nat) : Blk (w.drewN n) b t k ys := h
theorem Blk.drew {w : World} {b : Nat} {t : TypeId} {k : IntKind} {ys : List Int} (h : Blk w b t k ys) : Blk w.drew b t k ys := h
theorem Blk.set {w : World} {b : Nat} {t : TypeId} {k : IntKind} {ys : List Int} (h : Blk w b t k ys) (j : Nat) (x : Int) : Blk (w.setCell ⟨b, j, none⟩ (.int k x)) b t k (ys.set j x) := by
  unfold Blk at *
  simp only [World.setCell, Array.getElem?_modify, h, if_true, Option.map_some, Option.isSome_none]
  simp [nums, List.map_set]
theorem Blk.below {w w1 : World} {b : Nat} {t : TypeId} {k : IntKind} {ys : List Int} (h : Blk w b t k ys) {B : Nat} (hb : Below B w w1) (hB : b < B) : Blk w1 b t k ys := (hb.block b hB).trans h
theorem Blk.rds {w : World} {b : Nat} {t : TypeId} {k : IntKind} {ys : List Int} (h : Blk w b t k ys) : Rds w k (some ⟨b, 0, none⟩) ys.length ys :=
  ⟨rfl, fun j hj => ⟨_, rfl, by rw [plain_add]; exact h.cell j hj⟩⟩

/-- make([]T, n): the row behind it. -/
theorem make_rule {P : Program} (t e : TypeId) (k : IntKind) (bytes : Nat) (ht : P.underlying t = some (.slice e)) (hinfo : (P.info? e).map (fun i => (i.zero, i.size, i.bytes)) = some (some (.int k 0), 1, bytes)) (hb0 : 0 < bytes)
    (m : Nat) (hn : m * bytes ≤ 281474976710656) (N : Int) (hN : N = (m : Int)) :
    ∀ W : World, (Instr.makeSlice t (.int .i64 N) (.int .i64 N)).run P W = .ok (.slice (some ⟨W.heap.size, 0, none⟩) m m) (W.alloc (.cells (nums k (List.replicate m 0)).toArray e)) := by
  intro W
  subst hN
  have hm : m ≤ 281474976710656 := Nat.le_trans (Nat.le_mul_of_pos_right _ hb0) hn
  have h := run_make_row' (P := P) t e (.int k 0) bytes ht hinfo rfl .i64 .i64 m (by rw [Nat.mul_comm]; exact hn) (by omega) W
  rw [h]
  congr 4
  simp [madeCells, nums, Nat.mod_one]
  apply Array.ext <;> simp

theorem Blk.made (W : World) (t : TypeId) (k : IntKind) (ys : List Int) (b : Nat) (hb : b = W.heap.size) : Blk (W.alloc (.cells (nums k ys).toArray t)) b t k ys := by
  subst hb
  exact heap_alloc_new W _

/-- What the call made and hands back: slice (ad, n, c) over memory from block B on, not shared with what was there. -/
structure Own (B : Nat) (w : World) (t : TypeId) (k : IntKind) (ad : Option Addr) (n c : Nat) (xs : List Int) : Prop where
  len : xs.length = n
  le : n ≤ c
  big : c ≤ 9223372036854775807
  row : 0 < c → ∃ b cs, ad = some ⟨b, 0, none⟩ ∧ B ≤ b ∧ w.heap[b]? = some (.cells cs t (0, 0)) ∧ c ≤ cs.size ∧ ∀ j, j < n → cs[j]? = some (.int k (xs[j]?.getD 0))

theorem Own.rds {B : Nat} {w : World} {t : TypeId} {k : IntKind} {ad : Option Addr} {n c : Nat} {xs : List Int} (h : Own B w t k ad n c xs) : Rds w k ad n xs := by
  refine ⟨h.len, fun j hj => ?_⟩
  have := h.le
  obtain ⟨b, cs, rfl, _, hh, hc, hcell⟩ := h.row (by omega)
  refine ⟨_, rfl, ?_⟩
  rw [plain_add]
  simp [World.cell?, hh, hcell j hj]

theorem Own.below {B : Nat} {w w1 : World} {t : TypeId} {k : IntKind} {ad : Option Addr} {n c : Nat} {xs : List Int} (h : Own B w t k ad n c xs) {B' : Nat} (hb : Below B' w w1) (hB : w.heap.size ≤ B') : Own B w1 t k ad n c xs :=
  ⟨h.len, h.le, h.big, fun hc => by
    obtain ⟨b, cs, e, h1, h2, h3⟩ := h.row hc
    have hlt : b < w.heap.size := (Array.getElem?_eq_some_iff.1 h2).1
    exact ⟨b, cs, e, h1, by rw [hb.block b (by omega)]; exact h2, h3⟩⟩

theorem Own.mono {B B' : Nat} {w : World} {t : TypeId} {k : IntKind} {ad : Option Addr} {n c : Nat} {xs : List Int} (h : Own B w t k ad n c xs) (hB : B' ≤ B) : Own B' w t k ad n c xs :=
  ⟨h.len, h.le, h.big, fun hc => by
    obtain ⟨b, cs, e, h1, h2⟩ := h.row hc
    exact ⟨b, cs, e, by omega, h2⟩⟩

theorem Own.nil (B : Nat) (w : World) (t : TypeId) (k : IntKind) (ad : Option Addr) : Own B w t k ad 0 0 [] := ⟨rfl, by omega, by omega, fun h => by omega⟩

/-- The same memory, fewer places. -/
theorem Own.take {B : Nat} {w : World} {t : TypeId} {k : IntKind} {ad : Option Addr} {n c : Nat} {xs : List Int} (h : Own B w t k ad n c xs) (m : Nat) (hm : m ≤ n) : Own B w t k ad m c (xs.take m) := by
  have hl := h.le
  have hn := h.len
  refine ⟨by rw [List.length_take]; omega, by omega, h.big, fun hc => ?_⟩
  obtain ⟨b, cs, e, h1, h2, h3, h4⟩ := h.row hc
  refine ⟨b, cs, e, h1, h2, h3, fun j hj => ?_⟩
  rw [h4 j (by omega), List.getElem?_take_of_lt hj]
theorem Own.norm {B : Nat} {w : World} {t : TypeId} {k : IntKind} {ad : Option Addr} {n c : Nat} {xs : List Int} (h : Own B w t k ad n c xs) : Own B w t k ad (Go.Proofs.YtoimhjcpeifegaaGreatDoor.norm xs).length c (Go.Proofs.YtoimhjcpeifegaaGreatDoor.norm xs) := by
  have := h.take (Go.Proofs.YtoimhjcpeifegaaGreatDoor.norm xs).length (by rw [← h.len]; exact norm_length_le _)
  rwa [← norm_take] at this

/-- out[:m:m] of a row of the call's own. -/
theorem Blk.own {B : Nat} {w : World} {b : Nat} {t : TypeId} {k : IntKind} {ys : List Int} (h : Blk w b t k ys) (hB : B ≤ b) (m : Nat) (hm : m ≤ ys.length) (hbig : ys.length ≤ 281474976710656) :
    Own B w t k (some ⟨b, 0, none⟩) m m (ys.take m) := by
  refine ⟨by rw [List.length_take]; omega, by omega, by omega, fun _ => ⟨b, _, rfl, hB, h, by simp [nums]; omega, fun j hj => ?_⟩⟩
  rw [List.getElem?_toArray, nums_get k ys j (by omega), List.getElem?_take_of_lt hj]

/-- A list is handed back: new memory, nothing old has turned. -/
def RetL (t : TypeId) (k : IntKind) (zs : List Int) (w : World) (e : Ending) (w' : World) : Prop :=
  ∃ ad n c, e = .returned (.slice ad n c) ∧ Own w.heap.size w' t k ad n c zs ∧ Below w.heap.size w w'

/-- The row cut to its number's digits is handed back. -/
theorem Blk.ret {w wr : World} {b : Nat} {t : TypeId} {ys : List Int} (h : Blk wr b t .u32 ys) (hB : w.heap.size ≤ b) (hbig : ys.length ≤ 281474976710656) (hd : Dig 4294967296 ys) (V : Int) (hV : val 4294967296 ys = V) (hb : Below w.heap.size w wr) :
    RetL t .u32 (dg 4294967296 V) w (.returned (.slice (some ⟨b, 0, none⟩) (Go.Proofs.YtoimhjcpeifegaaGreatDoor.norm ys).length (Go.Proofs.YtoimhjcpeifegaaGreatDoor.norm ys).length)) wr := by
  have E := norm_eq 4294967296 (by omega) hd
  have O := h.own hB (Go.Proofs.YtoimhjcpeifegaaGreatDoor.norm ys).length (norm_length_le _) hbig
  rw [← norm_take] at O
  rw [show ((4294967296 : Nat) : Int) = 4294967296 from rfl, hV] at E
  refine ⟨_, _, _, rfl, ?_, hb⟩
  rw [← E]
  exact O

theorem below_alloc {w W : World} (h : Below w.heap.size w W) (o : Obj) : Below w.heap.size w (W.alloc o) := h.alloc h.size o
theorem below_drewN {B : Nat} {w W : World} (h : Below B w W) (n : Nat) : Below B w (W.drewN n) := ⟨h.os, h.tape, h.output, h.size, h.block⟩
theorem below_drew {B : Nat} {w W : World} (h : Below B w W) : Below B w W.drew := ⟨h.os, h.tape, h.output, h.size, h.block⟩
theorem below_set {B : Nat} {w W : World} (h : Below B w W) (b j : Nat) (u : Value) (hB : B ≤ b) : Below B w (W.setCell ⟨b, j, none⟩ u) := h.setCell (p := ⟨b, j, none⟩) hB u
theorem below_then {B : Nat} {w w1 w2 : World} (h : Below B w w1) (hB : B ≤ w1.heap.size) (k : Below w1.heap.size w1 w2) : Below B w w2 :=
  h.trans ⟨k.os, k.tape, k.output, k.size, fun i hi => k.block i (Nat.lt_of_lt_of_le hi hB)⟩

theorem below_trans {w w1 w2 : World} (h : Below w.heap.size w w1) (k : Below w1.heap.size w1 w2) : Below w.heap.size w w2 := below_then h h.size k
theorem RetL.after {t : TypeId} {k : IntKind} {zs : List Int} {w w1 : World} {e : Ending} {w2 : World} (h : RetL t k zs w1 e w2) (hb : Below w.heap.size w w1) : RetL t k zs w e w2 := by
  obtain ⟨ad, n, c, e1, ho, hk⟩ := h
  exact ⟨ad, n, c, e1, ho.mono hb.size, below_trans hb hk⟩

/-- Slice (ad, n, c) is the call's own from block B on, reads as xs, and may be appended to. -/
def App (B : Nat) (w : World) (e : TypeId) (k : IntKind) (ad : Option Addr) (n c : Nat) (xs : List Int) : Prop := w.ownsRow B e 1 (.slice ad n c) n (nums k xs)

theorem App.len {B : Nat} {w : World} {e : TypeId} {k : IntKind} {ad : Option Addr} {n c : Nat} {xs : List Int} (h : App B w e k ad n c xs) : xs.length = n := by
  have := h.1
  simpa [nums] using this
theorem App.nil (B : Nat) (w : World) (e : TypeId) (k : IntKind) : App B w e k none 0 0 [] := World.ownsRow_nil w B e 1
theorem App.own {B : Nat} {w : World} {e : TypeId} {k : IntKind} {ad : Option Addr} {n c : Nat} {xs : List Int} (h : App B w e k ad n c xs) : Own B w e k ad n c xs := by
  have hl := h.len
  rcases h.2 with ⟨h1, h2⟩ | ⟨g, cap, cur, h1, h2, h3, h4, h5, h6, h7⟩
  · injection h1 with h1 h1' h1''
    subst h1 h1' h1''
    exact ⟨hl, Nat.le_refl _, by omega, fun h => by omega⟩
  · injection h1 with h1 h1' h1''
    subst h1 h1''
    refine ⟨hl, h4, by simpa [maxLen] using h5, fun _ => ⟨g, cur, rfl, h2, h3, by omega, fun j hj => ?_⟩⟩
    rw [Nat.mul_one] at h7
    have e1 := congrArg (fun l => l[j]?) h7
    simp only [List.getElem?_take_of_lt hj] at e1
    rw [← Array.getElem?_toList, e1, nums_get k xs j (by omega)]
theorem App.rds {B : Nat} {w : World} {e : TypeId} {k : IntKind} {ad : Option Addr} {n c : Nat} {xs : List Int} (h : App B w e k ad n c xs) : Rds w k ad n xs := h.own.rds
theorem App.alloc {B : Nat} {w : World} {e : TypeId} {k : IntKind} {ad : Option Addr} {n c : Nat} {xs : List Int} (h : App B w e k ad n c xs) (o : Obj) : App B (w.alloc o) e k ad n c xs := World.ownsRow.alloc h o
theorem App.below {B : Nat} {w w1 : World} {e : TypeId} {k : IntKind} {ad : Option Addr} {n c : Nat} {xs : List Int} (h : App B w e k ad n c xs) {B' : Nat} (hb : Below B' w w1) (hB : w.heap.size ≤ B') : App B w1 e k ad n c xs := by
  refine ⟨h.1, ?_⟩
  rcases h.2 with h2 | ⟨g, cap, cur, h1, h2, h3, h4⟩
  · exact .inl h2
  · exact .inr ⟨g, cap, cur, h1, h2, by rw [hb.block g (Nat.lt_of_lt_of_le (Array.getElem?_eq_some_iff.1 h3).1 hB)]; exact h3, h4⟩
theorem App.drewN {B : Nat} {w : World} {e : TypeId} {k : IntKind} {ad : Option Addr} {n c : Nat} {xs : List Int} (h : App B w e k ad n c xs) (m : Nat) : App B (w.drewN m) e k ad n c xs := h

theorem App.made (B : Nat) (W : World) (e : TypeId) (k : IntKind) (m : Nat) (hB : B ≤ W.heap.size) (hm : m ≤ 281474976710656) (b : Nat) (hb : b = W.heap.size) : App B (W.alloc (.cells (madeCells #[.int k 0] m) e)) e k (some ⟨b, 0, none⟩) 0 m [] := by
  subst hb
  exact World.ownsRow_made W _ m hB (by simp only [maxLen]; omega) (by simp [madeCells])

section
variable {P : Program} {ops : Array Oper} {rest : List Oper} {o : Oper} {a : Act} {Q : Exit → Act → World → Prop}
end

section
variable {P : Program} {ops : Array Oper} {rest : List Oper} {o : Oper} {a : Act} {Q : Exit → Act → World → Prop}
/-- copy(dst, src) into a row of the call's own, src no longer than dst: the row behind it. -/
theorem copy_law {w w0 : World} (B : Nat) (hgd : o.guard = none) (d s : Operand) (dT sT : TypeId) (ho : o.op = .call { callee := .builtin .copy, args := #[d, s], argTypes := #[dT, sT] })
    (e : TypeId) (hu : P.underlying dT = some (.slice e)) (hsz : (P.info? e).map (·.size) = some 1)
    (dp sp : Option Addr) (dLen dCap sLen sCap : Nat) (hd : a.eval d = .slice dp dLen dCap) (hs : a.eval s = .slice sp sLen sCap)
    (g off : Nat) (k : IntKind) (cur ys : List Int) (hg : Blk w g e k cur) (hr : Rds w k sp sLen ys) (hl : sLen ≤ dLen) (hpos : 0 < sLen → dp = some ⟨g, off, none⟩) (hfit : off + sLen ≤ cur.length)
    (hb : Below B w0 w) (hBg : B ≤ g)
    (h : ∀ w', Blk w' g e k (cur.take off ++ (ys ++ cur.drop (off + sLen))) → Below B w0 w' → wpList P ops Q rest (a.put o.dst (goInt sLen)) w') :
    wpList P ops Q (o :: rest) a w := by
  have hly := hr.len
  refine wpList_copy_splice hgd d s dT sT ho e hu hsz dp sp dLen dCap sLen sCap hd hs g off (nums k cur) e hg (nums k ys) (by rw [nums_length, hly]; exact (Nat.min_eq_left hl).symm)
    (fun hp => ?_) (by rw [nums_length, nums_length, hly]; exact hfit) (fun v hv => by simp only [nums, List.mem_map] at hv; obtain ⟨x, _, rfl⟩ := hv; rfl) B w0 hb hBg ?_
  · rw [nums_length, hly] at hp
    obtain ⟨ad, e1, _⟩ := hr.cell 0 hp
    refine ⟨hpos hp, ad, e1, fun j v hj => ?_⟩
    have hjl : j < ys.length := by
      rcases Nat.lt_or_ge j ys.length with h1 | h1
      · exact h1
      · rw [List.getElem?_eq_none (by rw [nums_length]; exact h1)] at hj; cases hj
    obtain ⟨ad', e2, hc⟩ := hr.cell j (by omega)
    rw [e1] at e2
    injection e2 with e2
    subst e2
    rw [nums_get k ys j hjl] at hj
    rw [hc, hj]
  · intro w' hw hb'
    rw [nums_length, hly]
    refine h w' ?_ hb'
    have := hw.out
    unfold Blk
    rw [this]
    congr 2
    simp [splice, nums, hly, List.map_take, List.map_drop]
end

end Go.Proofs.YtoimhjcpeifegaaGreatDoor


/- Long multiplication, place by place: plain facts on lists. -/
namespace Go.Proofs.YtoimhjcpeifegaaGreatDoor

end Go.Proofs.YtoimhjcpeifegaaGreatDoor


/- From a row's readings to what the walks ask: a slice of whole numbers, a whole number. -/
namespace Go.Proofs.YtoimhjcpeifegaaGreatDoor
open Go.ChangeShapes Go.WideShapes Go.RowKit

/-- A slice of whole numbers as the form reads it. -/
def IsRow (k : IntKind) (w : World) (a : Option Addr) (len cap : Nat) (zs : List Int) : Prop :=
  (a = none ∧ len = 0 ∧ cap = 0 ∧ zs = []) ∨
  ∃ x, a = some x ∧ len ≤ cap ∧ cap ≤ maxLen ∧ zs.length = cap ∧ (∀ i, i < zs.length → w.cell? (x.add i) = some (.int k (zs.getD i 0))) ∧ ∀ n ∈ zs, (Lit.int k n).wf = true

theorem IsRow.rds {k : IntKind} {w : World} {a : Option Addr} {len cap : Nat} {zs : List Int} (h : IsRow k w a len cap zs) : Rds w k a len (zs.take len) := by
  rcases h with ⟨rfl, rfl, rfl, rfl⟩ | ⟨x, rfl, h1, h2, h3, h4, h5⟩
  · exact Rds.nil _ _ _
  · refine ⟨by rw [List.length_take]; omega, fun j hj => ⟨x, rfl, ?_⟩⟩
    rw [h4 j (by omega), List.getElem?_take_of_lt hj, List.getD_eq_getElem?_getD]
theorem IsRow.none {k : IntKind} {w : World} {a : Option Addr} {len cap : Nat} {zs : List Int} (h : IsRow k w a len cap zs) : a = none → cap = 0 := by
  rcases h with ⟨rfl, rfl, rfl, rfl⟩ | ⟨x, rfl, h1, _⟩
  · exact fun _ => rfl
  · exact fun h => by cases h
theorem IsRow.le {k : IntKind} {w : World} {a : Option Addr} {len cap : Nat} {zs : List Int} (h : IsRow k w a len cap zs) : len ≤ cap := by
  rcases h with ⟨rfl, rfl, rfl, rfl⟩ | ⟨x, rfl, h1, _⟩
  · exact Nat.le_refl _
  · exact h1
theorem IsRow.wf {k : IntKind} {w : World} {a : Option Addr} {len cap : Nat} {zs : List Int} (h : IsRow k w a len cap zs) : ∀ n ∈ zs.take len, (Lit.int k n).wf = true := by
  intro n hn
  have hn := List.mem_of_mem_take hn
  rcases h with ⟨rfl, rfl, rfl, rfl⟩ | ⟨x, rfl, h1, h2, h3, h4, h5⟩
  · cases hn
  · exact h5 n hn
theorem wf_u32 {x : Int} (h : (Lit.int .u32 x).wf = true) : 0 ≤ x ∧ x < 4294967296 := by
  have := bounds_u32 h
  omega
theorem wf_u64 {x : Int} (h : (Lit.int .u64 x).wf = true) : 0 ≤ x ∧ x < 18446744073709551616 := by
  have := bounds_u64 h
  omega
theorem IsRow.dig {w : World} {a : Option Addr} {len cap : Nat} {zs : List Int} (h : IsRow .u32 w a len cap zs) : Dig 4294967296 (zs.take len) := fun n hn => wf_u32 (h.wf n hn)

/-- A row's slice of whole numbers is no longer than its weight allows. -/
theorem sized_ints {H : Type} {enc : TypeId × Value → H} {P : Program} {W : World} {base : Nat} {spare : Nat → Bool} {held : Bool} {t e : TypeId} {k : IntKind} {a : Option Addr} {len cap : Nat} {d : DataW H} {ps : List MemPlace} {ts : List TypeId} {ds : List (DataW H)} {j : Nat}
    (hsz : (DataW.weightsEach P ts ds).all (· ≤ reachBytes) = true) (ht : ts[j]? = some t) (hd : ds[j]? = some d) (hu : P.underlying t = some (.slice e)) (he : P.underlying e = some (.int k)) (hc : P.cellsOf e = 1) {B : Nat} (hB : P.bytesOf e = B)
    (h : DataW.Trod enc P W base spare held t (.slice a len cap) d ps) : len * B ≤ 140737488351232 := by
  obtain ⟨fuel, hf⟩ := h
  rcases open_ints hu he hc hf with ⟨hcs, _⟩ | ⟨x, l, c, zs, hcs, _, hl, _, hz, hx, _, _⟩
  · simp [Value.cells] at hcs
    obtain ⟨rfl, rfl, rfl⟩ := hcs
    simp
  · simp [Value.cells] at hcs
    obtain ⟨rfl, rfl, rfl⟩ := hcs
    obtain ⟨hx, _⟩ := Prod.mk.inj hx
    subst hx
    have z := sized_slice hsz ht hd hu
    rw [hB] at z
    have hl2 : len ≤ zs.length := by
      rw [hz]
      split
      · exact hl
      · exact Nat.le_refl _
    have h1 : (lits (H := H) k (zs.take len)).length + (lits (H := H) k (zs.drop len)).length = zs.length := by
      simp [lits]
      omega
    rw [h1] at z
    exact Nat.le_trans (Nat.mul_le_mul_right _ hl2) z
end Go.Proofs.YtoimhjcpeifegaaGreatDoor

