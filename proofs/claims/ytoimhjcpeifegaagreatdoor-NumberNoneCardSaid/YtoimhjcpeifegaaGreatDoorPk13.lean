/- Contracts of functions, and plain facts, part 13. -/
import Derived.Maps.AppendAt
import Derived.Test.YtoimhjcpeifegaaGreatDoorPk8
import Derived.Test.YtoimhjcpeifegaaGreatDoorPk10
import Derived.Test.YtoimhjcpeifegaaGreatDoorPk11
import Derived.Test.YtoimhjcpeifegaaGreatDoorPk12
set_option linter.unusedVariables false
set_option linter.unusedSimpArgs false
/- Contracts of layer 4 in the kit: they read the laid variables. -/
namespace Go.Proofs.YtoimhjcpeifegaaGreatDoor
open Go Go.RowKit

theorem fitsIntN {W : Nat} (hW : Wide W) (x : Int) : Fits (intN W x) := ⟨4099, by have := lim_eq; omega, intN_bd hW x⟩
theorem retIntB_con {N : Int} {ok : Bool} {w : World} {B : Bx} {e : Ending} {w' : World} (hf : Fits N) (h : RetIntB N ok w e w') : ∃ v, e = .returned v ∧ (Tup [IsI N, IsB ok]).p v w' B ∧ Below w.heap.size w w' := by
  obtain ⟨ad, n, c, e1, k, hb⟩ := h
  refine ⟨_, e1, ⟨[.agg #[.bool (decide (N < 0)), .slice ad n c], .bool ok], rfl, ⟨ad, n, c, rfl, k, ?_⟩, rfl, trivial⟩, hb⟩
  obtain ⟨q, hq, hf⟩ := hf
  exact Nat.le_trans (k.len_le q hf) hq
theorem tup2_con {a b : Value} {w w' : World} {B : Bx} {e : Ending} (h : e = .returned (.tuple #[a, b]) ∧ Below w.heap.size w w') : ∃ v, e = .returned v ∧ (Tup [Lit a, Lit b]).p v w' B ∧ Below w.heap.size w w' := ⟨_, h.1, ⟨[a, b], rfl, rfl, rfl, trivial⟩, h.2⟩
theorem con_iint64 (x : Int) (hx : 0 ≤ x ∧ x < 18446744073709551616) : ConE Tryz.prog 49 [Lit (.int .u64 x)] (Tup [IsI (intN 64 x), IsB (intOk 64 x)]) := by
  refine ⟨fun _ _ => by go_simp, fun vs w B hB hE hV => ?_⟩
  match vs, hV with
  | [v], ⟨h1, _⟩ =>
    obtain rfl := h1
    exact (iint_64 w hE.sh hE.tab x hx).mono fun e w' h => retIntB_con (fitsIntN (by unfold Wide; omega) x) h
theorem con_iint32 (x : Int) (hx : 0 ≤ x ∧ x < 4294967296) : ConE Tryz.prog 72 [Lit (.int .u32 x)] (Tup [IsI (intN 32 x), IsB (intOk 32 x)]) := by
  refine ⟨fun _ _ => by go_simp, fun vs w B hB hE hV => ?_⟩
  match vs, hV with
  | [v], ⟨h1, _⟩ =>
    obtain rfl := h1
    exact (iint_32 w hE.sh hE.tab x hx).mono fun e w' h => retIntB_con (fitsIntN (by unfold Wide; omega) x) h
theorem con_iint16 (x : Int) (hx : 0 ≤ x ∧ x < 65536) : ConE Tryz.prog 71 [Lit (.int .u16 x)] (Tup [IsI (intN 16 x), IsB (intOk 16 x)]) := by
  refine ⟨fun _ _ => by go_simp, fun vs w B hB hE hV => ?_⟩
  match vs, hV with
  | [v], ⟨h1, _⟩ =>
    obtain rfl := h1
    exact (iint_16 w hE.sh hE.tab x hx).mono fun e w' h => retIntB_con (fitsIntN (by unfold Wide; omega) x) h
theorem con_to6416 (x : Int) (hx : 0 ≤ x ∧ x < 65536) : ConE Tryz.prog 13 [Lit (.int .u16 x)] (Tup [Lit (.int .u64 (toW 64 16 x).1), IsB (toW 64 16 x).2]) := by
  refine ⟨fun _ _ => by go_simp, fun vs w B hB hE hV => ?_⟩
  match vs, hV with
  | [v], ⟨h1, _⟩ =>
    obtain rfl := h1
    exact (to_64_16 w hE.sh hE.tab x hx).mono fun e w' h => tup2_con h
theorem con_to6432 (x : Int) (hx : 0 ≤ x ∧ x < 4294967296) : ConE Tryz.prog 14 [Lit (.int .u32 x)] (Tup [Lit (.int .u64 (toW 64 32 x).1), IsB (toW 64 32 x).2]) := by
  refine ⟨fun _ _ => by go_simp, fun vs w B hB hE hV => ?_⟩
  match vs, hV with
  | [v], ⟨h1, _⟩ =>
    obtain rfl := h1
    exact (to_64_32 w hE.sh hE.tab x hx).mono fun e w' h => tup2_con h
theorem con_to6464 (x : Int) (hx : 0 ≤ x ∧ x < 18446744073709551616) : ConE Tryz.prog 68 [Lit (.int .u64 x)] (Tup [Lit (.int .u64 (toW 64 64 x).1), IsB (toW 64 64 x).2]) := by
  refine ⟨fun _ _ => by go_simp, fun vs w B hB hE hV => ?_⟩
  match vs, hV with
  | [v], ⟨h1, _⟩ =>
    obtain rfl := h1
    exact (to_64_64 w hE.sh hE.tab x hx).mono fun e w' h => tup2_con h
theorem con_to1664 (x : Int) (hx : 0 ≤ x ∧ x < 18446744073709551616) : ConE Tryz.prog 36 [Lit (.int .u64 x)] (Tup [Lit (.int .u16 (toW 16 64 x).1), IsB (toW 16 64 x).2]) := by
  refine ⟨fun _ _ => by go_simp, fun vs w B hB hE hV => ?_⟩
  match vs, hV with
  | [v], ⟨h1, _⟩ =>
    obtain rfl := h1
    exact (to_16_64 w hE.sh hE.tab x hx).mono fun e w' h => tup2_con h
theorem con_to3264 (x : Int) (hx : 0 ≤ x ∧ x < 18446744073709551616) : ConE Tryz.prog 37 [Lit (.int .u64 x)] (Tup [Lit (.int .u32 (toW 32 64 x).1), IsB (toW 32 64 x).2]) := by
  refine ⟨fun _ _ => by go_simp, fun vs w B hB hE hV => ?_⟩
  match vs, hV with
  | [v], ⟨h1, _⟩ =>
    obtain rfl := h1
    exact (to_32_64 w hE.sh hE.tab x hx).mono fun e w' h => tup2_con h
theorem con_ifrom64 (X : Int) : ConE Tryz.prog 246 [IsN X] (Tup [Lit (.int .u64 (fromW 64 X).1), IsB (fromW 64 X).2]) := by
  refine ⟨fun _ _ => by go_simp, fun vs w B hB hE hV => ?_⟩
  match vs, hV with
  | [v], ⟨h1, _⟩ =>
    obtain ⟨ng, ad, n, c, V, rfl, k, l, rfl⟩ := h1
    exact (from_64 w hE.sh hE.tab ng ad n c V k (by have := lim_eq; omega)).mono fun e w' h => tup2_con h
theorem con_class64 (x : Int) (hx : 0 ≤ x ∧ x < 18446744073709551616) : ConE Tryz.prog 51 [Lit (.int .u64 x)] (Lit (.int .i8 (clsW 64 x))) := by
  refine ⟨fun _ _ => by go_simp, fun vs w B hB hE hV => ?_⟩
  match vs, hV with
  | [v], ⟨h1, _⟩ =>
    obtain rfl := h1
    exact (class_64 w hE.sh x hx).mono fun e w' h => ⟨_, h.1, rfl, h.2⟩
theorem con_iparts64 (x : Int) (hx : 0 ≤ x ∧ x < 18446744073709551616) : ConE Tryz.prog 64 [Lit (.int .u64 x)] (Tup [IsB (pNeg 64 x), Lit (.int .u64 (pM 64 x)), Lit (.int .i64 (pE 64 x)), IsB (pOk 64 x)]) := by
  refine ⟨fun _ _ => by go_simp, fun vs w B hB hE hV => ?_⟩
  match vs, hV with
  | [v], ⟨h1, _⟩ =>
    obtain rfl := h1
    exact (parts_64 w hE.sh hE.tab x hx).mono fun e w' h => ⟨_, h.1, ⟨[_, _, _, _], rfl, rfl, rfl, rfl, rfl, trivial⟩, h.2⟩
end Go.Proofs.YtoimhjcpeifegaaGreatDoor


/- Values of any kind, with all that lies within them: how they read in memory; rows of values. -/
set_option maxRecDepth 50000
namespace Go.Proofs.YtoimhjcpeifegaaGreatDoor
open Go Go.RowKit

/-- A value's own parts, its kids aside. -/
structure VD where
  k : Int
  n : Int
  ng : Bool
  xs : List Int
  b : Int
  x : Int
  t : ByteArray
inductive VT where
  | node (d : VD) (kids : List VT)
def VT.d : VT → VD
  | .node d _ => d
def VT.kids : VT → List VT
  | .node _ l => l
/-- The greatest length of a list that comes in. -/
def BIG : Nat := 140737488355328
theorem big_eq : BIG = 140737488355328 := rfl
/-- The eight cells at place a. -/
def At8 (w : World) (a : Addr) (cs : List Value) : Prop := cs.length = 8 ∧ ∀ (j : Nat) (u : Value), cs[j]? = some u → w.cell? (a.add j) = some u
mutual
/-- The value v reads as the tree; all its lists lie below block m and in no variable. -/
def RdV (m : Nat) (w : World) (B : Bx) : VT → Value → Prop
  | .node d l, v => ∃ (ad : Option Addr) (n c : Nat) (ka : Option Addr) (kc : Nat),
      v = .agg #[.int .i8 d.k, .int .u64 d.n, .bool d.ng, .slice ad n c, .int .u64 d.b, .int .i8 d.x, .string d.t, .slice ka l.length kc] ∧
      Arg w ad n c d.xs ∧ (0 < n → ∀ b, blkOf ad = some b → b < m) ∧ n ≤ BIG ∧ l.length ≤ BIG ∧ d.t.size ≤ BIG ∧ RdL m w B ka 0 l
def RdL (m : Nat) (w : World) (B : Bx) : Option Addr → Nat → List VT → Prop
  | _, _, [] => True
  | none, _, _ :: _ => False
  | some a, i, t :: ts => (a.block < m ∧ ¬ B a.block ∧ ∃ cs, At8 w (a.add (8 * i)) cs ∧ RdV m w B t (.agg cs.toArray)) ∧ RdL m w B (some a) (i + 1) ts
end
theorem RdL.get {m : Nat} {w : World} {B : Bx} {a : Addr} : ∀ {l : List VT} {i : Nat}, RdL m w B (some a) i l → ∀ (j : Nat) (t : VT), l[j]? = some t → a.block < m ∧ ¬ B a.block ∧ ∃ cs, At8 w (a.add (8 * (i + j))) cs ∧ RdV m w B t (.agg cs.toArray)
  | [], i, _, j, t, hj => by simp at hj
  | u :: us, i, h, j, t, hj => by
    unfold RdL at h
    cases j with
    | zero => simp at hj; subst hj; exact h.1
    | succ j =>
      have := RdL.get h.2 j t (by simpa using hj)
      rwa [show i + 1 + j = i + (j + 1) by omega] at this
theorem RdL.mk {m : Nat} {w : World} {B : Bx} {a : Addr} : ∀ {l : List VT} {i : Nat}, (∀ (j : Nat) (t : VT), l[j]? = some t → a.block < m ∧ ¬ B a.block ∧ ∃ cs, At8 w (a.add (8 * (i + j))) cs ∧ RdV m w B t (.agg cs.toArray)) → RdL m w B (some a) i l
  | [], i, _ => by unfold RdL; trivial
  | u :: us, i, h => by
    unfold RdL
    refine ⟨h 0 u rfl, RdL.mk fun j t hj => ?_⟩
    have := h (j + 1) t (by simpa using hj)
    rwa [show i + (j + 1) = i + 1 + j by omega] at this
/-- What has turned lies not below m, or holds no limbs and is a variable. -/
structure Tn (m : Nat) (w : World) (B : Bx) (w' : World) (B' : Bx) : Prop where
  same : ∀ k, k < m → k < w.heap.size → w'.heap[k]? = w.heap[k]? ∨ (B k ∧ Plain w k)
  box : ∀ k, k < m → k < w.heap.size → B' k → B k
theorem Mv.tn {w w' : World} {B B' : Bx} (h : Mv w B w' B') (m : Nat) : Tn m w B w' B' := ⟨fun k _ hk => h.same k hk, fun k _ hk => h.box k hk⟩
theorem addr_add (a : Addr) (i j : Nat) : (a.add i).add j = a.add (i + j) := by
  unfold Addr.add
  by_cases hi : i = 0
  · subst hi; simp
  · by_cases hj : j = 0
    · subst hj; simp
    · rw [if_neg hj, if_neg hi, if_neg (by omega)]
      simp; omega
theorem blk_add (a : Addr) (j : Nat) : (a.add j).block = a.block := by unfold Addr.add; split <;> rfl
theorem At8.tn {m : Nat} {w w' : World} {B B' : Bx} (h : Tn m w B w' B') {a : Addr} {cs : List Value} (hm : a.block < m) (hb : ¬ B a.block) (k : At8 w a cs) : At8 w' a cs ∧ ¬ B' a.block := by
  have hl : a.block < w.heap.size := by
    have h0 := k.2 0 _ (List.getElem?_eq_getElem (by rw [k.1]; omega))
    have := World.block_lt_of_cell? w _ h0
    rwa [blk_add] at this
  refine ⟨⟨k.1, fun j u hj => ?_⟩, fun h2 => hb (h.box _ hm hl h2)⟩
  have hc := k.2 j u hj
  rw [← hc]
  refine World.cell?_of_block ?_
  rw [blk_add]
  exact (h.same _ hm hl).resolve_right fun h2 => hb h2.1
theorem Arg.tn {m : Nat} {w w' : World} {B B' : Bx} (h : Tn m w B w' B') {ad : Option Addr} {n c : Nat} {xs : List Int} (hm : 0 < n → ∀ b, blkOf ad = some b → b < m) (k : Arg w ad n c xs) : Arg w' ad n c xs := by
  refine ⟨k.le, ⟨k.rds.len, fun j hj => ?_⟩, k.dig⟩
  obtain ⟨a, e, hc⟩ := k.rds.cell j hj
  refine ⟨a, e, ?_⟩
  have hl := World.block_lt_of_cell? w _ hc
  have hlm : (a.add j).block < m := by rw [blk_add]; exact hm (by omega) _ (by rw [e]; rfl)
  rcases h.same _ hlm hl with h1 | ⟨_, h2⟩
  · rw [← hc]; exact World.cell?_of_block h1
  · exact absurd hc (h2 _ .u32 _ rfl (.inl rfl))
mutual
theorem RdV.tn {m : Nat} {w w' : World} {B B' : Bx} (h : Tn m w B w' B') : ∀ (t : VT) (v : Value), RdV m w B t v → RdV m w' B' t v
  | .node d l, v, hp => by
    unfold RdV at *
    obtain ⟨ad, n, c, ka, kc, e, h1, h2, h3, h4, h5, h6⟩ := hp
    exact ⟨ad, n, c, ka, kc, e, h1.tn h h2, h2, h3, h4, h5, RdL.tn h ka 0 l h6⟩
theorem RdL.tn {m : Nat} {w w' : World} {B B' : Bx} (h : Tn m w B w' B') : ∀ (ka : Option Addr) (i : Nat) (l : List VT), RdL m w B ka i l → RdL m w' B' ka i l
  | ka, i, [], hp => by unfold RdL; trivial
  | none, i, t :: ts, hp => by unfold RdL at hp; exact hp.elim
  | some a, i, t :: ts, hp => by
    unfold RdL at *
    obtain ⟨⟨h1, h2, cs, h3, h4⟩, h5⟩ := hp
    have hb8 : (a.add (8 * i)).block = a.block := blk_add a _
    have := h3.tn h (by rw [hb8]; exact h1) (by rw [hb8]; exact h2)
    rw [hb8] at this
    exact ⟨⟨h1, this.2, cs, this.1, RdV.tn h t _ h4⟩, RdL.tn h (some a) (i + 1) ts h5⟩
end
mutual
theorem RdV.mono {m m2 : Nat} {w : World} {B : Bx} (h : m ≤ m2) : ∀ (t : VT) (v : Value), RdV m w B t v → RdV m2 w B t v
  | .node d l, v, hp => by
    unfold RdV at *
    obtain ⟨ad, n, c, ka, kc, e, h1, h2, h3, h4, h5, h6⟩ := hp
    exact ⟨ad, n, c, ka, kc, e, h1, fun hn b hb => Nat.lt_of_lt_of_le (h2 hn b hb) h, h3, h4, h5, RdL.mono h ka 0 l h6⟩
theorem RdL.mono {m m2 : Nat} {w : World} {B : Bx} (h : m ≤ m2) : ∀ (ka : Option Addr) (i : Nat) (l : List VT), RdL m w B ka i l → RdL m2 w B ka i l
  | ka, i, [], hp => by unfold RdL; trivial
  | none, i, t :: ts, hp => by unfold RdL at hp; exact hp.elim
  | some a, i, t :: ts, hp => by
    unfold RdL at *
    obtain ⟨⟨h1, h2, cs, h3, h4⟩, h5⟩ := hp
    exact ⟨⟨Nat.lt_of_lt_of_le h1 h, h2, cs, h3, RdV.mono h t _ h4⟩, RdL.mono h (some a) (i + 1) ts h5⟩
end
/-- A value that reads as t; its lists lie below m. -/
def IsV (m : Nat) (t : VT) : VP := ⟨fun v w B => RdV m w B t v, fun v w B w' B' h hp => RdV.tn (h.tn m) t v hp⟩
/-- A list of values that reads as l; its row lies below q, what is within below m. -/
def PVs (q m : Nat) (l : List VT) (v : Value) (w : World) (B : Bx) : Prop := ∃ ad c, v = .slice ad l.length c ∧ l.length ≤ BIG ∧ (0 < l.length → ∃ a, ad = some a ∧ a.block < q ∧ ¬ B a.block ∧ ∀ (j : Nat) (t : VT), l[j]? = some t → ∃ cs, At8 w (a.add (8 * j)) cs ∧ RdV m w B t (.agg cs.toArray))
theorem PVs.tn {q m : Nat} {w w' : World} {B B' : Bx} (hq : Tn q w B w' B') (hm : Tn m w B w' B') {l : List VT} {v : Value} (hp : PVs q m l v w B) : PVs q m l v w' B' := by
  obtain ⟨ad, c, e, hl, h⟩ := hp
  refine ⟨ad, c, e, hl, fun h0 => ?_⟩
  obtain ⟨a, e1, h1, h2, h3⟩ := h h0
  have key : ∀ (j : Nat) (t : VT), l[j]? = some t → ∃ cs, At8 w' (a.add (8 * j)) cs ∧ ¬ B' a.block ∧ RdV m w' B' t (.agg cs.toArray) := fun j t hj => by
    obtain ⟨cs, h4, h5⟩ := h3 j t hj
    have hb8 : (a.add (8 * j)).block = a.block := blk_add a _
    have := h4.tn hq (by rw [hb8]; exact h1) (by rw [hb8]; exact h2)
    rw [hb8] at this
    exact ⟨cs, this.1, this.2, RdV.tn hm t _ h5⟩
  refine ⟨a, e1, h1, ?_, fun j t hj => ?_⟩
  · obtain ⟨cs, _, h4, _⟩ := key 0 _ (List.getElem?_eq_getElem h0)
    exact h4
  · obtain ⟨cs, h4, _, h5⟩ := key j t hj
    exact ⟨cs, h4, h5⟩
def IsVs (q m : Nat) (l : List VT) : VP := ⟨PVs q m l, fun v w B w' B' h hp => hp.tn (h.tn q) (h.tn m)⟩
theorem PVs.mono {q q2 m m2 : Nat} {l : List VT} {v : Value} {w : World} {B : Bx} (hq : q ≤ q2) (hm : m ≤ m2) (hp : PVs q m l v w B) : PVs q2 m2 l v w B := by
  obtain ⟨ad, c, e, hl, h⟩ := hp
  refine ⟨ad, c, e, hl, fun h0 => ?_⟩
  obtain ⟨a, e1, h1, h2, h3⟩ := h h0
  refine ⟨a, e1, Nat.lt_of_lt_of_le h1 hq, h2, fun j t hj => ?_⟩
  obtain ⟨cs, h4, h5⟩ := h3 j t hj
  exact ⟨cs, h4, RdV.mono hm t _ h5⟩
/-- Its row lies anywhere. -/
def IsVl (m : Nat) (l : List VT) : VP := ⟨fun v w B => PVs w.heap.size m l v w B, fun v w B w' B' h hp => (hp.tn (h.tn _) (h.tn m)).mono h.size (Nat.le_refl _)⟩
/-- All lies anywhere. -/
def IsVq (l : List VT) : VP := ⟨fun v w B => PVs w.heap.size w.heap.size l v w B, fun v w B w' B' h hp => (hp.tn (h.tn _) (h.tn _)).mono h.size h.size⟩
def IsVv (t : VT) : VP := ⟨fun v w B => RdV w.heap.size w B t v, fun v w B w' B' h hp => RdV.mono h.size t v (RdV.tn (h.tn _) t v hp)⟩
theorem At8.lt {w : World} {a : Addr} {cs : List Value} (h : At8 w a cs) : a.block < w.heap.size := by
  have h0 := h.2 0 _ (List.getElem?_eq_getElem (by rw [h.1]; omega))
  have := World.block_lt_of_cell? w _ h0
  rwa [blk_add] at this
/-- The address of a value (off cells within it) that reads as t; its row lies below q. -/
def PPv (q m : Nat) (t : VT) (off : Nat) (v : Value) (w : World) (B : Bx) : Prop := ∃ a cs, v = .pointer (some (a.add off)) ∧ a.block < q ∧ ¬ B a.block ∧ At8 w a cs ∧ RdV m w B t (.agg cs.toArray)
def IsPv (q m : Nat) (t : VT) (off : Nat) : VP := ⟨PPv q m t off, fun v w B w' B' h ⟨a, cs, e, h1, h2, h3, h4⟩ => by
  have := h3.tn (h.tn q) h1 h2
  exact ⟨a, cs, e, h1, this.2, this.1, RdV.tn (h.tn m) t _ h4⟩⟩
/-- A row of values of one's own (block g, at least q) that reads as l; what is within lies below m. -/
def PNv (g : Option Nat) (q m : Nat) (l : List VT) (v : Value) (w : World) (B : Bx) : Prop := (∀ b, g = some b → ¬ B b) ∧ v.ownBlock = g ∧ ∃ css : List (List Value), css.length = l.length ∧ (∀ (j : Nat) (cs : List Value), css[j]? = some cs → cs.length = 8 ∧ ∃ t, l[j]? = some t ∧ RdV m w B t (.agg cs.toArray)) ∧ w.ownsRow q 37 8 v l.length css.flatten
theorem ownsRow_lt {w : World} {q e s n : Nat} {v : Value} {xs : List Value} (h : w.ownsRow q e s v n xs) {b : Nat} (hb : v.ownBlock = some b) : q ≤ b ∧ b < w.heap.size := by
  rcases h.2 with ⟨rfl, _⟩ | ⟨g, cap, cur, rfl, h1, h2, _⟩
  · cases hb
  · injection hb with hb
    subst hb
    exact ⟨h1, (Array.getElem?_eq_some_iff.1 h2).1⟩
theorem ownsRow_same {w w' : World} {q e s n : Nat} {v : Value} {xs : List Value} (h : w.ownsRow q e s v n xs) (hs : ∀ b, v.ownBlock = some b → w'.heap[b]? = w.heap[b]?) : w'.ownsRow q e s v n xs := by
  refine ⟨h.1, ?_⟩
  rcases h.2 with h2 | ⟨g, cap, cur, rfl, h1, h2, h3⟩
  · exact .inl h2
  · exact .inr ⟨g, cap, cur, rfl, h1, (hs g rfl).trans h2, h3⟩
theorem PNv.st {g : Option Nat} {q m : Nat} {l : List VT} (v : Value) (w : World) (B : Bx) (w' : World) (B' : Bx) (h : Mv w B w' B') (hp : PNv g q m l v w B) : PNv g q m l v w' B' := by
  obtain ⟨hb, hg, css, h1, h2, h3⟩ := hp
  refine ⟨fun b hb2 h4 => hb b hb2 (h.box b (ownsRow_lt h3 (hg.trans hb2)).2 h4), hg, css, h1, fun j cs hj => ?_, ownsRow_same h3 fun b hb2 => ?_⟩
  · obtain ⟨h4, t, h5, h6⟩ := h2 j cs hj
    exact ⟨h4, t, h5, RdV.tn (h.tn m) t _ h6⟩
  · exact (h.same b (ownsRow_lt h3 hb2).2).resolve_right fun h4 => hb b (hg.symm.trans hb2) h4.1
def IsNv (g : Option Nat) (q m : Nat) (l : List VT) : VP := ⟨PNv g q m l, PNv.st⟩
theorem kept_tn {g : Option Nat} {m q : Nat} (hq : q ≤ m) {w w' : World} {B : Bx} (hb : ∀ i, i < w.heap.size → g ≠ some i → w'.heap[i]? = w.heap[i]?) (hg : ∀ b, g = some b → m ≤ b ∧ ¬ B b) : Tn q w B w' B :=
  ⟨fun k hk hs => .inl (hb k hs fun e => by have := (hg k e).1; omega), fun _ _ _ h => h⟩
theorem kept_vs {g : Option Nat} {q q2 m : Nat} {l : List VT} (hq : q2 ≤ q) (hm : m ≤ q) : Kept g q (.val (IsVs q2 m l)) := fun v w w' B hs hb hg h => PVs.tn (kept_tn hq hb hg) (kept_tn hm hb hg) h
/-- A row of one's own as a list. -/
theorem PNv.list {g : Option Nat} {q m : Nat} {l : List VT} {v : Value} {w : World} {B : Bx} (h : PNv g q m l v w B) (hl : l.length ≤ BIG) : PVs w.heap.size m l v w B := by
  obtain ⟨hb, hg, css, h1, h2, h3⟩ := h
  have h30 := h3
  rcases h3.2 with ⟨rfl, h4⟩ | ⟨b, cap, cur, rfl, h4, h5, h6, h7, h8, h9⟩
  · refine ⟨none, 0, by rw [h4], hl, fun h0 => by omega⟩
  · refine ⟨_, cap, rfl, hl, fun h0 => ⟨⟨b, 0, none⟩, rfl, (ownsRow_lt h30 rfl).2, hb b (hg.symm.trans rfl), fun j t hj => ?_⟩⟩
    have hjl : j < css.length := by rw [h1]; exact (List.getElem?_eq_some_iff.1 hj).1
    obtain ⟨h10, t2, h11, h12⟩ := h2 j css[j] (List.getElem?_eq_getElem hjl)
    obtain rfl : t = t2 := by rw [hj] at h11; injection h11
    refine ⟨css[j], ⟨h10, fun i u hi => ?_⟩, h12⟩
    have hi8 : i < 8 := by rw [← h10]; exact (List.getElem?_eq_some_iff.1 hi).1
    have hfl : ∀ (L : List (List Value)), (∀ c ∈ L, c.length = 8) → ∀ (j i : Nat) (c : List Value) (u : Value), L[j]? = some c → c[i]? = some u → L.flatten[8 * j + i]? = some u := by
      intro L
      induction L with
      | nil => intro _ j i c u hj _; simp at hj
      | cons c0 L ih =>
        intro hL j i c u hj hi
        have hc0 := hL c0 (List.mem_cons_self ..)
        cases j with
        | zero =>
          simp at hj
          subst hj
          rw [List.flatten_cons, Nat.mul_zero, Nat.zero_add, List.getElem?_append_left (by exact (List.getElem?_eq_some_iff.1 hi).1)]
          exact hi
        | succ j =>
          rw [List.flatten_cons, List.getElem?_append_right (by omega), hc0, show 8 * (j + 1) + i - 8 = 8 * j + i by omega]
          exact ih (fun c hc => hL c (List.mem_cons_of_mem _ hc)) j i c u (by simpa using hj) hi
    have hu := hfl css (fun c hc => by
      obtain ⟨j2, hj2⟩ := List.getElem?_of_mem hc
      exact (h2 j2 c hj2).1) j i css[j] u (List.getElem?_eq_getElem hjl) hi
    have hc := World.ownsRow.cells h30 (g := b) rfl (8 * j + i) u hu
    rwa [addr_add]
theorem nil_Nv {q m : Nat} (w : World) (B : Bx) : (IsNv none q m []).p (.slice none 0 0) w B := ⟨fun b hb => (by cases hb), rfl, [], rfl, fun j cs hj => (by simp at hj), rfl, .inl ⟨rfl, rfl⟩⟩
end Go.Proofs.YtoimhjcpeifegaaGreatDoor


/- VOf. (Printed by flow15.py.) -/
namespace Go.Proofs.YtoimhjcpeifegaaGreatDoor
open Go Go.RowKit

/-- What the pattern x of W bits is as a value. -/
noncomputable def ofV (W : Nat) (x : Int) : NV := if intOk W x = true then .int (intN W x) else .flt (toW 64 W x).1
theorem of_yes {W : Nat} {x : Int} (h : intOk W x = true) : ofV W x = .int (intN W x) := if_pos h
theorem of_no {W : Nat} {x : Int} (h : intOk W x = false) : ofV W x = .flt (toW 64 W x).1 := if_neg (by rw [h]; exact Bool.false_ne_true)
theorem num_eq {z z' : NV} (e : z = z') {v : Value} {w : World} {B : Bx} (h : (IsNum z).p v w B) : (IsNum z').p v w B := e ▸ h

set_option maxRecDepth 20000 in
set_option maxHeartbeats 2000000 in
theorem con_of64 (x : Int) (hx : 0 ≤ x ∧ x < 18446744073709551616) : ConE Tryz.prog 15 [Lit (.int .u64 x)] (IsNum (ofV 64 x)) := by
  refine f_enterE (N := 22) Tryz.ntmps15 (fun _ _ => by go_simp) Tryz.func15 rfl (by simp) ?_
  intro a0 w0 B0 H0
  replace H0 : St 22 w0 B0 a0 w0 B0 [(0, .val (Lit (.int .u64 x))), (22, .val (EnvV))] [] := H0
  refine wp_seq ?_
  refine flow_region (dsts := [some 2]) (refs := [[]]) (outs := [.res 0, .pre 0, .pre 1]) (als := [true]) (posts := [.box 37 8 (IsVal 0 0 (IsI 0) 0 0 (⟨#[]⟩) (K0))])
    (out := [(2, .box 37 8 (IsVal 0 0 (IsI 0) 0 0 (⟨#[]⟩) (K0))), (0, .val (Lit (.int .u64 x))), (22, .val (EnvV))]) (nb := [2]) H0 1 [] rfl (by kernel_rfl) rfl rfl ?_ ?_
  · refine .cons (.plain rfl (ok_allocV)) ?_
    exact .nil
  clear H0
  intro a1 w1 B1 H1
  simp only [List.cons_append, List.nil_append] at H1
  refine ops_done ?_
  refine then_normal ?_
  refine wp_seq ?_
  refine wp_seq ?_
  refine flow_region (dsts := [some 8, some 9, some 7, some 10, some 11, some 3]) (refs := [[.pre 1], [.res 0, .pre 2], [.res 1], [.res 2], [.res 2], []]) (outs := [.res 3, .res 4, .res 5, .pre 0, .pre 1, .pre 2]) (als := [false, false, false, false, false, true]) (posts := [.val (Lit (.int .u64 x)), .val (Tup [IsI (intN 64 x), IsB (intOk 64 x)]), .val (Tup [IsI (intN 64 x), IsB (intOk 64 x)]), .val (IsI (intN 64 x)), .val (IsB (intOk 64 x)), .box 34 2 (Zero2)])
    (out := [(10, .val (IsI (intN 64 x))), (11, .val (IsB (intOk 64 x))), (3, .box 34 2 (Zero2)), (2, .box 37 8 (IsVal 0 0 (IsI 0) 0 0 (⟨#[]⟩) (K0))), (0, .val (Lit (.int .u64 x))), (22, .val (EnvV))]) (nb := [3]) H1 6 [6, 7] rfl (by kernel_rfl) rfl rfl ?_ ?_
  · refine .cons (.plain rfl (ok_move (.tmp 0 rfl))) ?_
    refine .cons (.plain rfl (ok_callE (con_iint64 x hx) 1 rfl (.cons (.tmp 0 rfl) (.nil)))) ?_
    refine .cons (.plain rfl (ok_move (.tmp 0 rfl))) ?_
    refine .cons (.plain rfl (ok_extract 0 (.tmp 0 rfl) rfl)) ?_
    refine .cons (.plain rfl (ok_extract 1 (.tmp 0 rfl) rfl)) ?_
    refine .cons (.plain rfl (ok_alloc (D := Zero2) zeroI rfl (fun _ _ => rfl))) ?_
    exact .nil
  clear H1 a1 w1 B1
  intro a2 w2 B2 H2
  simp only [List.cons_append, List.nil_append] at H2
  refine ops_one ?_
  refine store_op (l' := [(10, .val (IsI (intN 64 x))), (11, .val (IsB (intOk 64 x))), (3, .box 34 2 (IsI (intN 64 x))), (2, .box 37 8 (IsVal 0 0 (IsI 0) 0 0 (⟨#[]⟩) (K0))), (0, .val (Lit (.int .u64 x))), (22, .val (EnvV))]) 2 H2 rfl tyI rfl (.tmp 0 rfl) shape_Z shape_I rfl rfl ?_
  clear H2 w2
  intro w3 H3
  refine ops_one ?_
  refine tail_op (D := .val (IsB (intOk 64 x))) (l' := [(4, .val (IsB (intOk 64 x))), (10, .val (IsI (intN 64 x))), (11, .val (IsB (intOk 64 x))), (3, .box 34 2 (IsI (intN 64 x))), (2, .box 37 8 (IsVal 0 0 (IsI 0) 0 0 (⟨#[]⟩) (K0))), (0, .val (Lit (.int .u64 x))), (22, .val (EnvV))]) H3 rfl rfl rfl (.plain rfl (ok_assign (.tmp 1 rfl))) rfl rfl ?_
  clear H3 a2 w3 B2
  intro a4 w4 B4 H4
  refine ops_done ?_
  refine then_normal ?_
  refine wp_seq ?_
  refine flow_region (dsts := [some 12]) (refs := [[.pre 0]]) (outs := [.res 0, .pre 3, .pre 4, .pre 5, .pre 6]) (als := [false]) (posts := [.val (IsB (intOk 64 x))])
    (out := [(12, .val (IsB (intOk 64 x))), (3, .box 34 2 (IsI (intN 64 x))), (2, .box 37 8 (IsVal 0 0 (IsI 0) 0 0 (⟨#[]⟩) (K0))), (0, .val (Lit (.int .u64 x))), (22, .val (EnvV))]) (nb := []) H4 1 [] rfl (by kernel_rfl) rfl rfl ?_ ?_
  · refine .cons (.plain rfl (ok_move (.tmp 0 rfl))) ?_
    exact .nil
  clear H4 a4 w4 B4
  intro a5 w5 B5 H5
  refine ops_done ?_
  refine then_normal ?_
  refine f_cond H5 (.tmp 0 rfl) ?_ ?_
  · intro hc6
    refine wp_seq ?_
    refine flow_region (dsts := [some 13, some 14]) (refs := [[.pre 1], [.res 0]]) (outs := [.res 1, .pre 2, .pre 3, .pre 4]) (als := [false, false]) (posts := [.val (IsI (intN 64 x)), .val (IsNum (.int (intN 64 x)))])
      (out := [(14, .val (IsNum (.int (intN 64 x)))), (2, .box 37 8 (IsVal 0 0 (IsI 0) 0 0 (⟨#[]⟩) (K0))), (0, .val (Lit (.int .u64 x))), (22, .val (EnvV))]) (nb := []) H5 2 [2] rfl (by kernel_rfl) rfl rfl ?_ ?_
    · refine .cons (.plain rfl (ok_load tyI (.tmp 0 rfl))) ?_
      refine .cons (.plain rfl (ok_buildVI (k := 3) (.lit) (.tmp 0 rfl) shape_I)) ?_
      exact .nil
    clear H5 a5 w5 B5
    intro a7 w7 B7 H7
    refine ops_one ?_
    refine store_op (l' := [(14, .val (IsNum (.int (intN 64 x)))), (2, .box 37 8 (IsNum (.int (intN 64 x)))), (0, .val (Lit (.int .u64 x))), (22, .val (EnvV))]) 1 H7 rfl tyV rfl (.tmp 0 rfl) (shape_Val shape_I oneK0) shape_Num rfl rfl ?_
    clear H7 w7
    intro w8 H8
    refine ops_done ?_
    refine then_normal ?_
    refine wp_ret ?_
    refine then_ret ?_
    exact f_retC H8 tyV rfl 1 rfl (fun v w B h => by exact num_eq (of_yes hc6).symm h)
  · intro hc6
    refine wp_skip ?_
    refine then_normal ?_
    refine wp_seq ?_
    refine flow_region (dsts := [some 16, some 17, some 15, some 18, some 19, some 5, some 6]) (refs := [[.pre 3], [.res 0, .pre 4], [.res 1], [.res 2], [.res 2], [.res 3], [.res 4]]) (outs := [.res 5, .pre 2, .pre 4]) (als := [false, false, false, false, false, false, false]) (posts := [.val (Lit (.int .u64 x)), .val (Tup [Lit (.int .u64 ((toW 64 64 x).1)), IsB ((toW 64 64 x).2)]), .val (Tup [Lit (.int .u64 ((toW 64 64 x).1)), IsB ((toW 64 64 x).2)]), .val (Lit (.int .u64 ((toW 64 64 x).1))), .val (IsB ((toW 64 64 x).2)), .val (Lit (.int .u64 ((toW 64 64 x).1))), .val (IsB ((toW 64 64 x).2))])
      (out := [(5, .val (Lit (.int .u64 ((toW 64 64 x).1)))), (2, .box 37 8 (IsVal 0 0 (IsI 0) 0 0 (⟨#[]⟩) (K0))), (22, .val (EnvV))]) (nb := []) H5 7 [] rfl (by kernel_rfl) rfl rfl ?_ ?_
    · refine .cons (.plain rfl (ok_move (.tmp 0 rfl))) ?_
      refine .cons (.plain rfl (ok_callE (con_to6464 x hx) 1 rfl (.cons (.tmp 0 rfl) (.nil)))) ?_
      refine .cons (.plain rfl (ok_move (.tmp 0 rfl))) ?_
      refine .cons (.plain rfl (ok_extract 0 (.tmp 0 rfl) rfl)) ?_
      refine .cons (.plain rfl (ok_extract 1 (.tmp 0 rfl) rfl)) ?_
      refine .cons (.plain rfl (ok_assign (.tmp 0 rfl))) ?_
      refine .cons (.plain rfl (ok_assign (.tmp 0 rfl))) ?_
      exact .nil
    clear H5 a5 w5 B5
    intro a9 w9 B9 H9
    refine ops_done ?_
    refine then_normal ?_
    refine wp_seq ?_
    refine flow_region (dsts := [some 20, some 21]) (refs := [[.pre 0], [.res 0]]) (outs := [.res 1, .pre 1, .pre 2]) (als := [false, false]) (posts := [.val (Lit (.int .u64 ((toW 64 64 x).1))), .val (IsNum (.flt ((toW 64 64 x).1)))])
      (out := [(21, .val (IsNum (.flt ((toW 64 64 x).1)))), (2, .box 37 8 (IsVal 0 0 (IsI 0) 0 0 (⟨#[]⟩) (K0))), (22, .val (EnvV))]) (nb := []) H9 2 [2] rfl (by kernel_rfl) rfl rfl ?_ ?_
    · refine .cons (.plain rfl (ok_move (.tmp 0 rfl))) ?_
      refine .cons (.plain rfl (ok_buildVF (k := 4) (.lit) (.tmp 0 rfl))) ?_
      exact .nil
    clear H9 a9 w9 B9
    intro a10 w10 B10 H10
    refine ops_one ?_
    refine store_op (l' := [(21, .val (IsNum (.flt ((toW 64 64 x).1)))), (2, .box 37 8 (IsNum (.flt ((toW 64 64 x).1)))), (22, .val (EnvV))]) 1 H10 rfl tyV rfl (.tmp 0 rfl) (shape_Val shape_I oneK0) shape_Num rfl rfl ?_
    clear H10 w10
    intro w11 H11
    refine ops_done ?_
    refine then_normal ?_
    refine wp_ret ?_
    exact f_retC H11 tyV rfl 1 rfl (fun v w B h => by exact num_eq (of_no hc6).symm h)

set_option maxRecDepth 20000 in
set_option maxHeartbeats 2000000 in
theorem con_of32 (x : Int) (hx : 0 ≤ x ∧ x < 4294967296) : ConE Tryz.prog 18 [Lit (.int .u32 x)] (IsNum (ofV 32 x)) := by
  refine f_enterE (N := 22) Tryz.ntmps18 (fun _ _ => by go_simp) Tryz.func18 rfl (by simp) ?_
  intro a0 w0 B0 H0
  replace H0 : St 22 w0 B0 a0 w0 B0 [(0, .val (Lit (.int .u32 x))), (22, .val (EnvV))] [] := H0
  refine wp_seq ?_
  refine flow_region (dsts := [some 2]) (refs := [[]]) (outs := [.res 0, .pre 0, .pre 1]) (als := [true]) (posts := [.box 37 8 (IsVal 0 0 (IsI 0) 0 0 (⟨#[]⟩) (K0))])
    (out := [(2, .box 37 8 (IsVal 0 0 (IsI 0) 0 0 (⟨#[]⟩) (K0))), (0, .val (Lit (.int .u32 x))), (22, .val (EnvV))]) (nb := [2]) H0 1 [] rfl (by kernel_rfl) rfl rfl ?_ ?_
  · refine .cons (.plain rfl (ok_allocV)) ?_
    exact .nil
  clear H0
  intro a1 w1 B1 H1
  simp only [List.cons_append, List.nil_append] at H1
  refine ops_done ?_
  refine then_normal ?_
  refine wp_seq ?_
  refine wp_seq ?_
  refine flow_region (dsts := [some 8, some 9, some 7, some 10, some 11, some 3]) (refs := [[.pre 1], [.res 0, .pre 2], [.res 1], [.res 2], [.res 2], []]) (outs := [.res 3, .res 4, .res 5, .pre 0, .pre 1, .pre 2]) (als := [false, false, false, false, false, true]) (posts := [.val (Lit (.int .u32 x)), .val (Tup [IsI (intN 32 x), IsB (intOk 32 x)]), .val (Tup [IsI (intN 32 x), IsB (intOk 32 x)]), .val (IsI (intN 32 x)), .val (IsB (intOk 32 x)), .box 34 2 (Zero2)])
    (out := [(10, .val (IsI (intN 32 x))), (11, .val (IsB (intOk 32 x))), (3, .box 34 2 (Zero2)), (2, .box 37 8 (IsVal 0 0 (IsI 0) 0 0 (⟨#[]⟩) (K0))), (0, .val (Lit (.int .u32 x))), (22, .val (EnvV))]) (nb := [3]) H1 6 [6, 7] rfl (by kernel_rfl) rfl rfl ?_ ?_
  · refine .cons (.plain rfl (ok_move (.tmp 0 rfl))) ?_
    refine .cons (.plain rfl (ok_callE (con_iint32 x hx) 1 rfl (.cons (.tmp 0 rfl) (.nil)))) ?_
    refine .cons (.plain rfl (ok_move (.tmp 0 rfl))) ?_
    refine .cons (.plain rfl (ok_extract 0 (.tmp 0 rfl) rfl)) ?_
    refine .cons (.plain rfl (ok_extract 1 (.tmp 0 rfl) rfl)) ?_
    refine .cons (.plain rfl (ok_alloc (D := Zero2) zeroI rfl (fun _ _ => rfl))) ?_
    exact .nil
  clear H1 a1 w1 B1
  intro a2 w2 B2 H2
  simp only [List.cons_append, List.nil_append] at H2
  refine ops_one ?_
  refine store_op (l' := [(10, .val (IsI (intN 32 x))), (11, .val (IsB (intOk 32 x))), (3, .box 34 2 (IsI (intN 32 x))), (2, .box 37 8 (IsVal 0 0 (IsI 0) 0 0 (⟨#[]⟩) (K0))), (0, .val (Lit (.int .u32 x))), (22, .val (EnvV))]) 2 H2 rfl tyI rfl (.tmp 0 rfl) shape_Z shape_I rfl rfl ?_
  clear H2 w2
  intro w3 H3
  refine ops_one ?_
  refine tail_op (D := .val (IsB (intOk 32 x))) (l' := [(4, .val (IsB (intOk 32 x))), (10, .val (IsI (intN 32 x))), (11, .val (IsB (intOk 32 x))), (3, .box 34 2 (IsI (intN 32 x))), (2, .box 37 8 (IsVal 0 0 (IsI 0) 0 0 (⟨#[]⟩) (K0))), (0, .val (Lit (.int .u32 x))), (22, .val (EnvV))]) H3 rfl rfl rfl (.plain rfl (ok_assign (.tmp 1 rfl))) rfl rfl ?_
  clear H3 a2 w3 B2
  intro a4 w4 B4 H4
  refine ops_done ?_
  refine then_normal ?_
  refine wp_seq ?_
  refine flow_region (dsts := [some 12]) (refs := [[.pre 0]]) (outs := [.res 0, .pre 3, .pre 4, .pre 5, .pre 6]) (als := [false]) (posts := [.val (IsB (intOk 32 x))])
    (out := [(12, .val (IsB (intOk 32 x))), (3, .box 34 2 (IsI (intN 32 x))), (2, .box 37 8 (IsVal 0 0 (IsI 0) 0 0 (⟨#[]⟩) (K0))), (0, .val (Lit (.int .u32 x))), (22, .val (EnvV))]) (nb := []) H4 1 [] rfl (by kernel_rfl) rfl rfl ?_ ?_
  · refine .cons (.plain rfl (ok_move (.tmp 0 rfl))) ?_
    exact .nil
  clear H4 a4 w4 B4
  intro a5 w5 B5 H5
  refine ops_done ?_
  refine then_normal ?_
  refine f_cond H5 (.tmp 0 rfl) ?_ ?_
  · intro hc6
    refine wp_seq ?_
    refine flow_region (dsts := [some 13, some 14]) (refs := [[.pre 1], [.res 0]]) (outs := [.res 1, .pre 2, .pre 3, .pre 4]) (als := [false, false]) (posts := [.val (IsI (intN 32 x)), .val (IsNum (.int (intN 32 x)))])
      (out := [(14, .val (IsNum (.int (intN 32 x)))), (2, .box 37 8 (IsVal 0 0 (IsI 0) 0 0 (⟨#[]⟩) (K0))), (0, .val (Lit (.int .u32 x))), (22, .val (EnvV))]) (nb := []) H5 2 [2] rfl (by kernel_rfl) rfl rfl ?_ ?_
    · refine .cons (.plain rfl (ok_load tyI (.tmp 0 rfl))) ?_
      refine .cons (.plain rfl (ok_buildVI (k := 3) (.lit) (.tmp 0 rfl) shape_I)) ?_
      exact .nil
    clear H5 a5 w5 B5
    intro a7 w7 B7 H7
    refine ops_one ?_
    refine store_op (l' := [(14, .val (IsNum (.int (intN 32 x)))), (2, .box 37 8 (IsNum (.int (intN 32 x)))), (0, .val (Lit (.int .u32 x))), (22, .val (EnvV))]) 1 H7 rfl tyV rfl (.tmp 0 rfl) (shape_Val shape_I oneK0) shape_Num rfl rfl ?_
    clear H7 w7
    intro w8 H8
    refine ops_done ?_
    refine then_normal ?_
    refine wp_ret ?_
    refine then_ret ?_
    exact f_retC H8 tyV rfl 1 rfl (fun v w B h => by exact num_eq (of_yes hc6).symm h)
  · intro hc6
    refine wp_skip ?_
    refine then_normal ?_
    refine wp_seq ?_
    refine flow_region (dsts := [some 16, some 17, some 15, some 18, some 19, some 5, some 6]) (refs := [[.pre 3], [.res 0, .pre 4], [.res 1], [.res 2], [.res 2], [.res 3], [.res 4]]) (outs := [.res 5, .pre 2, .pre 4]) (als := [false, false, false, false, false, false, false]) (posts := [.val (Lit (.int .u32 x)), .val (Tup [Lit (.int .u64 ((toW 64 32 x).1)), IsB ((toW 64 32 x).2)]), .val (Tup [Lit (.int .u64 ((toW 64 32 x).1)), IsB ((toW 64 32 x).2)]), .val (Lit (.int .u64 ((toW 64 32 x).1))), .val (IsB ((toW 64 32 x).2)), .val (Lit (.int .u64 ((toW 64 32 x).1))), .val (IsB ((toW 64 32 x).2))])
      (out := [(5, .val (Lit (.int .u64 ((toW 64 32 x).1)))), (2, .box 37 8 (IsVal 0 0 (IsI 0) 0 0 (⟨#[]⟩) (K0))), (22, .val (EnvV))]) (nb := []) H5 7 [] rfl (by kernel_rfl) rfl rfl ?_ ?_
    · refine .cons (.plain rfl (ok_move (.tmp 0 rfl))) ?_
      refine .cons (.plain rfl (ok_callE (con_to6432 x hx) 1 rfl (.cons (.tmp 0 rfl) (.nil)))) ?_
      refine .cons (.plain rfl (ok_move (.tmp 0 rfl))) ?_
      refine .cons (.plain rfl (ok_extract 0 (.tmp 0 rfl) rfl)) ?_
      refine .cons (.plain rfl (ok_extract 1 (.tmp 0 rfl) rfl)) ?_
      refine .cons (.plain rfl (ok_assign (.tmp 0 rfl))) ?_
      refine .cons (.plain rfl (ok_assign (.tmp 0 rfl))) ?_
      exact .nil
    clear H5 a5 w5 B5
    intro a9 w9 B9 H9
    refine ops_done ?_
    refine then_normal ?_
    refine wp_seq ?_
    refine flow_region (dsts := [some 20, some 21]) (refs := [[.pre 0], [.res 0]]) (outs := [.res 1, .pre 1, .pre 2]) (als := [false, false]) (posts := [.val (Lit (.int .u64 ((toW 64 32 x).1))), .val (IsNum (.flt ((toW 64 32 x).1)))])
      (out := [(21, .val (IsNum (.flt ((toW 64 32 x).1)))), (2, .box 37 8 (IsVal 0 0 (IsI 0) 0 0 (⟨#[]⟩) (K0))), (22, .val (EnvV))]) (nb := []) H9 2 [2] rfl (by kernel_rfl) rfl rfl ?_ ?_
    · refine .cons (.plain rfl (ok_move (.tmp 0 rfl))) ?_
      refine .cons (.plain rfl (ok_buildVF (k := 4) (.lit) (.tmp 0 rfl))) ?_
      exact .nil
    clear H9 a9 w9 B9
    intro a10 w10 B10 H10
    refine ops_one ?_
    refine store_op (l' := [(21, .val (IsNum (.flt ((toW 64 32 x).1)))), (2, .box 37 8 (IsNum (.flt ((toW 64 32 x).1)))), (22, .val (EnvV))]) 1 H10 rfl tyV rfl (.tmp 0 rfl) (shape_Val shape_I oneK0) shape_Num rfl rfl ?_
    clear H10 w10
    intro w11 H11
    refine ops_done ?_
    refine then_normal ?_
    refine wp_ret ?_
    exact f_retC H11 tyV rfl 1 rfl (fun v w B h => by exact num_eq (of_no hc6).symm h)

set_option maxRecDepth 20000 in
set_option maxHeartbeats 2000000 in
theorem con_of16 (x : Int) (hx : 0 ≤ x ∧ x < 65536) : ConE Tryz.prog 17 [Lit (.int .u16 x)] (IsNum (ofV 16 x)) := by
  refine f_enterE (N := 22) Tryz.ntmps17 (fun _ _ => by go_simp) Tryz.func17 rfl (by simp) ?_
  intro a0 w0 B0 H0
  replace H0 : St 22 w0 B0 a0 w0 B0 [(0, .val (Lit (.int .u16 x))), (22, .val (EnvV))] [] := H0
  refine wp_seq ?_
  refine flow_region (dsts := [some 2]) (refs := [[]]) (outs := [.res 0, .pre 0, .pre 1]) (als := [true]) (posts := [.box 37 8 (IsVal 0 0 (IsI 0) 0 0 (⟨#[]⟩) (K0))])
    (out := [(2, .box 37 8 (IsVal 0 0 (IsI 0) 0 0 (⟨#[]⟩) (K0))), (0, .val (Lit (.int .u16 x))), (22, .val (EnvV))]) (nb := [2]) H0 1 [] rfl (by kernel_rfl) rfl rfl ?_ ?_
  · refine .cons (.plain rfl (ok_allocV)) ?_
    exact .nil
  clear H0
  intro a1 w1 B1 H1
  simp only [List.cons_append, List.nil_append] at H1
  refine ops_done ?_
  refine then_normal ?_
  refine wp_seq ?_
  refine wp_seq ?_
  refine flow_region (dsts := [some 8, some 9, some 7, some 10, some 11, some 3]) (refs := [[.pre 1], [.res 0, .pre 2], [.res 1], [.res 2], [.res 2], []]) (outs := [.res 3, .res 4, .res 5, .pre 0, .pre 1, .pre 2]) (als := [false, false, false, false, false, true]) (posts := [.val (Lit (.int .u16 x)), .val (Tup [IsI (intN 16 x), IsB (intOk 16 x)]), .val (Tup [IsI (intN 16 x), IsB (intOk 16 x)]), .val (IsI (intN 16 x)), .val (IsB (intOk 16 x)), .box 34 2 (Zero2)])
    (out := [(10, .val (IsI (intN 16 x))), (11, .val (IsB (intOk 16 x))), (3, .box 34 2 (Zero2)), (2, .box 37 8 (IsVal 0 0 (IsI 0) 0 0 (⟨#[]⟩) (K0))), (0, .val (Lit (.int .u16 x))), (22, .val (EnvV))]) (nb := [3]) H1 6 [6, 7] rfl (by kernel_rfl) rfl rfl ?_ ?_
  · refine .cons (.plain rfl (ok_move (.tmp 0 rfl))) ?_
    refine .cons (.plain rfl (ok_callE (con_iint16 x hx) 1 rfl (.cons (.tmp 0 rfl) (.nil)))) ?_
    refine .cons (.plain rfl (ok_move (.tmp 0 rfl))) ?_
    refine .cons (.plain rfl (ok_extract 0 (.tmp 0 rfl) rfl)) ?_
    refine .cons (.plain rfl (ok_extract 1 (.tmp 0 rfl) rfl)) ?_
    refine .cons (.plain rfl (ok_alloc (D := Zero2) zeroI rfl (fun _ _ => rfl))) ?_
    exact .nil
  clear H1 a1 w1 B1
  intro a2 w2 B2 H2
  simp only [List.cons_append, List.nil_append] at H2
  refine ops_one ?_
  refine store_op (l' := [(10, .val (IsI (intN 16 x))), (11, .val (IsB (intOk 16 x))), (3, .box 34 2 (IsI (intN 16 x))), (2, .box 37 8 (IsVal 0 0 (IsI 0) 0 0 (⟨#[]⟩) (K0))), (0, .val (Lit (.int .u16 x))), (22, .val (EnvV))]) 2 H2 rfl tyI rfl (.tmp 0 rfl) shape_Z shape_I rfl rfl ?_
  clear H2 w2
  intro w3 H3
  refine ops_one ?_
  refine tail_op (D := .val (IsB (intOk 16 x))) (l' := [(4, .val (IsB (intOk 16 x))), (10, .val (IsI (intN 16 x))), (11, .val (IsB (intOk 16 x))), (3, .box 34 2 (IsI (intN 16 x))), (2, .box 37 8 (IsVal 0 0 (IsI 0) 0 0 (⟨#[]⟩) (K0))), (0, .val (Lit (.int .u16 x))), (22, .val (EnvV))]) H3 rfl rfl rfl (.plain rfl (ok_assign (.tmp 1 rfl))) rfl rfl ?_
  clear H3 a2 w3 B2
  intro a4 w4 B4 H4
  refine ops_done ?_
  refine then_normal ?_
  refine wp_seq ?_
  refine flow_region (dsts := [some 12]) (refs := [[.pre 0]]) (outs := [.res 0, .pre 3, .pre 4, .pre 5, .pre 6]) (als := [false]) (posts := [.val (IsB (intOk 16 x))])
    (out := [(12, .val (IsB (intOk 16 x))), (3, .box 34 2 (IsI (intN 16 x))), (2, .box 37 8 (IsVal 0 0 (IsI 0) 0 0 (⟨#[]⟩) (K0))), (0, .val (Lit (.int .u16 x))), (22, .val (EnvV))]) (nb := []) H4 1 [] rfl (by kernel_rfl) rfl rfl ?_ ?_
  · refine .cons (.plain rfl (ok_move (.tmp 0 rfl))) ?_
    exact .nil
  clear H4 a4 w4 B4
  intro a5 w5 B5 H5
  refine ops_done ?_
  refine then_normal ?_
  refine f_cond H5 (.tmp 0 rfl) ?_ ?_
  · intro hc6
    refine wp_seq ?_
    refine flow_region (dsts := [some 13, some 14]) (refs := [[.pre 1], [.res 0]]) (outs := [.res 1, .pre 2, .pre 3, .pre 4]) (als := [false, false]) (posts := [.val (IsI (intN 16 x)), .val (IsNum (.int (intN 16 x)))])
      (out := [(14, .val (IsNum (.int (intN 16 x)))), (2, .box 37 8 (IsVal 0 0 (IsI 0) 0 0 (⟨#[]⟩) (K0))), (0, .val (Lit (.int .u16 x))), (22, .val (EnvV))]) (nb := []) H5 2 [2] rfl (by kernel_rfl) rfl rfl ?_ ?_
    · refine .cons (.plain rfl (ok_load tyI (.tmp 0 rfl))) ?_
      refine .cons (.plain rfl (ok_buildVI (k := 3) (.lit) (.tmp 0 rfl) shape_I)) ?_
      exact .nil
    clear H5 a5 w5 B5
    intro a7 w7 B7 H7
    refine ops_one ?_
    refine store_op (l' := [(14, .val (IsNum (.int (intN 16 x)))), (2, .box 37 8 (IsNum (.int (intN 16 x)))), (0, .val (Lit (.int .u16 x))), (22, .val (EnvV))]) 1 H7 rfl tyV rfl (.tmp 0 rfl) (shape_Val shape_I oneK0) shape_Num rfl rfl ?_
    clear H7 w7
    intro w8 H8
    refine ops_done ?_
    refine then_normal ?_
    refine wp_ret ?_
    refine then_ret ?_
    exact f_retC H8 tyV rfl 1 rfl (fun v w B h => by exact num_eq (of_yes hc6).symm h)
  · intro hc6
    refine wp_skip ?_
    refine then_normal ?_
    refine wp_seq ?_
    refine flow_region (dsts := [some 16, some 17, some 15, some 18, some 19, some 5, some 6]) (refs := [[.pre 3], [.res 0, .pre 4], [.res 1], [.res 2], [.res 2], [.res 3], [.res 4]]) (outs := [.res 5, .pre 2, .pre 4]) (als := [false, false, false, false, false, false, false]) (posts := [.val (Lit (.int .u16 x)), .val (Tup [Lit (.int .u64 ((toW 64 16 x).1)), IsB ((toW 64 16 x).2)]), .val (Tup [Lit (.int .u64 ((toW 64 16 x).1)), IsB ((toW 64 16 x).2)]), .val (Lit (.int .u64 ((toW 64 16 x).1))), .val (IsB ((toW 64 16 x).2)), .val (Lit (.int .u64 ((toW 64 16 x).1))), .val (IsB ((toW 64 16 x).2))])
      (out := [(5, .val (Lit (.int .u64 ((toW 64 16 x).1)))), (2, .box 37 8 (IsVal 0 0 (IsI 0) 0 0 (⟨#[]⟩) (K0))), (22, .val (EnvV))]) (nb := []) H5 7 [] rfl (by kernel_rfl) rfl rfl ?_ ?_
    · refine .cons (.plain rfl (ok_move (.tmp 0 rfl))) ?_
      refine .cons (.plain rfl (ok_callE (con_to6416 x hx) 1 rfl (.cons (.tmp 0 rfl) (.nil)))) ?_
      refine .cons (.plain rfl (ok_move (.tmp 0 rfl))) ?_
      refine .cons (.plain rfl (ok_extract 0 (.tmp 0 rfl) rfl)) ?_
      refine .cons (.plain rfl (ok_extract 1 (.tmp 0 rfl) rfl)) ?_
      refine .cons (.plain rfl (ok_assign (.tmp 0 rfl))) ?_
      refine .cons (.plain rfl (ok_assign (.tmp 0 rfl))) ?_
      exact .nil
    clear H5 a5 w5 B5
    intro a9 w9 B9 H9
    refine ops_done ?_
    refine then_normal ?_
    refine wp_seq ?_
    refine flow_region (dsts := [some 20, some 21]) (refs := [[.pre 0], [.res 0]]) (outs := [.res 1, .pre 1, .pre 2]) (als := [false, false]) (posts := [.val (Lit (.int .u64 ((toW 64 16 x).1))), .val (IsNum (.flt ((toW 64 16 x).1)))])
      (out := [(21, .val (IsNum (.flt ((toW 64 16 x).1)))), (2, .box 37 8 (IsVal 0 0 (IsI 0) 0 0 (⟨#[]⟩) (K0))), (22, .val (EnvV))]) (nb := []) H9 2 [2] rfl (by kernel_rfl) rfl rfl ?_ ?_
    · refine .cons (.plain rfl (ok_move (.tmp 0 rfl))) ?_
      refine .cons (.plain rfl (ok_buildVF (k := 4) (.lit) (.tmp 0 rfl))) ?_
      exact .nil
    clear H9 a9 w9 B9
    intro a10 w10 B10 H10
    refine ops_one ?_
    refine store_op (l' := [(21, .val (IsNum (.flt ((toW 64 16 x).1)))), (2, .box 37 8 (IsNum (.flt ((toW 64 16 x).1)))), (22, .val (EnvV))]) 1 H10 rfl tyV rfl (.tmp 0 rfl) (shape_Val shape_I oneK0) shape_Num rfl rfl ?_
    clear H10 w10
    intro w11 H11
    refine ops_done ?_
    refine then_normal ?_
    refine wp_ret ?_
    exact f_retC H11 tyV rfl 1 rfl (fun v w B h => by exact num_eq (of_no hc6).symm h)

end Go.Proofs.YtoimhjcpeifegaaGreatDoor

