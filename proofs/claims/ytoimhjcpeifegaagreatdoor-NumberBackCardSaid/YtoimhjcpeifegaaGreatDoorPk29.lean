/- Contracts of functions, and plain facts, part 29. -/
import Derived.Maps.AppendAt
import Derived.Test.YtoimhjcpeifegaaGreatDoorPk4
import Derived.Test.YtoimhjcpeifegaaGreatDoorPk7
import Derived.Test.YtoimhjcpeifegaaGreatDoorPk13
import Derived.Test.YtoimhjcpeifegaaGreatDoorPk16
import Derived.Test.YtoimhjcpeifegaaGreatDoorPk20
import Derived.Test.YtoimhjcpeifegaaGreatDoorPk23
import Derived.Test.YtoimhjcpeifegaaGreatDoorPk24
import Derived.Test.YtoimhjcpeifegaaGreatDoorPk25
import Derived.Test.YtoimhjcpeifegaaGreatDoorPk26
import Derived.Test.YtoimhjcpeifegaaGreatDoorPk27
import Derived.Test.YtoimhjcpeifegaaGreatDoorPk28
set_option linter.unusedVariables false
set_option linter.unusedSimpArgs false
/- Lists that are read, and rows of a call's own that are written upon. -/
namespace Go.Proofs.YtoimhjcpeifegaaGreatDoor
open Go Go.RowKit

def Kd (k : IntKind) : Prop := k = .u32 ∨ k = .u8
/-- The heap has at least m blocks. -/
def Sz (m : Nat) : VP := ⟨fun _ w _ => m ≤ w.heap.size, fun v w B w' B' h hp => Nat.le_trans hp h.size⟩
def PL (k : IntKind) (xs : List Int) (v : Value) (w : World) (B : Bx) : Prop := Kd k ∧ ∃ ad n c, v = .slice ad n c ∧ Rds w k ad n xs
/-- A list that may be read. -/
def IsL (k : IntKind) (xs : List Int) : VP := ⟨PL k xs, fun v w B w' B' h ⟨hk, ad, n, c, e, r⟩ => ⟨hk, ad, n, c, e, r.mv h hk⟩⟩
def PLb (m : Nat) (k : IntKind) (xs : List Int) (v : Value) (w : World) (B : Bx) : Prop := Kd k ∧ ∃ ad n c, v = .slice ad n c ∧ Rds w k ad n xs ∧ (0 < n → ∀ b, blkOf ad = some b → b < m)
/-- ... that lies below block m. -/
def IsLb (m : Nat) (k : IntKind) (xs : List Int) : VP := ⟨PLb m k xs, fun v w B w' B' h ⟨hk, ad, n, c, e, r, hb⟩ => ⟨hk, ad, n, c, e, r.mv h hk, hb⟩⟩
def PApp (g : Option Nat) (m : Nat) (e : TypeId) (k : IntKind) (xs : List Int) (v : Value) (w : World) (B : Bx) : Prop := Kd k ∧ (∀ b, g = some b → ¬ B b) ∧ ∃ ad c, v = .slice ad xs.length c ∧ App m w e k ad xs.length c xs ∧ blkOf ad = g
theorem PApp.st {g : Option Nat} {m : Nat} {e : TypeId} {k : IntKind} {xs : List Int} (v : Value) (w : World) (B : Bx) (w' : World) (B' : Bx) (h : Mv w B w' B') (hp : PApp g m e k xs v w B) : PApp g m e k xs v w' B' := by
  obtain ⟨hk, hb, ad, c, e1, ha, hg⟩ := hp
  have hlt : ∀ b, g = some b → b < w.heap.size := fun b hb2 => (ha.lt b (hg.trans hb2)).2
  refine ⟨hk, fun b hb2 h3 => hb b hb2 (h.box b (hlt b hb2) h3), ad, c, e1, ha.kept fun b hb2 => ?_, hg⟩
  have h3 : g = some b := hg.symm.trans hb2
  exact (h.same b (hlt b h3)).resolve_right fun h4 => hb b h3 h4.1
/-- A row of one's own (block g; at least m) that reads as xs. -/
def IsApp (g : Option Nat) (m : Nat) (e : TypeId) (k : IntKind) (xs : List Int) : VP := ⟨PApp g m e k xs, PApp.st⟩
/-- ... in some block. -/
def IsNew (m : Nat) (e : TypeId) (k : IntKind) (xs : List Int) : VP := ⟨fun v w B => ∃ g, PApp g m e k xs v w B, fun v w B w' B' h ⟨g, hp⟩ => ⟨g, PApp.st v w B w' B' h hp⟩⟩
theorem weakLbL {m : Nat} {k : IntKind} {xs : List Int} (v : Value) (w : World) (B : Bx) (h : (IsLb m k xs).p v w B) : (IsL k xs).p v w B := by
  obtain ⟨hk, ad, n, c, e, r, _⟩ := h
  exact ⟨hk, ad, n, c, e, r⟩
section
variable {P : Program} {need : List (Tmp × FD)} {d : Option Tmp} {ty : TypeId} {pos : String} {af : Array Edge} {g : Option (Nat × Bool)} {x y : Operand}
theorem ok_lenL {t e : TypeId} {k : IntKind} {xs : List Int} (hs : P.underlying t = some (.slice e)) (h : Opd need x (.val (IsL k xs))) : OpOk P ⟨d, .call { callee := .builtin .len, args := #[x], argTypes := #[t] }, ty, pos, af, g⟩ need (.val (Lit (.int .i64 (xs.length : Int)))) false :=
  ok_via h fun ρ w B v ⟨hk, ad, n, c, e1, r⟩ h1 => by
    refine ⟨_, ?_, rfl⟩
    rw [r.len]
    have hl : (Builtin.len_ #[t] ty #[.slice ad n c]).run P w = .ok (.int .i64 n) w := by
      simp [Builtin.len_, Sem.run_bind, run_underlying hs, goInt]
    simp [execOp, h1, e1, resolve, invoke, builtin, Sem.run_bind, hl]
end

section
variable {P : Program} {need : List (Tmp × FD)} {d : Option Tmp} {ty : TypeId} {pos : String} {af : Array Edge} {g : Option (Nat × Bool)} {x y : Operand}
theorem below_own1 {w w' : World} {B : Bx} (hB : Own1 B w) (hb : Below w.heap.size w w') : Own1 B w' := fun k hk => Nat.lt_of_lt_of_le (hB k hk) hb.size
end

section
variable {P : Program} {Q : Exit → Act → World → Prop} {N : Nat} {w0 : World} {B0 : Bx} {a : Act} {w : World} {B : Bx} {l : List (Tmp × FD)} {bxs : List Tmp}
/-- What is known of the heap's size stands upon slot s; lists that are at hand lie below. -/
theorem St.mark (H : St N w0 B0 a w B l bxs) (s : Tmp) : ∃ m, w0.heap.size ≤ m ∧ w.heap.size ≤ m ∧ (∀ k xs v, (IsL k xs).p v w B → (IsLb m k xs).p v w B) ∧ St N w0 B0 a w B ((s, .val (Sz m)) :: l) bxs := by
  refine ⟨w.heap.size, H.bel.size, Nat.le_refl _, fun k xs v ⟨hk, ad, n, c, e, r⟩ => ⟨hk, ad, n, c, e, r, fun hn b hb => ?_⟩, H.df, H.sz, ⟨Nat.le_refl _, H.fc⟩, H.bx, H.ap, H.bel, H.own, H.own0⟩
  obtain ⟨a1, rfl, hc⟩ := r.cell 0 hn
  have h2 := World.block_lt_of_cell? w _ hc
  have e2 : (a1.add 0).block = a1.block := by unfold Addr.add; split <;> rfl
  have hb3 : a1.block = b := by injection hb
  rw [e2] at h2
  omega
/-- Another word on a slot, in this world. -/
theorem St.setw (H : St N w0 B0 a w B l bxs) (k : Nat) {s : Tmp} {D D' : VP} (hk : l[k]? = some (s, .val D)) (hw : ∀ v, D.p v w B → D'.p v w B) {l' : List (Tmp × FD)} (hl : l.set k (s, .val D') = l') : St N w0 B0 a w B l' bxs := by
  refine ⟨H.df, H.sz, Fct.of_all fun x hx => ?_, H.bx, H.ap, H.bel, H.own, H.own0⟩
  rw [← hl] at hx
  rcases List.mem_or_eq_of_mem_set hx with h | h
  · exact H.fc.all x h
  · subst h; exact hw _ (H.fc.get k hk)
theorem St.name (H : St N w0 B0 a w B l bxs) (i : Nat) {s : Tmp} {m : Nat} {e : TypeId} {k : IntKind} {xs : List Int} (hi : l[i]? = some (s, .val (IsNew m e k xs))) : ∃ g, (∀ b, g = some b → m ≤ b ∧ b < w.heap.size) ∧ St N w0 B0 a w B (l.set i (s, .val (IsApp g m e k xs))) bxs := by
  obtain ⟨g, hp⟩ := H.fc.get i hi
  refine ⟨g, fun b hb => ?_, H.df, H.sz, Fct.of_all fun x hx => ?_, H.bx, H.ap, H.bel, H.own, H.own0⟩
  · obtain ⟨_, _, ad, c, _, ha, hg⟩ := hp
    exact ha.lt b (hg.trans hb)
  · rcases List.mem_or_eq_of_mem_set hx with h | h
    · exact H.fc.all x h
    · subst h; exact hp
end

/-- What is not of row g stays. -/
def Kept (g : Option Nat) (m : Nat) (f : FD) : Prop := ∀ (v : Value) (w w' : World) (B : Bx), w.heap.size ≤ w'.heap.size → (∀ i, i < w.heap.size → g ≠ some i → w'.heap[i]? = w.heap[i]?) → (∀ b, g = some b → m ≤ b ∧ ¬ B b) → f.p v w B → f.p v w' B
theorem kept_lit {g : Option Nat} {m : Nat} {u : Value} : Kept g m (.val (Lit u)) := fun _ _ _ _ _ _ _ h => h
theorem kept_sz {g : Option Nat} {m q : Nat} : Kept g m (.val (Sz q)) := fun _ _ _ _ hs _ _ h => Nat.le_trans h hs
inductive KeepAll (g : Option Nat) (m : Nat) : List (Tmp × FD) → Prop where
  | nil : KeepAll g m []
  | cons {s : Tmp} {f : FD} {l : List (Tmp × FD)} (h : Kept g m f) (t : KeepAll g m l) : KeepAll g m ((s, f) :: l)
theorem KeepAll.all {g : Option Nat} {m : Nat} {l : List (Tmp × FD)} (h : KeepAll g m l) : ∀ x ∈ l, Kept g m x.2 := by
  induction h with
  | nil => intro x hx; cases hx
  | cons h t ih =>
    intro x hx
    rcases List.mem_cons.1 hx with rfl | hx
    · exact h
    · exact ih x hx

section
variable {P : Program} {ops : Array Oper} {Q : Exit → Act → World → Prop} {N : Nat} {w0 : World} {B0 : Bx} {a : Act} {w : World} {B : Bx} {l : List (Tmp × FD)} {bxs : List Tmp}
/-- The state behind a writing: ks are the facts that stay, rs are told anew. -/
theorem St.wrote {w' : World} {g : Option Nat} {m : Nat} (H : St N w0 B0 a w B l bxs) (hm : w0.heap.size ≤ m) (hs : w.heap.size ≤ w'.heap.size) (hb : ∀ i, i < w.heap.size → g ≠ some i → w'.heap[i]? = w.heap[i]?) (hg : ∀ b, g = some b → m ≤ b ∧ ¬ B b)
    (ho : w'.os = w.os) (ht : w'.tape = w.tape) (hp : w'.output = w.output) {ks rs : List (Tmp × FD)} (hk : KeepAll g m ks) (hsub : ∀ x ∈ ks, x ∈ l) (hr : ∀ x ∈ rs, x.2.p (a.tmps.getD x.1 undef) w' B) : St N w0 B0 a w' B (rs ++ ks) bxs := by
  refine ⟨H.df, H.sz, Fct.of_all fun x hx => ?_, fun s hs2 => ?_, H.ap, ?_, fun k hk => Nat.lt_of_lt_of_le (H.own k hk) hs, H.own0⟩
  · rcases List.mem_append.1 hx with h | h
    · exact hr x h
    · exact hk.all x h _ _ _ _ hs hb hg (H.fc.all x (hsub x h))
  · obtain ⟨b, h1, h2, h3⟩ := H.bx s hs2
    exact ⟨b, h1, Nat.lt_of_lt_of_le h2 hs, h3⟩
  · refine ⟨ho.trans H.bel.os, ht.trans H.bel.tape, hp.trans H.bel.output, Nat.le_trans H.bel.size hs, fun i hi => ?_⟩
    rw [hb i (Nat.lt_of_lt_of_le hi H.bel.size) fun e => by have := (hg i e).1; omega]
    exact H.bel.block i hi
end
end Go.Proofs.YtoimhjcpeifegaaGreatDoor


/- Contracts of layer 4 in the kit: they read the laid variables. -/
namespace Go.Proofs.YtoimhjcpeifegaaGreatDoor
open Go Go.RowKit

theorem fitsIntN {W : Nat} (hW : Wide W) (x : Int) : Fits (intN W x) := ⟨4099, by have := lim_eq; omega, intN_bd hW x⟩
theorem retIntB_con {N : Int} {ok : Bool} {w : World} {B : Bx} {e : Ending} {w' : World} (hf : Fits N) (h : RetIntB N ok w e w') : ∃ v, e = .returned v ∧ (Tup [IsI N, IsB ok]).p v w' B ∧ Below w.heap.size w w' := by
  obtain ⟨ad, n, c, e1, k, hb⟩ := h
  refine ⟨_, e1, ⟨[.agg #[.bool (decide (N < 0)), .slice ad n c], .bool ok], rfl, ⟨ad, n, c, rfl, k, ?_⟩, rfl, trivial⟩, hb⟩
  obtain ⟨q, hq, hf⟩ := hf
  exact Nat.le_trans (k.len_le q hf) hq
theorem tup2_con {a b : Value} {w w' : World} {B : Bx} {e : Ending} (h : e = .returned (.tuple #[a, b]) ∧ Below w.heap.size w w') : ∃ v, e = .returned v ∧ (Tup [Lit a, Lit b]).p v w' B ∧ Below w.heap.size w w' := ⟨_, h.1, ⟨[a, b], rfl, rfl, rfl, trivial⟩, h.2⟩
theorem con_iint64 (x : Int) (hx : 0 ≤ x ∧ x < 18446744073709551616) : ConE Tryz.prog 49 [Lit (.int .u64 x)] (Tup [IsI (intN 64 x), IsB (intOk 64 x)]) := by
  refine ⟨fun _ _ => by go_simp, fun vs w B hB hE hV => ?_⟩
  match vs, hV with
  | [v], ⟨h1, _⟩ =>
    obtain rfl := h1
    exact (iint_64 w hE.sh hE.tab x hx).mono fun e w' h => retIntB_con (fitsIntN (by unfold Wide; omega) x) h
theorem con_iint32 (x : Int) (hx : 0 ≤ x ∧ x < 4294967296) : ConE Tryz.prog 72 [Lit (.int .u32 x)] (Tup [IsI (intN 32 x), IsB (intOk 32 x)]) := by
  refine ⟨fun _ _ => by go_simp, fun vs w B hB hE hV => ?_⟩
  match vs, hV with
  | [v], ⟨h1, _⟩ =>
    obtain rfl := h1
    exact (iint_32 w hE.sh hE.tab x hx).mono fun e w' h => retIntB_con (fitsIntN (by unfold Wide; omega) x) h
theorem con_iint16 (x : Int) (hx : 0 ≤ x ∧ x < 65536) : ConE Tryz.prog 71 [Lit (.int .u16 x)] (Tup [IsI (intN 16 x), IsB (intOk 16 x)]) := by
  refine ⟨fun _ _ => by go_simp, fun vs w B hB hE hV => ?_⟩
  match vs, hV with
  | [v], ⟨h1, _⟩ =>
    obtain rfl := h1
    exact (iint_16 w hE.sh hE.tab x hx).mono fun e w' h => retIntB_con (fitsIntN (by unfold Wide; omega) x) h
theorem con_to6416 (x : Int) (hx : 0 ≤ x ∧ x < 65536) : ConE Tryz.prog 13 [Lit (.int .u16 x)] (Tup [Lit (.int .u64 (toW 64 16 x).1), IsB (toW 64 16 x).2]) := by
  refine ⟨fun _ _ => by go_simp, fun vs w B hB hE hV => ?_⟩
  match vs, hV with
  | [v], ⟨h1, _⟩ =>
    obtain rfl := h1
    exact (to_64_16 w hE.sh hE.tab x hx).mono fun e w' h => tup2_con h
theorem con_to6432 (x : Int) (hx : 0 ≤ x ∧ x < 4294967296) : ConE Tryz.prog 14 [Lit (.int .u32 x)] (Tup [Lit (.int .u64 (toW 64 32 x).1), IsB (toW 64 32 x).2]) := by
  refine ⟨fun _ _ => by go_simp, fun vs w B hB hE hV => ?_⟩
  match vs, hV with
  | [v], ⟨h1, _⟩ =>
    obtain rfl := h1
    exact (to_64_32 w hE.sh hE.tab x hx).mono fun e w' h => tup2_con h
theorem con_to6464 (x : Int) (hx : 0 ≤ x ∧ x < 18446744073709551616) : ConE Tryz.prog 68 [Lit (.int .u64 x)] (Tup [Lit (.int .u64 (toW 64 64 x).1), IsB (toW 64 64 x).2]) := by
  refine ⟨fun _ _ => by go_simp, fun vs w B hB hE hV => ?_⟩
  match vs, hV with
  | [v], ⟨h1, _⟩ =>
    obtain rfl := h1
    exact (to_64_64 w hE.sh hE.tab x hx).mono fun e w' h => tup2_con h
theorem con_to1664 (x : Int) (hx : 0 ≤ x ∧ x < 18446744073709551616) : ConE Tryz.prog 36 [Lit (.int .u64 x)] (Tup [Lit (.int .u16 (toW 16 64 x).1), IsB (toW 16 64 x).2]) := by
  refine ⟨fun _ _ => by go_simp, fun vs w B hB hE hV => ?_⟩
  match vs, hV with
  | [v], ⟨h1, _⟩ =>
    obtain rfl := h1
    exact (to_16_64 w hE.sh hE.tab x hx).mono fun e w' h => tup2_con h
theorem con_to3264 (x : Int) (hx : 0 ≤ x ∧ x < 18446744073709551616) : ConE Tryz.prog 37 [Lit (.int .u64 x)] (Tup [Lit (.int .u32 (toW 32 64 x).1), IsB (toW 32 64 x).2]) := by
  refine ⟨fun _ _ => by go_simp, fun vs w B hB hE hV => ?_⟩
  match vs, hV with
  | [v], ⟨h1, _⟩ =>
    obtain rfl := h1
    exact (to_32_64 w hE.sh hE.tab x hx).mono fun e w' h => tup2_con h
theorem con_ifrom64 (X : Int) : ConE Tryz.prog 246 [IsN X] (Tup [Lit (.int .u64 (fromW 64 X).1), IsB (fromW 64 X).2]) := by
  refine ⟨fun _ _ => by go_simp, fun vs w B hB hE hV => ?_⟩
  match vs, hV with
  | [v], ⟨h1, _⟩ =>
    obtain ⟨ng, ad, n, c, V, rfl, k, l, rfl⟩ := h1
    exact (from_64 w hE.sh hE.tab ng ad n c V k (by have := lim_eq; omega)).mono fun e w' h => tup2_con h
theorem con_class64 (x : Int) (hx : 0 ≤ x ∧ x < 18446744073709551616) : ConE Tryz.prog 51 [Lit (.int .u64 x)] (Lit (.int .i8 (clsW 64 x))) := by
  refine ⟨fun _ _ => by go_simp, fun vs w B hB hE hV => ?_⟩
  match vs, hV with
  | [v], ⟨h1, _⟩ =>
    obtain rfl := h1
    exact (class_64 w hE.sh x hx).mono fun e w' h => ⟨_, h.1, rfl, h.2⟩
theorem con_icmp64 (x y : Int) (hx : 0 ≤ x ∧ x < 18446744073709551616) (hy : 0 ≤ y ∧ y < 18446744073709551616) : ConE Tryz.prog 48 [Lit (.int .u64 x), Lit (.int .u64 y)] (Tup [Lit (.int .i64 (cmpW 64 x y).1), IsB (cmpW 64 x y).2]) := by
  refine ⟨fun _ _ => by go_simp, fun vs w B hB hE hV => ?_⟩
  match vs, hV with
  | [v, u], ⟨h1, h2, _⟩ =>
    obtain rfl := h1
    obtain rfl := h2
    exact (cmp_64 w hE.sh x y hx hy).mono fun e w' h => tup2_con h
theorem con_iparts64 (x : Int) (hx : 0 ≤ x ∧ x < 18446744073709551616) : ConE Tryz.prog 64 [Lit (.int .u64 x)] (Tup [IsB (pNeg 64 x), Lit (.int .u64 (pM 64 x)), Lit (.int .i64 (pE 64 x)), IsB (pOk 64 x)]) := by
  refine ⟨fun _ _ => by go_simp, fun vs w B hB hE hV => ?_⟩
  match vs, hV with
  | [v], ⟨h1, _⟩ =>
    obtain rfl := h1
    exact (parts_64 w hE.sh hE.tab x hx).mono fun e w' h => ⟨_, h.1, ⟨[_, _, _, _], rfl, rfl, rfl, rfl, rfl, trivial⟩, h.2⟩
end Go.Proofs.YtoimhjcpeifegaaGreatDoor


/- Values of any kind, with all that lies within them: how they read in memory; rows of values. -/
set_option maxRecDepth 50000
namespace Go.Proofs.YtoimhjcpeifegaaGreatDoor
open Go Go.RowKit

/-- A value's own parts, its kids aside. -/
structure VD where
  k : Int
  n : Int
  ng : Bool
  xs : List Int
  b : Int
  x : Int
  t : ByteArray
inductive VT where
  | node (d : VD) (kids : List VT)
def VT.d : VT → VD
  | .node d _ => d
def VT.kids : VT → List VT
  | .node _ l => l
/-- The greatest length of a list that comes in. -/
def BIG : Nat := 140737488355328
theorem big_eq : BIG = 140737488355328 := rfl
/-- The eight cells at place a. -/
def At8 (w : World) (a : Addr) (cs : List Value) : Prop := cs.length = 8 ∧ ∀ (j : Nat) (u : Value), cs[j]? = some u → w.cell? (a.add j) = some u
mutual
/-- The value v reads as the tree; all its lists lie below block m and in no variable. -/
def RdV (m : Nat) (w : World) (B : Bx) : VT → Value → Prop
  | .node d l, v => ∃ (ad : Option Addr) (n c : Nat) (ka : Option Addr) (kc : Nat),
      v = .agg #[.int .i8 d.k, .int .u64 d.n, .bool d.ng, .slice ad n c, .int .u64 d.b, .int .i8 d.x, .string d.t, .slice ka l.length kc] ∧
      Arg w ad n c d.xs ∧ (0 < n → ∀ b, blkOf ad = some b → b < m) ∧ n ≤ BIG ∧ l.length ≤ BIG ∧ d.t.size ≤ BIG ∧ RdL m w B ka 0 l
def RdL (m : Nat) (w : World) (B : Bx) : Option Addr → Nat → List VT → Prop
  | _, _, [] => True
  | none, _, _ :: _ => False
  | some a, i, t :: ts => (a.block < m ∧ ¬ B a.block ∧ ∃ cs, At8 w (a.add (8 * i)) cs ∧ RdV m w B t (.agg cs.toArray)) ∧ RdL m w B (some a) (i + 1) ts
end
theorem RdL.get {m : Nat} {w : World} {B : Bx} {a : Addr} : ∀ {l : List VT} {i : Nat}, RdL m w B (some a) i l → ∀ (j : Nat) (t : VT), l[j]? = some t → a.block < m ∧ ¬ B a.block ∧ ∃ cs, At8 w (a.add (8 * (i + j))) cs ∧ RdV m w B t (.agg cs.toArray)
  | [], i, _, j, t, hj => by simp at hj
  | u :: us, i, h, j, t, hj => by
    unfold RdL at h
    cases j with
    | zero => simp at hj; subst hj; exact h.1
    | succ j =>
      have := RdL.get h.2 j t (by simpa using hj)
      rwa [show i + 1 + j = i + (j + 1) by omega] at this
theorem RdL.mk {m : Nat} {w : World} {B : Bx} {a : Addr} : ∀ {l : List VT} {i : Nat}, (∀ (j : Nat) (t : VT), l[j]? = some t → a.block < m ∧ ¬ B a.block ∧ ∃ cs, At8 w (a.add (8 * (i + j))) cs ∧ RdV m w B t (.agg cs.toArray)) → RdL m w B (some a) i l
  | [], i, _ => by unfold RdL; trivial
  | u :: us, i, h => by
    unfold RdL
    refine ⟨h 0 u rfl, RdL.mk fun j t hj => ?_⟩
    have := h (j + 1) t (by simpa using hj)
    rwa [show i + (j + 1) = i + 1 + j by omega] at this
/-- What has turned lies not below m, or holds no limbs and is a variable. -/
structure Tn (m : Nat) (w : World) (B : Bx) (w' : World) (B' : Bx) : Prop where
  same : ∀ k, k < m → k < w.heap.size → w'.heap[k]? = w.heap[k]? ∨ (B k ∧ Plain w k)
  box : ∀ k, k < m → k < w.heap.size → B' k → B k
theorem Mv.tn {w w' : World} {B B' : Bx} (h : Mv w B w' B') (m : Nat) : Tn m w B w' B' := ⟨fun k _ hk => h.same k hk, fun k _ hk => h.box k hk⟩
theorem addr_add (a : Addr) (i j : Nat) : (a.add i).add j = a.add (i + j) := by
  unfold Addr.add
  by_cases hi : i = 0
  · subst hi; simp
  · by_cases hj : j = 0
    · subst hj; simp
    · rw [if_neg hj, if_neg hi, if_neg (by omega)]
      simp; omega
theorem blk_add (a : Addr) (j : Nat) : (a.add j).block = a.block := by unfold Addr.add; split <;> rfl
theorem At8.tn {m : Nat} {w w' : World} {B B' : Bx} (h : Tn m w B w' B') {a : Addr} {cs : List Value} (hm : a.block < m) (hb : ¬ B a.block) (k : At8 w a cs) : At8 w' a cs ∧ ¬ B' a.block := by
  have hl : a.block < w.heap.size := by
    have h0 := k.2 0 _ (List.getElem?_eq_getElem (by rw [k.1]; omega))
    have := World.block_lt_of_cell? w _ h0
    rwa [blk_add] at this
  refine ⟨⟨k.1, fun j u hj => ?_⟩, fun h2 => hb (h.box _ hm hl h2)⟩
  have hc := k.2 j u hj
  rw [← hc]
  refine World.cell?_of_block ?_
  rw [blk_add]
  exact (h.same _ hm hl).resolve_right fun h2 => hb h2.1
theorem Arg.tn {m : Nat} {w w' : World} {B B' : Bx} (h : Tn m w B w' B') {ad : Option Addr} {n c : Nat} {xs : List Int} (hm : 0 < n → ∀ b, blkOf ad = some b → b < m) (k : Arg w ad n c xs) : Arg w' ad n c xs := by
  refine ⟨k.le, ⟨k.rds.len, fun j hj => ?_⟩, k.dig⟩
  obtain ⟨a, e, hc⟩ := k.rds.cell j hj
  refine ⟨a, e, ?_⟩
  have hl := World.block_lt_of_cell? w _ hc
  have hlm : (a.add j).block < m := by rw [blk_add]; exact hm (by omega) _ (by rw [e]; rfl)
  rcases h.same _ hlm hl with h1 | ⟨_, h2⟩
  · rw [← hc]; exact World.cell?_of_block h1
  · exact absurd hc (h2 _ .u32 _ rfl (.inl rfl))
mutual
theorem RdV.tn {m : Nat} {w w' : World} {B B' : Bx} (h : Tn m w B w' B') : ∀ (t : VT) (v : Value), RdV m w B t v → RdV m w' B' t v
  | .node d l, v, hp => by
    unfold RdV at *
    obtain ⟨ad, n, c, ka, kc, e, h1, h2, h3, h4, h5, h6⟩ := hp
    exact ⟨ad, n, c, ka, kc, e, h1.tn h h2, h2, h3, h4, h5, RdL.tn h ka 0 l h6⟩
theorem RdL.tn {m : Nat} {w w' : World} {B B' : Bx} (h : Tn m w B w' B') : ∀ (ka : Option Addr) (i : Nat) (l : List VT), RdL m w B ka i l → RdL m w' B' ka i l
  | ka, i, [], hp => by unfold RdL; trivial
  | none, i, t :: ts, hp => by unfold RdL at hp; exact hp.elim
  | some a, i, t :: ts, hp => by
    unfold RdL at *
    obtain ⟨⟨h1, h2, cs, h3, h4⟩, h5⟩ := hp
    have hb8 : (a.add (8 * i)).block = a.block := blk_add a _
    have := h3.tn h (by rw [hb8]; exact h1) (by rw [hb8]; exact h2)
    rw [hb8] at this
    exact ⟨⟨h1, this.2, cs, this.1, RdV.tn h t _ h4⟩, RdL.tn h (some a) (i + 1) ts h5⟩
end
mutual
theorem RdV.mono {m m2 : Nat} {w : World} {B : Bx} (h : m ≤ m2) : ∀ (t : VT) (v : Value), RdV m w B t v → RdV m2 w B t v
  | .node d l, v, hp => by
    unfold RdV at *
    obtain ⟨ad, n, c, ka, kc, e, h1, h2, h3, h4, h5, h6⟩ := hp
    exact ⟨ad, n, c, ka, kc, e, h1, fun hn b hb => Nat.lt_of_lt_of_le (h2 hn b hb) h, h3, h4, h5, RdL.mono h ka 0 l h6⟩
theorem RdL.mono {m m2 : Nat} {w : World} {B : Bx} (h : m ≤ m2) : ∀ (ka : Option Addr) (i : Nat) (l : List VT), RdL m w B ka i l → RdL m2 w B ka i l
  | ka, i, [], hp => by unfold RdL; trivial
  | none, i, t :: ts, hp => by unfold RdL at hp; exact hp.elim
  | some a, i, t :: ts, hp => by
    unfold RdL at *
    obtain ⟨⟨h1, h2, cs, h3, h4⟩, h5⟩ := hp
    exact ⟨⟨Nat.lt_of_lt_of_le h1 h, h2, cs, h3, RdV.mono h t _ h4⟩, RdL.mono h (some a) (i + 1) ts h5⟩
end
/-- A value that reads as t; its lists lie below m. -/
def IsV (m : Nat) (t : VT) : VP := ⟨fun v w B => RdV m w B t v, fun v w B w' B' h hp => RdV.tn (h.tn m) t v hp⟩
/-- A list of values that reads as l; its row lies below q, what is within below m. -/
def PVs (q m : Nat) (l : List VT) (v : Value) (w : World) (B : Bx) : Prop := ∃ ad c, v = .slice ad l.length c ∧ l.length ≤ BIG ∧ (0 < l.length → ∃ a, ad = some a ∧ a.block < q ∧ ¬ B a.block ∧ ∀ (j : Nat) (t : VT), l[j]? = some t → ∃ cs, At8 w (a.add (8 * j)) cs ∧ RdV m w B t (.agg cs.toArray))
theorem PVs.tn {q m : Nat} {w w' : World} {B B' : Bx} (hq : Tn q w B w' B') (hm : Tn m w B w' B') {l : List VT} {v : Value} (hp : PVs q m l v w B) : PVs q m l v w' B' := by
  obtain ⟨ad, c, e, hl, h⟩ := hp
  refine ⟨ad, c, e, hl, fun h0 => ?_⟩
  obtain ⟨a, e1, h1, h2, h3⟩ := h h0
  have key : ∀ (j : Nat) (t : VT), l[j]? = some t → ∃ cs, At8 w' (a.add (8 * j)) cs ∧ ¬ B' a.block ∧ RdV m w' B' t (.agg cs.toArray) := fun j t hj => by
    obtain ⟨cs, h4, h5⟩ := h3 j t hj
    have hb8 : (a.add (8 * j)).block = a.block := blk_add a _
    have := h4.tn hq (by rw [hb8]; exact h1) (by rw [hb8]; exact h2)
    rw [hb8] at this
    exact ⟨cs, this.1, this.2, RdV.tn hm t _ h5⟩
  refine ⟨a, e1, h1, ?_, fun j t hj => ?_⟩
  · obtain ⟨cs, _, h4, _⟩ := key 0 _ (List.getElem?_eq_getElem h0)
    exact h4
  · obtain ⟨cs, h4, _, h5⟩ := key j t hj
    exact ⟨cs, h4, h5⟩
def IsVs (q m : Nat) (l : List VT) : VP := ⟨PVs q m l, fun v w B w' B' h hp => hp.tn (h.tn q) (h.tn m)⟩
theorem PVs.mono {q q2 m m2 : Nat} {l : List VT} {v : Value} {w : World} {B : Bx} (hq : q ≤ q2) (hm : m ≤ m2) (hp : PVs q m l v w B) : PVs q2 m2 l v w B := by
  obtain ⟨ad, c, e, hl, h⟩ := hp
  refine ⟨ad, c, e, hl, fun h0 => ?_⟩
  obtain ⟨a, e1, h1, h2, h3⟩ := h h0
  refine ⟨a, e1, Nat.lt_of_lt_of_le h1 hq, h2, fun j t hj => ?_⟩
  obtain ⟨cs, h4, h5⟩ := h3 j t hj
  exact ⟨cs, h4, RdV.mono hm t _ h5⟩
/-- Its row lies anywhere. -/
def IsVl (m : Nat) (l : List VT) : VP := ⟨fun v w B => PVs w.heap.size m l v w B, fun v w B w' B' h hp => (hp.tn (h.tn _) (h.tn m)).mono h.size (Nat.le_refl _)⟩
/-- All lies anywhere. -/
def IsVq (l : List VT) : VP := ⟨fun v w B => PVs w.heap.size w.heap.size l v w B, fun v w B w' B' h hp => (hp.tn (h.tn _) (h.tn _)).mono h.size h.size⟩
def IsVv (t : VT) : VP := ⟨fun v w B => RdV w.heap.size w B t v, fun v w B w' B' h hp => RdV.mono h.size t v (RdV.tn (h.tn _) t v hp)⟩
theorem At8.lt {w : World} {a : Addr} {cs : List Value} (h : At8 w a cs) : a.block < w.heap.size := by
  have h0 := h.2 0 _ (List.getElem?_eq_getElem (by rw [h.1]; omega))
  have := World.block_lt_of_cell? w _ h0
  rwa [blk_add] at this
/-- The address of a value (off cells within it) that reads as t; its row lies below q. -/
def PPv (q m : Nat) (t : VT) (off : Nat) (v : Value) (w : World) (B : Bx) : Prop := ∃ a cs, v = .pointer (some (a.add off)) ∧ a.block < q ∧ ¬ B a.block ∧ At8 w a cs ∧ RdV m w B t (.agg cs.toArray)
def IsPv (q m : Nat) (t : VT) (off : Nat) : VP := ⟨PPv q m t off, fun v w B w' B' h ⟨a, cs, e, h1, h2, h3, h4⟩ => by
  have := h3.tn (h.tn q) h1 h2
  exact ⟨a, cs, e, h1, this.2, this.1, RdV.tn (h.tn m) t _ h4⟩⟩
/-- A row of values of one's own (block g, at least q) that reads as l; what is within lies below m. -/
def PNv (g : Option Nat) (q m : Nat) (l : List VT) (v : Value) (w : World) (B : Bx) : Prop := (∀ b, g = some b → ¬ B b) ∧ v.ownBlock = g ∧ ∃ css : List (List Value), css.length = l.length ∧ (∀ (j : Nat) (cs : List Value), css[j]? = some cs → cs.length = 8 ∧ ∃ t, l[j]? = some t ∧ RdV m w B t (.agg cs.toArray)) ∧ w.ownsRow q 37 8 v l.length css.flatten
theorem ownsRow_lt {w : World} {q e s n : Nat} {v : Value} {xs : List Value} (h : w.ownsRow q e s v n xs) {b : Nat} (hb : v.ownBlock = some b) : q ≤ b ∧ b < w.heap.size := by
  rcases h.2 with ⟨rfl, _⟩ | ⟨g, cap, cur, rfl, h1, h2, _⟩
  · cases hb
  · injection hb with hb
    subst hb
    exact ⟨h1, (Array.getElem?_eq_some_iff.1 h2).1⟩
theorem ownsRow_same {w w' : World} {q e s n : Nat} {v : Value} {xs : List Value} (h : w.ownsRow q e s v n xs) (hs : ∀ b, v.ownBlock = some b → w'.heap[b]? = w.heap[b]?) : w'.ownsRow q e s v n xs := by
  refine ⟨h.1, ?_⟩
  rcases h.2 with h2 | ⟨g, cap, cur, rfl, h1, h2, h3⟩
  · exact .inl h2
  · exact .inr ⟨g, cap, cur, rfl, h1, (hs g rfl).trans h2, h3⟩
theorem PNv.st {g : Option Nat} {q m : Nat} {l : List VT} (v : Value) (w : World) (B : Bx) (w' : World) (B' : Bx) (h : Mv w B w' B') (hp : PNv g q m l v w B) : PNv g q m l v w' B' := by
  obtain ⟨hb, hg, css, h1, h2, h3⟩ := hp
  refine ⟨fun b hb2 h4 => hb b hb2 (h.box b (ownsRow_lt h3 (hg.trans hb2)).2 h4), hg, css, h1, fun j cs hj => ?_, ownsRow_same h3 fun b hb2 => ?_⟩
  · obtain ⟨h4, t, h5, h6⟩ := h2 j cs hj
    exact ⟨h4, t, h5, RdV.tn (h.tn m) t _ h6⟩
  · exact (h.same b (ownsRow_lt h3 hb2).2).resolve_right fun h4 => hb b (hg.symm.trans hb2) h4.1
def IsNv (g : Option Nat) (q m : Nat) (l : List VT) : VP := ⟨PNv g q m l, PNv.st⟩
theorem kept_tn {g : Option Nat} {m q : Nat} (hq : q ≤ m) {w w' : World} {B : Bx} (hb : ∀ i, i < w.heap.size → g ≠ some i → w'.heap[i]? = w.heap[i]?) (hg : ∀ b, g = some b → m ≤ b ∧ ¬ B b) : Tn q w B w' B :=
  ⟨fun k hk hs => .inl (hb k hs fun e => by have := (hg k e).1; omega), fun _ _ _ h => h⟩
theorem kept_vs {g : Option Nat} {q q2 m : Nat} {l : List VT} (hq : q2 ≤ q) (hm : m ≤ q) : Kept g q (.val (IsVs q2 m l)) := fun v w w' B hs hb hg h => PVs.tn (kept_tn hq hb hg) (kept_tn hm hb hg) h
/-- A row of one's own as a list. -/
theorem PNv.list {g : Option Nat} {q m : Nat} {l : List VT} {v : Value} {w : World} {B : Bx} (h : PNv g q m l v w B) (hl : l.length ≤ BIG) : PVs w.heap.size m l v w B := by
  obtain ⟨hb, hg, css, h1, h2, h3⟩ := h
  have h30 := h3
  rcases h3.2 with ⟨rfl, h4⟩ | ⟨b, cap, cur, rfl, h4, h5, h6, h7, h8, h9⟩
  · refine ⟨none, 0, by rw [h4], hl, fun h0 => by omega⟩
  · refine ⟨_, cap, rfl, hl, fun h0 => ⟨⟨b, 0, none⟩, rfl, (ownsRow_lt h30 rfl).2, hb b (hg.symm.trans rfl), fun j t hj => ?_⟩⟩
    have hjl : j < css.length := by rw [h1]; exact (List.getElem?_eq_some_iff.1 hj).1
    obtain ⟨h10, t2, h11, h12⟩ := h2 j css[j] (List.getElem?_eq_getElem hjl)
    obtain rfl : t = t2 := by rw [hj] at h11; injection h11
    refine ⟨css[j], ⟨h10, fun i u hi => ?_⟩, h12⟩
    have hi8 : i < 8 := by rw [← h10]; exact (List.getElem?_eq_some_iff.1 hi).1
    have hfl : ∀ (L : List (List Value)), (∀ c ∈ L, c.length = 8) → ∀ (j i : Nat) (c : List Value) (u : Value), L[j]? = some c → c[i]? = some u → L.flatten[8 * j + i]? = some u := by
      intro L
      induction L with
      | nil => intro _ j i c u hj _; simp at hj
      | cons c0 L ih =>
        intro hL j i c u hj hi
        have hc0 := hL c0 (List.mem_cons_self ..)
        cases j with
        | zero =>
          simp at hj
          subst hj
          rw [List.flatten_cons, Nat.mul_zero, Nat.zero_add, List.getElem?_append_left (by exact (List.getElem?_eq_some_iff.1 hi).1)]
          exact hi
        | succ j =>
          rw [List.flatten_cons, List.getElem?_append_right (by omega), hc0, show 8 * (j + 1) + i - 8 = 8 * j + i by omega]
          exact ih (fun c hc => hL c (List.mem_cons_of_mem _ hc)) j i c u (by simpa using hj) hi
    have hu := hfl css (fun c hc => by
      obtain ⟨j2, hj2⟩ := List.getElem?_of_mem hc
      exact (h2 j2 c hj2).1) j i css[j] u (List.getElem?_eq_getElem hjl) hi
    have hc := World.ownsRow.cells h30 (g := b) rfl (8 * j + i) u hu
    rwa [addr_add]
theorem nil_Nv {q m : Nat} (w : World) (B : Bx) : (IsNv none q m []).p (.slice none 0 0) w B := ⟨fun b hb => (by cases hb), rfl, [], rfl, fun j cs hj => (by simp at hj), rfl, .inl ⟨rfl, rfl⟩⟩
end Go.Proofs.YtoimhjcpeifegaaGreatDoor

