/- Contracts of functions, and plain facts, part 36. -/
import Derived.Test.YtbcbmkeeoognpaaGreatDoorCards
import Derived.Lib.LaidTab
import Derived.Test.YtbcbmkeeoognpaaGreatDoorPk5
import Derived.Test.YtbcbmkeeoognpaaGreatDoorPk6
import Derived.Test.YtbcbmkeeoognpaaGreatDoorPk7
import Derived.Test.YtbcbmkeeoognpaaGreatDoorPk8
import Derived.Test.YtbcbmkeeoognpaaGreatDoorPk11
import Derived.Test.YtbcbmkeeoognpaaGreatDoorPk13
import Derived.Test.YtbcbmkeeoognpaaGreatDoorPk20
import Derived.Test.YtbcbmkeeoognpaaGreatDoorPk23
import Derived.Test.YtbcbmkeeoognpaaGreatDoorPk32
import Derived.Test.YtbcbmkeeoognpaaGreatDoorPk33
import Derived.Test.YtbcbmkeeoognpaaGreatDoorPk34
import Derived.Test.YtbcbmkeeoognpaaGreatDoorPk35
set_option linter.unusedVariables false
set_option linter.unusedSimpArgs false




/- Lists and whole numbers that are memory of their own: as words on values, and the base contracts that answer such. -/
set_option maxRecDepth 50000
namespace Go.Proofs.YtbcbmkeeoognpaaGreatDoor
open Go Go.RowKit

/-- A list in a block of its own. -/
def Hdd : VP := ⟨fun v w B => ∃ g, PHd g v w B, fun v w B w' B' h ⟨g, hp⟩ => ⟨g, PHd.st v w B w' B' h hp⟩⟩
def PHdI (g : Option Nat) (v : Value) (w : World) (B : Bx) : Prop := ∃ b sl, v = .agg #[.bool b, sl] ∧ PHd g sl w B
theorem PHdI.st {g : Option Nat} (v : Value) (w : World) (B : Bx) (w' : World) (B' : Bx) (h : Mv w B w' B') (hp : PHdI g v w B) : PHdI g v w' B' := by
  obtain ⟨b, sl, e, hp⟩ := hp
  exact ⟨b, sl, e, PHd.st sl w B w' B' h hp⟩
abbrev IsCo (V : Int) : VP := VP.and (IsC V) Hdd
theorem nil_hd (w : World) (B : Bx) : PHd none (.slice none 0 0) w B := ⟨none, 0, 0, rfl, Nat.le_refl _, by omega, by omega, fun _ => rfl, fun h => absurd h (by omega)⟩
theorem co_of_own {w w' : World} {B : Bx} {ad : Option Addr} {n c : Nat} {V : Int} {k : Nat} (hB : Own1 B w) (o : Own w.heap.size w' 44 .u32 ad n c (dg 4294967296 V)) (hf : Fits V) (hV : 0 ≤ V) : (IsCo V).p (.slice ad n c) w' B := by
  have hlim := lim_eq
  obtain ⟨q, hq, hf⟩ := hf
  have hl := Nat.le_trans (own_len o hf hV) hq
  obtain ⟨g, _, h2, _⟩ := PHd.of_own (Nat.zero_le _) hB o (by omega)
  exact ⟨⟨ad, n, c, rfl, ⟨o.le, o.rds⟩, hl, hV⟩, g, h2⟩
/-- All old blocks. -/
abbrev Old (w : World) : Bx := fun k => k < w.heap.size
theorem old_own (w : World) : Own1 (Old w) w := fun _ h => h
theorem PHd.fresh {g : Option Nat} {v : Value} {w w' : World} {B : Bx} (h : PHd g v w' (Old w)) (hB : Own1 B w) : (∀ b, g = some b → w.heap.size ≤ b) ∧ PHd g v w' B := by
  obtain ⟨ad, n, c, e, h1, h2, h3, h4, h5⟩ := h
  refine ⟨fun b hb => ?_, ad, n, c, e, h1, h2, h3, h4, fun hc => ?_⟩
  · by_cases hc : 0 < c
    · obtain ⟨x, cs, e1, e2, e3, _⟩ := h5 hc
      rw [hb] at e1
      have e1 : b = x := by injection e1
      subst e1
      exact Nat.le_of_not_lt e3
    · rw [h4 (by omega)] at hb; cases hb
  · obtain ⟨x, cs, e1, e2, e3, e4, e5⟩ := h5 hc
    exact ⟨x, cs, e1, e2, fun h => e3 (hB x h), e4, e5⟩
theorem Con.fresh {P : Program} {f : FuncId} {Ds : List VP} {V : Int} (h : Con P f Ds (IsCo V)) (hfree : ∀ vs w B B', VAll vs Ds w B → VAll vs Ds w B') : ConF P f Ds (fun lo => IsFr lo (IsC V)) :=
  ⟨h.enters, fun lo vs w B hlo hB hV => (h.calls vs w (Old w) (old_own w) (hfree _ _ _ _ hV)).mono fun e w' ⟨v, e1, ⟨h1, g, h2⟩, h3⟩ =>
    ⟨v, e1, ⟨g, fun b hb => Nat.le_trans hlo ((h2.fresh hB).1 b hb), (h2.fresh hB).2, h1⟩, h3⟩⟩
theorem PHdI.fresh {g : Option Nat} {v : Value} {w w' : World} {B : Bx} (h : PHdI g v w' (Old w)) (hB : Own1 B w) : (∀ b, g = some b → w.heap.size ≤ b) ∧ PHdI g v w' B := by
  obtain ⟨b, sl, e, h⟩ := h
  exact ⟨(h.fresh hB).1, b, sl, e, (h.fresh hB).2⟩
theorem con_natnormO (V : Int) : Con Tryz.prog 62 [IsM V] (IsCo V) := by
  refine ⟨fun _ _ => by go_simp, fun vs w B hB hV => ?_⟩
  match vs, hV with
  | [v], ⟨h1, _⟩ =>
    have hf := PM.fit h1
    have h0 := PM.nonneg h1
    obtain ⟨ad, n, c, rfl, k, l⟩ := h1
    obtain ⟨xs, r1, r2, rfl⟩ := k.row
    have hlim := lim_eq
    refine (norm_calls ad n c xs w (by omega) k.le r1 r2).mono ?_
    rintro e w' ⟨ad2, n2, c2, rfl, o, hb⟩
    exact ⟨_, rfl, co_of_own (k := 0) hB o hf h0, hb⟩
theorem con_natshlO (V n : Int) (hn : -9223372036854775808 ≤ n ∧ n < 9223372036854775808) (hf : Fits (shlNum V n)) (h0 : 0 ≤ shlNum V n) : Con Tryz.prog 59 [IsM V, Lit (.int .i64 n)] (Tup [IsCo (shlNum V n), IsB (shlOk V n)]) := by
  refine ⟨fun _ _ => by go_simp, fun vs w B hB hV => ?_⟩
  match vs, hV with
  | [v, u], ⟨h1, h2, _⟩ =>
    obtain ⟨ad, nn, c, rfl, k, l⟩ := h1
    obtain rfl := h2
    obtain ⟨xs, r1, r2, rfl⟩ := k.row
    have hlim := lim_eq
    refine (shl_calls ad nn c xs n w (by omega) k.le r1 r2 hn).mono ?_
    rintro e w' ⟨ad2, n2, c2, rfl, o, hb⟩
    exact ⟨_, rfl, ⟨[.slice ad2 n2 c2, .bool _], rfl, co_of_own (k := 0) hB o hf h0, rfl, trivial⟩, hb⟩
theorem con_nataddO (V U : Int) (hf : Fits (V + U)) : Con Tryz.prog 55 [IsM V, IsM U] (IsCo (V + U)) := by
  refine ⟨fun _ _ => by go_simp, fun vs w B hB hV => ?_⟩
  match vs, hV with
  | [v, u], ⟨h1, h2, _⟩ =>
    have hV0 := PM.nonneg h1
    have hU0 := PM.nonneg h2
    obtain ⟨ad, n, c, rfl, k, l⟩ := h1
    obtain ⟨bd, m, c2, rfl, k2, l2⟩ := h2
    obtain ⟨xs, r1, r2, rfl⟩ := k.row
    obtain ⟨ys, s1, s2, rfl⟩ := k2.row
    have hlim := lim_eq
    refine (add_calls ad bd n m c c2 xs ys w (by omega) (by omega) k.le k2.le r1 s1 r2 s2).mono ?_
    rintro e w' ⟨ad3, n3, c3, rfl, o, hb⟩
    exact ⟨_, rfl, co_of_own (k := 0) hB o hf (by omega), hb⟩
theorem con_natmulO (V U : Int) (hf : Fits (V * U)) : Con Tryz.prog 56 [IsM V, IsM U] (IsCo (V * U)) := by
  refine ⟨fun _ _ => by go_simp, fun vs w B hB hV => ?_⟩
  match vs, hV with
  | [v, u], ⟨h1, h2, _⟩ =>
    have hV0 := PM.nonneg h1
    have hU0 := PM.nonneg h2
    obtain ⟨ad, n, c, rfl, k, l⟩ := h1
    obtain ⟨bd, m, c2, rfl, k2, l2⟩ := h2
    obtain ⟨xs, r1, r2, rfl⟩ := k.row
    obtain ⟨ys, s1, s2, rfl⟩ := k2.row
    have hlim := lim_eq
    refine (mul_calls ad bd n m c c2 xs ys w (by omega) k.le k2.le r1 s1 r2 s2).mono ?_
    rintro e w' ⟨ad3, n3, c3, rfl, o, hb⟩
    exact ⟨_, rfl, co_of_own (k := 0) hB o hf (Int.mul_nonneg hV0 hU0), hb⟩
theorem fits_sub {V U : Int} (hf : Fits V) (h0 : 0 ≤ V) (hU : 0 ≤ U) : Fits (if U ≤ V then V - U else 0) := by
  obtain ⟨q, hq, hf⟩ := hf
  exact ⟨q, hq, hf.le (by split <;> omega)⟩
theorem dg_sub (V U : Int) : dg 4294967296 (V - U) = dg 4294967296 (if U ≤ V then V - U else 0) := by
  split
  · rfl
  · unfold dg
    rw [show (V - U).toNat = 0 by omega]
    rfl
theorem con_natsubO (V U : Int) : Con Tryz.prog 58 [IsM V, IsM U] (Tup [IsCo (if U ≤ V then V - U else 0), IsB (decide (U ≤ V))]) := by
  refine ⟨fun _ _ => by go_simp, fun vs w B hB hV => ?_⟩
  match vs, hV with
  | [v, u], ⟨h1, h2, _⟩ =>
    have hf := PM.fit h1
    have hV0 := PM.nonneg h1
    have hU0 := PM.nonneg h2
    obtain ⟨ad, n, c, rfl, k, l⟩ := h1
    obtain ⟨bd, m, c2, rfl, k2, l2⟩ := h2
    obtain ⟨xs, r1, r2, rfl⟩ := k.row
    obtain ⟨ys, s1, s2, rfl⟩ := k2.row
    have hlim := lim_eq
    refine (nsub_calls ad bd n m c c2 xs ys w (by omega) (by omega) k.le k2.le r1 s1 r2 s2).mono ?_
    rintro e w' ⟨ad3, n3, c3, rfl, o, hb⟩
    rw [dg_sub] at o
    exact ⟨_, rfl, ⟨[.slice ad3 n3 c3, .bool _], rfl, co_of_own (k := 0) hB o (fits_sub hf hV0 hU0) (by split <;> omega), rfl, trivial⟩, hb⟩
section
variable {need : List (Tmp × FD)} {d : Option Tmp} {ty : TypeId} {pos : String} {af : Array Edge} {g : Option (Nat × Bool)} {x y : Operand}
end
/-- A word that does not ask which blocks are variables. -/
def Free (D : VP) : Prop := ∀ v w B B', D.p v w B → D.p v w B'
def FreeL : List VP → Prop
  | [] => True
  | D :: Ds => Free D ∧ FreeL Ds
theorem FreeL.all : ∀ {Ds : List VP}, FreeL Ds → ∀ vs w B B', VAll vs Ds w B → VAll vs Ds w B'
  | [], _, [], _, _, _, _ => trivial
  | [], _, _ :: _, _, _, _, h => h.elim
  | D :: Ds, _, [], _, _, _, h => h.elim
  | D :: Ds, ⟨h1, h2⟩, v :: vs, w, B, B', ⟨h3, h4⟩ => ⟨h1 v w B B' h3, FreeL.all h2 vs w B B' h4⟩
theorem free_lit {u : Value} : Free (Lit u) := fun _ _ _ _ h => h
theorem free_M {V : Int} : Free (IsM V) := fun v w B B' h => show PM V v w B' from (show PM V v w B from h)
end Go.Proofs.YtbcbmkeeoognpaaGreatDoor

