/- Contracts of functions, and plain facts, part 31. -/
import Derived.Test.YtbcbmkeeoognpaaGreatDoorPk13
import Derived.Test.YtbcbmkeeoognpaaGreatDoorPk20
import Derived.Test.YtbcbmkeeoognpaaGreatDoorPk21
import Derived.Test.YtbcbmkeeoognpaaGreatDoorPk29
set_option linter.unusedVariables false
set_option linter.unusedSimpArgs false


/- Arrays of plain values in variables. -/
set_option maxRecDepth 50000
namespace Go.Proofs.YtbcbmkeeoognpaaGreatDoor
open Go Go.RowKit

abbrev AL (l : List Value) : VP := Lit (.agg l.toArray)
section
variable {P : Program} {need : List (Tmp × FD)} {d : Option Tmp} {ty : TypeId} {pos : String} {af : Array Edge} {g : Option (Nat × Bool)} {x y x0 x1 x2 x3 : Operand} {D : VP}
theorem ok_allocL {t : TypeId} {n : Nat} {l : List Value} (hz : (P.info? t).map (·.zero) = some (some (.agg l.toArray))) (hn : l.toArray.size = n) : OpOk P ⟨d, .alloc t, ty, pos, af, g⟩ need (.box t n (AL l)) true := ok_alloc hz hn fun w B => rfl
theorem ok_idxAL {t : TypeId} {n : Nat} {i : Int} (j : Nat) (hr : ∀ b w, (Instr.indexAt t (.pointer (some ⟨b, 0, none⟩)) (.int .i64 i)).run P w = .ok (.pointer (some ⟨b, j, none⟩)) w) (h : Opd need x (.box t n D)) (h' : Opd need y (.val (Lit (.int .i64 i)))) : OpOk P ⟨d, .indexAddr t x y, ty, pos, af, g⟩ need (.ptr t n D j) false :=
  OpOk.value fun a w B hF => by
    obtain ⟨b, cs, h1, h2, h3, h4, h5, h6⟩ := h a w B hF
    have e2 : a.eval y = .int .i64 i := h' a w B hF
    refine ⟨.pointer (some ⟨b, j, none⟩), ?_, b, cs, rfl, h2, h3, h4, h5, h6⟩
    simp only [execOp, h1, e2, Sem.run_bind, hr b w, Result.andThen_ok, Sem.run_pure]
theorem ok_loadAL {t t2 : TypeId} {n j : Nat} {l : List Value} {u : Value} (hs : ∀ w : World, (isAgg t2).run P w = .ok false w) (hj : l[j]? = some u) (hn : j < n) (h : Opd need x (.ptr t n (AL l) j)) : OpOk P ⟨d, .load t2 x, ty, pos, af, g⟩ need (.val (Lit u)) false :=
  ok_loadPtr1 hs h hn fun cs v w B e hv => by
    injection e with e
    subst e
    rw [List.getElem?_toArray, hj] at hv
    injection hv with hv
    exact hv.symm
end
section
variable {P : Program} {need : List (Tmp × FD)} {d : Option Tmp} {ty : TypeId} {pos : String} {af : Array Edge} {g : Option (Nat × Bool)} {x : Operand} {D : VP}
end
/-- What a store into a variable leaves as it is. -/
def KeptV2 (Bs : Nat) (f : FD) : Prop := ∀ (v : Value) (w w' : World) (B : Bx) (b : Nat), Bs ≤ b → B b → (f.isBox = true → v ≠ .pointer (some ⟨b, 0, none⟩)) → Only b w w' → f.p v w B → f.p v w' B
inductive KeepV (Bs : Nat) : List (Tmp × FD) → Prop where
  | nil : KeepV Bs []
  | cons {s : Tmp} {f : FD} {l : List (Tmp × FD)} (h : KeptV2 Bs f) (t : KeepV Bs l) : KeepV Bs ((s, f) :: l)
theorem KeepV.all {Bs : Nat} {l : List (Tmp × FD)} (h : KeepV Bs l) : ∀ x ∈ l, KeptV2 Bs x.2 := by
  induction h with
  | nil => intro x hx; cases hx
  | cons h t ih =>
    intro x hx
    rcases List.mem_cons.1 hx with rfl | hx
    · exact h
    · exact ih x hx
theorem keptV_lit {Bs : Nat} {u : Value} : KeptV2 Bs (.val (Lit u)) := fun _ _ _ _ _ _ _ _ _ h => h
theorem keptV_sz {Bs q : Nat} : KeptV2 Bs (.val (Sz q)) := fun _ _ _ _ _ _ _ _ o h => by
  show q ≤ _
  rw [o.size]; exact h
theorem keptV_book {Bs n Bs2 : Nat} {t : TypeId} {Ow : Nat → Prop} {lo hi cnt : Nat} {ex : List (Option Nat)} : KeptV2 Bs (.box t n (IsBook Bs2 Ow lo hi ex cnt)) := fun v w w' B b hb hB hv o ⟨c, cs, k1, k2, k3, k4, k5, rv, L, e1, h1, h2, h3, h4, h5⟩ => by
  refine ⟨c, cs, k1, k2, by rw [o.size]; exact k3, (o.rest c fun e => hv rfl (by rw [k1, e])).trans k4, k5, rv, L, e1, h1, ⟨h2.1, ?_⟩, h3, h4, fun q hq => ⟨⟨(h5 q hq).1.le, (h5 q hq).1.big, (h5 q hq).1.cap, fun hc => ?_⟩, (h5 q hq).2⟩⟩
  · rcases h2.2 with h6 | ⟨g2, cap, cur, e1, e2, e3, e4⟩
    · exact .inl h6
    · exact .inr ⟨g2, cap, cur, e1, e2, (o.rest g2 fun e5 => (h3 g2 (by rw [e1]; rfl)).1 (e5 ▸ hB)).trans e3, e4⟩
  · obtain ⟨x, cs2, f1, f2, f3, f4⟩ := (h5 q hq).1.row hc
    obtain ⟨y, j1, j2, _⟩ := (h5 q hq).2 hc
    rw [f1] at j1
    have j3 : x = y := by injection j1
    subst j3
    exact ⟨x, cs2, f1, f2, (o.rest x fun e => j2 (e ▸ hB)).trans f3, f4⟩
section
variable {P : Program} {ops : Array Oper} {Q : Exit → Act → World → Prop} {N : Nat} {w0 : World} {B0 : Bx} {a : Act} {w : World} {B : Bx} {l : List (Tmp × FD)} {bxs : List Tmp}
theorem store_any {i : Nat} {K : Act → World → Prop} {t : TypeId} {n : Nat} {p : Tmp} {x : Operand} {D0 : VP} {u : List Value} {ty : TypeId} {pos : String} {af : Array Edge} (kp : Nat) (is : List Nat) {ks : List (Tmp × FD)}
    (H : St N w0 B0 a w B l bxs) (ho : ops[i]? = some ⟨none, .store t (.tmp p) x, ty, pos, af, none⟩) (T : TyOk P t n) (hp : l[kp]? = some (p, .box t n D0)) (hx : Opd l x (.val (AL u))) (hn : u.length = n) (h1 : u.all (·.oneCell') = true)
    (hks : is.map (fun i => l[i]?) = ks.map some) (hc : (bxs.contains p && ks.all fun y => y.2.isVal || (y.1 != p && y.2.isBox && bxs.contains y.1)) = true) (hk : KeepV w0.heap.size ks)
    (hK : ∀ w, St N w0 B0 a w B ((p, .box t n (AL u)) :: ks) bxs → K a w) : wpOp P ops Q i K a w := by
  simp only [Bool.and_eq_true, List.all_eq_true, Bool.or_eq_true, bne_iff_ne, ne_eq] at hc
  obtain ⟨hpb, hall⟩ := hc
  rw [List.contains_iff_mem] at hpb
  obtain ⟨b, cs0, e1, hB, hlt, hrow, hsz, hD0⟩ := H.fc.get kp hp
  have hxv : a.eval x = .agg u.toArray := hx a w B H.fc
  obtain ⟨c, k1, k2, k3⟩ := H.bx p hpb
  rw [e1] at k1
  have e4 : b = c := by injection k1 with k1; injection k1 with k1; injection k1
  subst e4
  have hone1 : (u.toArray).all (·.oneCell') = true := by simpa using h1
  have hrun : (storeVar t ⟨b, 0, none⟩ (.agg u.toArray)).run P w = .ok () (w.setRow b u.toArray) := run_storeVar_row w b t t cs0 u.toArray hrow (by rw [T.size, ← hn]; simp) (by rw [hsz, ← hn]; simp) hone1
  have hO : Only b w (w.setRow b u.toArray) := ⟨rfl, rfl, rfl, by simp [World.setRow], fun i hi => by simp [World.setRow, Array.getElem?_modify, Ne.symm hi]⟩
  unfold wpOp
  simp only [ho]
  rw [if_pos (by simp [Region.wanted])]
  refine .inl ?_
  unfold Oper.wp
  have hr2 : (execOp a.eval ⟨none, .store t (.tmp p) x, ty, pos, af, none⟩).run P w = .ok .skip (w.setRow b u.toArray) := by
    have e4 : a.eval (.tmp p) = .pointer (some ⟨b, 0, none⟩) := e1
    simp only [execOp, e4, hxv, Instr.storeAt, Instr.sureAddr, Sem.run_bind, Sem.run_pure, Result.andThen_ok, hrun]
  rw [hr2]
  show K a (w.setRow b u.toArray)
  have hs2 := setRow_heap w b cs0 u.toArray t (0, 0) hrow
  refine hK _ ⟨H.df, H.sz, Fct.of_all fun z hz => ?_, fun z hz => ?_, H.ap, H.bel.trans ⟨hO.os, hO.tape, hO.output, Nat.le_of_eq hO.size.symm, fun k hk => hO.rest k (by omega)⟩, fun k hk2 => by rw [hO.size]; exact H.own k hk2, H.own0⟩
  · rcases List.mem_cons.1 hz with rfl | hz
    · exact ⟨b, u.toArray, e1, hB, by rw [hO.size]; exact hlt, hs2, by simp [hn], rfl⟩
    · have hm : z ∈ l := by
        have h2 : some z ∈ is.map (fun i => l[i]?) := by rw [hks]; exact List.mem_map.2 ⟨z, hz, rfl⟩
        obtain ⟨i, _, hi⟩ := List.mem_map.1 h2
        exact List.mem_of_getElem? hi
      refine hk.all z hz _ _ _ _ b k3 hB (fun hb e => ?_) hO (H.fc.all z hm)
      rcases hall z hz with q3 | ⟨⟨q2, q4⟩, q5⟩
      · cases hf : z.2 with
        | val E => rw [hf] at hb; simp [FD.isBox] at hb
        | ptr t n E off => rw [hf] at q3; simp [FD.isVal] at q3
        | box t n E => rw [hf] at q3; simp [FD.isVal] at q3
      · exact H.ap z.1 (List.contains_iff_mem.1 q5) p hpb q2 (e.trans e1.symm)
  · obtain ⟨c2, k1, k2, k3⟩ := H.bx z hz
    exact ⟨c2, k1, by rw [hO.size]; exact k2, k3⟩
end
end Go.Proofs.YtbcbmkeeoognpaaGreatDoor


