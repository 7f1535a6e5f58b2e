/- Contracts of functions, and plain facts, part 41. -/
import Derived.Test.YtbcbmkeeoognpaaGreatDoorPk40
set_option linter.unusedVariables false
set_option linter.unusedSimpArgs false
/- A copy's limb is written over; the answers of seven calls, apart. -/
set_option maxRecDepth 50000
namespace Go.Proofs.YtbcbmkeeoognpaaGreatDoor
open Go Go.RowKit

/-- The first k places count. -/
def cntK (xs : List Int) (k : Nat) : List Int := (List.range k).map (fun i => ((i + 1 : Nat) : Int)) ++ xs.drop k
theorem cntK_len (xs : List Int) (k : Nat) (hk : k ≤ xs.length) : (cntK xs k).length = xs.length := by unfold cntK; simp; omega
theorem cntK_zero (xs : List Int) : cntK xs 0 = xs := by simp [cntK]
theorem cntK_set (xs : List Int) (k : Nat) (hk : k < xs.length) : (cntK xs k).set k ((k + 1 : Nat) : Int) = cntK xs (k + 1) := by
  unfold cntK
  rw [List.set_append_right _ _ (by simp), List.length_map, List.length_range, Nat.sub_self, List.range_succ, List.map_append, List.append_assoc]
  congr 1
  rw [List.drop_eq_getElem_cons hk]
  rfl
theorem fit_listN {n : Nat} {xs : List Int} (h : xs.length = n) (hd : Dig 4294967296 xs) (hn : n ≤ 1024) : FitK 1024 (val 4294967296 xs) := by
  have h1 := val_lt (show (0 : Int) < 4294967296 by omega) hd
  have h2 := val_nonneg (show (0 : Int) < 4294967296 by omega) hd
  rw [h] at h1
  exact FitK.mono (k := n) (by unfold FitK; omega) hn
theorem cntK_dig {xs : List Int} (hd : Dig 4294967296 xs) (k : Nat) (hk : k ≤ 1024) : Dig 4294967296 (cntK xs k) := by
  intro y hy
  rcases List.mem_append.1 hy with h | h
  · obtain ⟨i, hi, rfl⟩ := List.mem_map.1 h
    rw [List.mem_range] at hi
    omega
  · exact hd y (List.mem_of_mem_drop h)
theorem Aps.mono {lo m m2 : Nat} {gs : List (Option Nat)} (h : Aps lo m gs) (hm : m ≤ m2) : Aps lo m2 gs := ⟨h.len, fun j b hb => ⟨(h.lo j b hb).1, Nat.lt_of_lt_of_le (h.lo j b hb).2 hm⟩, h.ap⟩
theorem a7e_zero {lo : Nat} {Vs : List Int} {w : World} {B : Bx} (v : Value) (h : A7s.p v w B) : (A7e lo Vs 0).p v w B := by
  have h2 := h
  obtain ⟨l, e, _⟩ := h2
  exact ⟨h, l, e, fun j hj => by omega⟩
theorem a7v_of {lo : Nat} {gs : List (Option Nat)} {Vs : List Int} (hl : gs.length = 7) (hlo : ∀ j b, gs.getD j none = some b → lo ≤ b) (hap : ∀ i j b, i < 7 → j < 7 → i ≠ j → gs.getD i none = some b → gs.getD j none ≠ some b) (v : Value) (w : World) (B : Bx) (h : (A7 gs Vs).p v w B) : (A7v lo Vs).p v w B := by
  refine ⟨gs, ⟨hl, fun j b hb => ⟨hlo j b hb, ?_⟩, hap⟩, h⟩
  obtain ⟨_, l, e, h2⟩ := h
  have hj : j < 7 := by
    rcases Nat.lt_or_ge j 7 with h | h
    · exact h
    · rw [List.getD_eq_getElem?_getD, List.getElem?_eq_none (by omega)] at hb; cases hb
  obtain ⟨u, e1, h3⟩ := h2 j hj
  exact h3.1.lt b hb
theorem St.fewerF {N : Nat} {w0 : World} {B0 : Bx} {a : Act} {w : World} {B : Bx} {l : List (Tmp × FD)} {bxs : List Tmp} (H : St N w0 B0 a w B l bxs) (is : List Nat) {l' : List (Tmp × FD)} (hl : is.map (fun i => l[i]?) = l'.map some) : St N w0 B0 a w B l' bxs := by
  refine ⟨H.df, H.sz, Fct.of_all fun x hx => ?_, H.bx, H.ap, H.bel, H.own, H.own0⟩
  have h2 : some x ∈ is.map (fun i => l[i]?) := by rw [hl]; exact List.mem_map.2 ⟨x, hx, rfl⟩
  obtain ⟨i, _, hi⟩ := List.mem_map.1 h2
  exact H.fc.all x (List.mem_of_getElem? hi)
theorem St.fewerN {N : Nat} {w0 : World} {B0 : Bx} {a : Act} {w : World} {B : Bx} {l : List (Tmp × FD)} {bxs : List Tmp} (H : St N w0 B0 a w B l bxs) (is : List Nat) {l' : List (Tmp × FD)} {bxs' : List Tmp} (hl : is.map (fun i => l[i]?) = l'.map some) (hb : (bxs'.all fun s => bxs.contains s) = true) : St N w0 B0 a w B l' bxs' := by
  have hs : ∀ s, s ∈ bxs' → s ∈ bxs := fun s h => List.contains_iff_mem.1 (List.all_eq_true.1 hb s h)
  refine ⟨H.df, H.sz, Fct.of_all fun x hx => ?_, fun s h => H.bx s (hs s h), fun s h t ht => H.ap s (hs s h) t (hs t ht), H.bel, H.own, H.own0⟩
  have h2 : some x ∈ is.map (fun i => l[i]?) := by rw [hl]; exact List.mem_map.2 ⟨x, hx, rfl⟩
  obtain ⟨i, _, hi⟩ := List.mem_map.1 h2
  exact H.fc.all x (List.mem_of_getElem? hi)
section
variable {P : Program} {ops : Array Oper} {Q : Exit → Act → World → Prop} {N : Nat} {w0 : World} {B0 : Bx} {a : Act} {w : World} {B : Bx} {l : List (Tmp × FD)} {bxs : List Tmp}
theorem tn_store {i j : Nat} {rest : List Nat} {g : Option Nat} {n k : Nat} {xs : List Int} {z val : Int} {s px sx xi y : Tmp} {ty1 ty2 : TypeId} {pos1 pos2 : String} {af1 af2 : Array Edge} (kx kv ki ky : Nat) (is : List Nat) {ks : List (Tmp × FD)} (hP : P = Tryz.prog)
    (H : St N w0 B0 a w B l bxs) (hoi : ops[i]? = some ⟨some s, .indexAddr 23 (.tmp px) (.tmp xi), ty1, pos1, af1, none⟩) (hoj : ops[j]? = some ⟨none, .store 44 (.tmp s) (.tmp y), ty2, pos2, af2, none⟩)
    (hx : l[kx]? = some (px, .val (IsHd g (IsTN n xs)))) (hv : l[kv]? = some (sx, .val (IsHd g (IsTN n xs)))) (hi : l[ki]? = some (xi, .val (Lit (.int .i64 z)))) (hz : z = k) (hk : k < n) (hy : l[ky]? = some (y, .val (Lit (.int .u32 val)))) (hval : 0 ≤ val ∧ val < 4294967296)
    (hg : ∀ b, g = some b → w0.heap.size ≤ b) (hks : is.map (fun i => l[i]?) = ks.map some) (hc : (decide (s < N) && (!bxs.contains s) && decide (sx ≠ s) && decide (y ≠ s) && ks.all fun y => y.1 != s) = true) (hkp : KeepO g ks)
    (hK : ∀ a w, St N w0 B0 a w B ((sx, .val (IsHd g (IsTN n (List.set xs k val)))) :: ks) bxs → wpOps P ops Q rest a w) : wpOps P ops Q (i :: j :: rest) a w := by
  subst hP
  simp only [Bool.and_eq_true, List.all_eq_true, Bool.not_eq_true', decide_eq_true_eq, bne_iff_ne, ne_eq] at hc
  obtain ⟨⟨⟨⟨hsN, hsb⟩, hsx⟩, hys⟩, hall⟩ := hc
  obtain ⟨⟨ad, n1, c, e1, g1, k2, g3, g4, g5⟩, b, e2, ht⟩ := H.fc.get kx hx
  obtain ⟨⟨ad', n1', c', e1', g1', k2', g3', g4', g5'⟩, b', e2', ht'⟩ := H.fc.get kv hv
  rw [e1] at e2
  rw [e1'] at e2'
  injection e2 with j1 j2 j3
  injection e2' with i1 i2 i3
  have j2 := j2.symm
  have j3 := j3.symm
  have i2 := i2.symm
  have i3 := i3.symm
  subst j1 j2 j3 i1 i2 i3
  obtain ⟨bg, cs, f1, f2, f3, f4, f5⟩ := g5 (by omega)
  obtain ⟨bg', cs', f1', f2', f3', f4', f5'⟩ := g5' (by omega)
  injection f2 with f2; injection f2 with f2
  injection f2' with f2'; injection f2' with f2'
  subst f2 f2'
  rw [f1] at f1'
  injection f1' with f1'
  subst f1'
  have hx0 : a.tmps.getD xi undef = .int .i64 k := hz ▸ H.fc.get ki hi
  have hyv : a.tmps.getD y undef = .int .u32 val := H.fc.get ky hy
  have hs : ∀ d, (some s : Option Tmp) = some d → d < a.tmps.size := fun d hd2 => by
    injection hd2 with hd2
    subst hd2
    rw [H.sz]
    exact hsN
  have hput : ∀ v x, (a.put (some s) v).tmps.getD x undef = if (some s : Option Tmp) = some x then v else a.tmps.getD x undef := fun v x => put_getD hs
  have hold : ∀ v x, x ≠ s → (a.put (some s) v).tmps.getD x undef = a.tmps.getD x undef := fun v x hx => by
    rw [hput, if_neg ?_]
    intro e
    injection e with e
    exact hx e.symm
  have hblk := ht.blk
  have hlen : (xs ++ [2148261425]).length = n + 1 := by rw [List.length_append, ht.len]; rfl
  have hcell := hblk.cell k (by rw [hlen]; omega)
  have hfr := hblk.free k
  rw [wpOps_cons]
  unfold wpOp
  simp only [hoi]
  rw [if_pos (by simp [Region.wanted])]
  refine .inl ?_
  unfold Oper.wp
  have e4 : a.eval (.tmp px) = .slice (some ⟨b, 0, none⟩) n (n + 1) := e1
  have e5 : a.eval (.tmp xi) = .int .i64 k := hx0
  have hr1 : (execOp a.eval ⟨some s, .indexAddr 23 (.tmp px) (.tmp xi), ty1, pos1, af1, none⟩).run Tryz.prog w = .ok (.value (.pointer (some ⟨b, k, none⟩))) w := by
    have := run_indexAt (P := Tryz.prog) (k := .i64) (i := 0) (c := n + 1) (a := ⟨b, 0, none⟩) Tryz.underlying23 size32 hk w
    rw [plain_add] at this
    simp only [execOp, e4, e5, Sem.run_bind, this, Result.andThen_ok, Sem.run_pure]
  rw [hr1]
  show wpOps Tryz.prog ops Q (j :: rest) _ w
  rw [wpOps_cons]
  unfold wpOp
  simp only [hoj]
  rw [if_pos (by simp [Region.wanted])]
  refine .inl ?_
  unfold Oper.wp
  have hrun : (storeVar 44 ⟨b, k, none⟩ (.int .u32 val)).run Tryz.prog w = .ok () (w.setCell ⟨b, k, none⟩ (.int .u32 val)) := by
    obtain ⟨i0, hi, hz0⟩ := Option.map_eq_some_iff.1 size32
    have hs1 := run_store Tryz.prog w ⟨b, k, none⟩ (.int .u32 val) .plain rfl
    rw [hcell, hfr] at hs1
    have e0 : (⟨b, k, none⟩ : Addr).add 0 = ⟨b, k, none⟩ := by unfold Addr.add; split <;> simp_all
    simp [storeVar, Value.cells, storeCells, sizeOf, typeInfo, hi, hz0, Sem.run_bind, e0]
    simpa using hs1
  have hr2 : (execOp (a.put (some s) (.pointer (some ⟨b, k, none⟩))).eval ⟨none, .store 44 (.tmp s) (.tmp y), ty2, pos2, af2, none⟩).run Tryz.prog w = .ok .skip (w.setCell ⟨b, k, none⟩ (.int .u32 val)) := by
    have e5 : (a.put (some s) (.pointer (some ⟨b, k, none⟩))).eval (.tmp s) = .pointer (some ⟨b, k, none⟩) := by
      show (a.put (some s) _).tmps.getD s undef = _
      rw [hput, if_pos rfl]
    have e6 : (a.put (some s) (.pointer (some ⟨b, k, none⟩))).eval (.tmp y) = .int .u32 val := by
      show (a.put (some s) _).tmps.getD y undef = _
      rw [hold _ _ hys]; exact hyv
    simp only [execOp, e5, e6, Instr.storeAt, Instr.sureAddr, Sem.run_bind, Sem.run_pure, Result.andThen_ok, hrun]
  rw [hr2]
  have o : Only b w (w.setCell ⟨b, k, none⟩ (.int .u32 val)) := (Only.refl b w).set k _
  have h2 : Tw (w.setCell ⟨b, k, none⟩ (.int .u32 val)) b n (xs.set k val) := by
    have h3 := hblk.set k val
    rw [List.set_append_left _ _ (by rw [ht.len]; exact hk)] at h3
    refine ⟨by rw [List.length_set]; exact ht.len, h3, fun y hy => ?_⟩
    rcases List.mem_or_eq_of_mem_set hy with h | h
    · exact ht.dig y h
    · rw [h]; exact hval
  have hrow : ∃ cs cs' : Array Value, w.heap[b]? = some (.cells cs 44 (0, 0)) ∧ (w.setCell ⟨b, k, none⟩ (.int .u32 val)).heap[b]? = some (.cells cs' 44 (0, 0)) ∧ cs.size ≤ cs'.size := ⟨_, _, ht.blk, h2.blk, by simp [nums]⟩
  have hbx : ∀ z ∈ bxs, z ≠ s := fun z hz e => by
    subst e
    rw [← List.contains_iff_mem, hsb] at hz
    cases hz
  show wpOps Tryz.prog ops Q rest (a.put (some s) (.pointer (some ⟨b, k, none⟩))) (w.setCell ⟨b, k, none⟩ (.int .u32 val))
  refine hK _ _ ⟨put_defers.trans H.df, put_size.trans H.sz, Fct.of_all fun z hz => ?_, fun z hz => ?_, fun z hz t ht hzt => ?_, H.bel.trans ⟨o.os, o.tape, o.output, Nat.le_of_eq o.size.symm, fun k hk => o.rest k fun e => by have := hg b f1; omega⟩, fun k hk2 => by rw [o.size]; exact H.own k hk2, H.own0⟩
  · rcases List.mem_cons.1 hz with rfl | hz
    · show (IsHd g (IsTN n (List.set xs k val))).p _ _ _
      rw [hold _ sx hsx, e1']
      exact ⟨⟨_, _, _, rfl, by omega, by omega, by omega, fun h => absurd h (by omega), fun _ => ⟨b, _, f1, rfl, f3, h2.blk, by simp [nums, ht.len]⟩⟩, b, rfl, h2⟩
    · have hm : z ∈ l := by
        have h2 : some z ∈ is.map (fun i => l[i]?) := by rw [hks]; exact List.mem_map.2 ⟨z, hz, rfl⟩
        obtain ⟨i, _, hi⟩ := List.mem_map.1 h2
        exact List.mem_of_getElem? hi
      rw [hold _ z.1 (hall z hz)]
      exact hkp.all z hz _ _ _ _ b f1 f3 o hrow (H.fc.all z hm)
  · obtain ⟨c2, k1, k2, k3⟩ := H.bx z hz
    exact ⟨c2, (hold _ z (hbx z hz)).trans k1, by rw [o.size]; exact k2, k3⟩
  · rw [hold _ z (hbx z hz), hold _ t (hbx t ht)]; exact H.ap z hz t ht hzt
end
end Go.Proofs.YtbcbmkeeoognpaaGreatDoor

