/- Contracts of functions, and plain facts, part 29. -/
import Derived.Test.YtbcbmkeeoognpaaGreatDoorPk13
import Derived.Test.YtbcbmkeeoognpaaGreatDoorPk17
import Derived.Test.YtbcbmkeeoognpaaGreatDoorPk19
import Derived.Test.YtbcbmkeeoognpaaGreatDoorPk20
import Derived.Test.YtbcbmkeeoognpaaGreatDoorPk24
import Derived.Test.YtbcbmkeeoognpaaGreatDoorPk26
import Derived.Test.YtbcbmkeeoognpaaGreatDoorPk28
set_option linter.unusedVariables false
set_option linter.unusedSimpArgs false
/- R2gcdF. (Printed by flowfn.py.) -/
namespace Go.Proofs.YtbcbmkeeoognpaaGreatDoor
open Go Go.RowKit


theorem gcd_go {A B V U : Int} (hA : 0 ≤ A) (hB : 0 < B) (h : gcdI A B = gcdI V U) : (0 ≤ B ∧ 0 ≤ if B = 0 then 0 else A % B) ∧ gcdI B (if B = 0 then 0 else A % B) = gcdI V U := by
  have h1 := Int.emod_nonneg A (show B ≠ 0 by omega)
  rw [if_neg (by omega)]
  exact ⟨⟨by omega, h1⟩, by rw [← h]; exact gcdI_step A B hA hB⟩
theorem gcd_less {A B : Int} (hB : 0 < B) : (if B = 0 then 0 else A % B).toNat < B.toNat := by
  rw [if_neg (by omega)]
  have := Int.emod_lt_of_pos A hB
  omega
set_option maxRecDepth 20000 in
set_option maxHeartbeats 2000000 in
theorem con_r2gcdF (V U : Int) : ConF Tryz.prog 117 [IsM V, IsM U] (fun lo => IsFr lo (IsC (gcdI V U))) := by
  refine f_enterF (N := 25) Tryz.ntmps117 (fun _ _ => by go_simp) Tryz.func117 rfl (by simp) ?_
  intro lo a0 w0 B0 H0
  replace H0 : St 25 w0 B0 a0 w0 B0 [(0, .val (IsM V)), (1, .val (IsM U)), (25, .val (Sz lo))] [] := H0
  have hV := PM.nonneg (H0.fc.get 0 rfl)
  have hU := PM.nonneg (H0.fc.get 1 rfl)
  refine wp_seq ?_
  refine flow_region (dsts := [some 4]) (refs := [[]]) (outs := [.res 0, .pre 0, .pre 1, .pre 2]) (als := [false]) (posts := [.val (IsC 0)])
    (out := [(4, .val (IsC 0)), (0, .val (IsM V)), (1, .val (IsM U)), (25, .val (Sz lo))]) (nb := []) H0 1 [] rfl (by kernel_rfl) rfl rfl ?_ ?_
  · refine .cons (.plain rfl (ok_assign (.const (fun w B => weakNilM _ w B rfl)))) ?_
    exact .nil
  clear H0
  intro a1 w1 B1 H1
  refine ops_done ?_
  refine then_normal ?_
  refine wp_seq ?_
  refine flow_region (dsts := [some 8, some 9]) (refs := [[.pre 1], [.res 0, .pre 3]]) (outs := [.res 1, .pre 0, .pre 1, .pre 2, .pre 3]) (als := [false, false]) (posts := [.val (IsM V), .val (IsFr lo (IsC V))])
    (out := [(9, .val (IsFr lo (IsC V))), (4, .val (IsC 0)), (0, .val (IsM V)), (1, .val (IsM U)), (25, .val (Sz lo))]) (nb := []) H1 2 [2] rfl (by kernel_rfl) rfl rfl ?_ ?_
  · refine .cons (.plain rfl (ok_move (.tmp 0 rfl))) ?_
    refine .cons (.plain rfl (ok_callF 1 (con_rnormF V) rfl (.cons (.tmp 0 rfl) (.nil)))) ?_
    exact .nil
  clear H1 a1 w1 B1
  intro a2 w2 B2 H2
  refine ops_one ?_
  refine tail_op (D := .val (IsFr lo (IsC V))) (l' := [(0, .val (IsFr lo (IsC V))), (9, .val (IsFr lo (IsC V))), (4, .val (IsC 0)), (1, .val (IsM U)), (25, .val (Sz lo))]) H2 rfl rfl rfl (.plain rfl (ok_assign (.tmp 0 rfl))) rfl rfl ?_
  clear H2 a2 w2 B2
  intro a3 w3 B3 H3
  refine ops_done ?_
  refine then_normal ?_
  refine wp_seq ?_
  refine flow_region (dsts := [some 10, some 11]) (refs := [[.pre 3], [.res 0, .pre 4]]) (outs := [.res 1, .pre 0, .pre 2, .pre 3, .pre 4]) (als := [false, false]) (posts := [.val (IsM U), .val (IsFr lo (IsC U))])
    (out := [(11, .val (IsFr lo (IsC U))), (0, .val (IsFr lo (IsC V))), (4, .val (IsC 0)), (1, .val (IsM U)), (25, .val (Sz lo))]) (nb := []) H3 2 [2] rfl (by kernel_rfl) rfl rfl ?_ ?_
  · refine .cons (.plain rfl (ok_move (.tmp 0 rfl))) ?_
    refine .cons (.plain rfl (ok_callF 1 (con_rnormF U) rfl (.cons (.tmp 0 rfl) (.nil)))) ?_
    exact .nil
  clear H3 a3 w3 B3
  intro a4 w4 B4 H4
  refine ops_one ?_
  refine tail_op (D := .val (IsFr lo (IsC U))) (l' := [(1, .val (IsFr lo (IsC U))), (11, .val (IsFr lo (IsC U))), (0, .val (IsFr lo (IsC V))), (4, .val (IsC 0)), (25, .val (Sz lo))]) H4 rfl rfl rfl (.plain rfl (ok_assign (.tmp 0 rfl))) rfl rfl ?_
  clear H4 a4 w4 B4
  intro a5 w5 B5 H5
  refine ops_done ?_
  refine then_normal ?_
  refine wp_seq ?_
  refine wp_block ?_
  refine f_loop (fun (⟨A, B⟩ : Int × Int) => [(1, .val (IsFr lo (IsC B))), (0, .val (IsFr lo (IsC A))), (4, .val (IsC 0)), (25, .val (Sz lo))]) (fun (⟨A, B⟩ : Int × Int) => (0 ≤ A ∧ 0 ≤ B) ∧ gcdI A B = gcdI V U) (fun (⟨A, B⟩ : Int × Int) => B.toNat) (⟨V, U⟩) (St.pick H5 [0, 2, 3, 4] rfl) (by exact ⟨⟨hV, hU⟩, rfl⟩) ?_
  clear H5 a5 w5 B5
  rintro ⟨A, B⟩ a6 w6 B6 hI6 H6
  replace hI6 : (0 ≤ A ∧ 0 ≤ B) ∧ gcdI A B = gcdI V U := hI6
  replace H6 : St 25 w0 B0 a6 w6 B6 [(1, .val (IsFr lo (IsC B))), (0, .val (IsFr lo (IsC A))), (4, .val (IsC 0)), (25, .val (Sz lo))] [] := H6
  obtain ⟨⟨hA0, hB0⟩, hg⟩ := hI6
  refine wp_seq ?_
  refine wp_seq ?_
  refine flow_region (dsts := [some 12, some 13, some 14]) (refs := [[.pre 0], [.res 0], [.res 1]]) (outs := [.res 2, .pre 0, .pre 1, .pre 2, .pre 3]) (als := [false, false, false]) (posts := [.val (IsFr lo (IsC B)), .val (Lit (.int .i64 ((dg 4294967296 B).length : Int))), .val (IsB (decide (0 < ((dg 4294967296 B).length : Int))))])
    (out := [(14, .val (IsB (decide (0 < ((dg 4294967296 B).length : Int))))), (1, .val (IsFr lo (IsC B))), (0, .val (IsFr lo (IsC A))), (4, .val (IsC 0)), (25, .val (Sz lo))]) (nb := []) H6 3 [] rfl (by kernel_rfl) rfl rfl ?_ ?_
  · refine .cons (.plain rfl (ok_move (.tmp 0 rfl))) ?_
    refine .cons (.plain rfl (ok_lenC (.weak (.tmp 0 rfl) weakFr))) ?_
    refine .cons (.plain rfl (ok_cmp (.tmp 0 rfl) (.lit) rfl)) ?_
    exact .nil
  clear H6 a6 w6 B6
  intro a7 w7 B7 H7
  refine ops_done ?_
  refine then_normal ?_
  refine f_cond H7 (.tmp 0 rfl) ?_ ?_
  · intro hc8
    replace hc8 := of_decide_eq_true hc8
    have hB1 : 0 < B := by rcases Int.lt_or_eq_of_le hB0 with g | g; exact g; rw [← g, dg_zero] at hc8; simp at hc8
    refine wp_skip ?_
    refine then_normal ?_
    refine wp_block ?_
    refine wp_seq ?_
    refine flow_region (dsts := [some 16, some 17, some 18, some 15, some 19, some 20, some 21, some 5, some 6, some 7]) (refs := [[.pre 2], [.pre 1], [.res 0, .res 1, .pre 4], [.res 2], [.res 3], [.res 3], [.res 3], [.res 4], [.res 5], [.res 6]]) (outs := [.res 8, .pre 1, .pre 2, .pre 3, .pre 4]) (als := [false, false, false, false, false, false, false, false, false, false]) (posts := [.val (IsFr lo (IsC A)), .val (IsFr lo (IsC B)), .val (Tup [IsFr lo (IsC (A / B)), IsFr lo (IsC (if B = 0 then 0 else A % B)), IsB (decide (B ≠ 0))]), .val (Tup [IsFr lo (IsC (A / B)), IsFr lo (IsC (if B = 0 then 0 else A % B)), IsB (decide (B ≠ 0))]), .val (IsFr lo (IsC (A / B))), .val (IsFr lo (IsC (if B = 0 then 0 else A % B))), .val (IsB (decide (B ≠ 0))), .val (IsFr lo (IsC (A / B))), .val (IsFr lo (IsC (if B = 0 then 0 else A % B))), .val (IsB (decide (B ≠ 0)))])
      (out := [(6, .val (IsFr lo (IsC (if B = 0 then 0 else A % B)))), (1, .val (IsFr lo (IsC B))), (0, .val (IsFr lo (IsC A))), (4, .val (IsC 0)), (25, .val (Sz lo))]) (nb := []) H7 10 [] rfl (by kernel_rfl) rfl rfl ?_ ?_
    · refine .cons (.plain rfl (ok_move (.tmp 0 rfl))) ?_
      refine .cons (.plain rfl (ok_move (.tmp 0 rfl))) ?_
      refine .cons (.plain rfl (ok_callF 2 (con_r2divF A B) rfl (.cons (.weak (.weak (.tmp 0 rfl) weakFr) weakCM) (.cons (.weak (.weak (.tmp 1 rfl) weakFr) weakCM) (.nil))))) ?_
      refine .cons (.plain rfl (ok_move (.tmp 0 rfl))) ?_
      refine .cons (.plain rfl (ok_extract 0 (.tmp 0 rfl) rfl)) ?_
      refine .cons (.plain rfl (ok_extract 1 (.tmp 0 rfl) rfl)) ?_
      refine .cons (.plain rfl (ok_extract 2 (.tmp 0 rfl) rfl)) ?_
      refine .cons (.plain rfl (ok_assign (.tmp 0 rfl))) ?_
      refine .cons (.plain rfl (ok_assign (.tmp 0 rfl))) ?_
      refine .cons (.plain rfl (ok_assign (.tmp 0 rfl))) ?_
      exact .nil
    clear H7 a7 w7 B7
    intro a9 w9 B9 H9
    refine ops_done ?_
    refine then_normal ?_
    refine flow_region (dsts := [some 22, some 23, some 0]) (refs := [[.pre 1], [.pre 0], [.res 0]]) (outs := [.res 1, .res 2, .pre 1, .pre 3, .pre 4]) (als := [false, false, false]) (posts := [.val (IsFr lo (IsC B)), .val (IsFr lo (IsC (if B = 0 then 0 else A % B))), .val (IsFr lo (IsC B))])
      (out := [(23, .val (IsFr lo (IsC (if B = 0 then 0 else A % B)))), (0, .val (IsFr lo (IsC B))), (1, .val (IsFr lo (IsC B))), (4, .val (IsC 0)), (25, .val (Sz lo))]) (nb := []) H9 3 [3] rfl (by kernel_rfl) rfl rfl ?_ ?_
    · refine .cons (.plain rfl (ok_move (.tmp 0 rfl))) ?_
      refine .cons (.plain rfl (ok_move (.tmp 0 rfl))) ?_
      refine .cons (.plain rfl (ok_assign (.tmp 0 rfl))) ?_
      exact .nil
    clear H9 a9 w9 B9
    intro a10 w10 B10 H10
    refine ops_one ?_
    refine tail_op (D := .val (IsFr lo (IsC (if B = 0 then 0 else A % B)))) (l' := [(1, .val (IsFr lo (IsC (if B = 0 then 0 else A % B)))), (23, .val (IsFr lo (IsC (if B = 0 then 0 else A % B)))), (0, .val (IsFr lo (IsC B))), (4, .val (IsC 0)), (25, .val (Sz lo))]) H10 rfl rfl rfl (.plain rfl (ok_assign (.tmp 0 rfl))) rfl rfl ?_
    clear H10 a10 w10 B10
    intro a11 w11 B11 H11
    refine ops_done ?_
    refine block_normal ?_
    exact ⟨⟨B, if B = 0 then 0 else A % B⟩, B11, by exact gcd_go hA0 hB1 hg, St.pick H11 [0, 2, 3, 4] rfl, by exact gcd_less hB1⟩
  · intro hc8
    replace hc8 := of_decide_eq_false hc8
    have hB1 : B = 0 := (dg_len_zero hB0).1 (by omega)
    have hG : A = gcdI V U := by rw [← hg, hB1]; exact (gcdI_zero A hA0).symm
    refine wp_exit ?_
    refine then_exit ?_
    refine then_exit ?_
    refine block_exit ?_
    refine then_normal ?_
    refine wp_seq ?_
    refine flow_region (dsts := [some 24, some 4]) (refs := [[.pre 2], [.res 0]]) (outs := [.res 1, .pre 1, .pre 2, .pre 4]) (als := [false, false]) (posts := [.val (IsFr lo (IsC A)), .val (IsFr lo (IsC A))])
      (out := [(4, .val (IsFr lo (IsC A))), (1, .val (IsFr lo (IsC B))), (0, .val (IsFr lo (IsC A))), (25, .val (Sz lo))]) (nb := []) H7 2 [] rfl (by kernel_rfl) rfl rfl ?_ ?_
    · refine .cons (.plain rfl (ok_move (.tmp 0 rfl))) ?_
      refine .cons (.plain rfl (ok_assign (.tmp 0 rfl))) ?_
      exact .nil
    clear H7 a7 w7 B7
    intro a12 w12 B12 H12
    refine ops_done ?_
    refine then_normal ?_
    refine wp_ret ?_
    exact f_ret H12 rfl 0 rfl (fun v w B h => by exact isFrC_eq hG h)
end Go.Proofs.YtbcbmkeeoognpaaGreatDoor


/- The Own rows of layer 2: the calls of quot, over, Apart, what outlives them. -/
set_option maxRecDepth 50000
namespace Go.Proofs.YtbcbmkeeoognpaaGreatDoor
open Go Go.RowKit

/-- A word that hangs upon old blocks alone. -/
def KeptZ (Bs : Nat) (f : FD) : Prop := ∀ (v : Value) (w w' : World) (B : Bx), w.heap.size ≤ w'.heap.size → (∀ k, k < Bs → w'.heap[k]? = w.heap[k]?) → f.p v w B → f.p v w' B
inductive KeepZ (Bs : Nat) : List (Tmp × FD) → Prop where
  | nil : KeepZ Bs []
  | cons {s : Tmp} {f : FD} {l : List (Tmp × FD)} (h : KeptZ Bs f) (t : KeepZ Bs l) : KeepZ Bs ((s, f) :: l)
theorem KeepZ.all {Bs : Nat} {l : List (Tmp × FD)} (h : KeepZ Bs l) : ∀ x ∈ l, KeptZ Bs x.2 := by
  induction h with
  | nil => intro x hx; cases hx
  | cons h t ih =>
    intro x hx
    rcases List.mem_cons.1 hx with rfl | hx
    · exact h
    · exact ih x hx
theorem keptZ_lit {Bs : Nat} {u : Value} : KeptZ Bs (.val (Lit u)) := fun _ _ _ _ _ _ h => h
theorem keptZ_sz {Bs q : Nat} : KeptZ Bs (.val (Sz q)) := fun _ _ _ _ hs _ h => Nat.le_trans h hs
/-- The table of a library function, laid before. -/
def TabV (lo : Nat) : VP := ⟨fun _ w _ => Tab32 w ∧ 0 < lo, fun v w B w' B' h ⟨h1, h2⟩ => ⟨fun j hj => by
  have hc := h1 j hj
  have hl := World.block_lt_of_cell? w _ hc
  rcases h.same _ hl with e | ⟨_, e⟩
  · rw [← hc]; exact World.cell?_of_block e
  · exact absurd hc (e _ .u8 _ rfl (.inr rfl)), h2⟩⟩
theorem tab32_of {w w' : World} (h : w'.heap[0]? = w.heap[0]?) (h1 : Tab32 w) : Tab32 w' := fun j hj => by
  rw [← h1 j hj]
  exact World.cell?_of_block h
theorem keptZ_tab {Bs lo : Nat} (hl : lo ≤ Bs) : KeptZ Bs (.val (TabV lo)) := fun v w w' B hs hb ⟨h1, h2⟩ => ⟨tab32_of (hb _ (by omega)) h1, h2⟩
theorem keptB_tab {Bs lo : Nat} (hl : lo ≤ Bs) : KeptB Bs (.val (TabV lo)) := fun v w w' B b hbs hb k ⟨h1, h2⟩ => by
  refine ⟨tab32_of ?_ h1, h2⟩
  have hlt := World.block_lt_of_cell? w _ (h1 0 (by omega))
  exact (k.rest _ hlt (by show (0 : Nat) ≠ b; omega)).resolve_right (by rintro ⟨e, _⟩; exact absurd (show Bs ≤ 0 from e) (by omega))
section
variable {P : Program} {ops : Array Oper} {Q : Exit → Act → World → Prop} {N : Nat} {w0 : World} {B0 : Bx} {a : Act} {w : World} {B : Bx} {l : List (Tmp × FD)} {bxs : List Tmp}
theorem apart_op2 {i : Nat} {K : Act → World → Prop} {Ow : Nat → Prop} {lo hi cnt : Nat} {ex : List (Option Nat)} {s p : Tmp} {y : Operand} {ts : Array TypeId} {ty : TypeId} {pos : String} {af : Array Edge} {gd : Option (Nat × Bool)} (kp : Nat) (is : List Nat) {ks : List (Tmp × FD)}
    (H : St N w0 B0 a w B l bxs) (ho : ops[i]? = some ⟨some s, .call { callee := .value (.func 18), args := #[y], argTypes := ts }, ty, pos, af, gd⟩) (hP : P = Tryz.prog)
    (hw : Region.wanted ⟨some s, .call { callee := .value (.func 18), args := #[y], argTypes := ts }, ty, pos, af, gd⟩ (yielded ops a.tmps) = true)
    (hp : l[kp]? = some (p, .box 42 15 (IsBook w0.heap.size Ow lo hi ex cnt))) (hy : a.eval y = a.tmps.getD p undef) (hcnt : cnt ≤ 1000000)
    (hks : is.map (fun i => l[i]?) = ks.map some) (hc : (bxs.contains p && decide (s < N) && (!bxs.contains s) && ks.all fun y => y.1 != s) = true) (hk : KeepZ w0.heap.size ks)
    (hK : ∀ a w B, St N w0 B0 a w B ((s, .val (IsB true)) :: ks) bxs → K a w) : wpOp P ops Q i K a w := by
  subst hP
  simp only [Bool.and_eq_true, List.all_eq_true, Bool.not_eq_true', decide_eq_true_eq, bne_iff_ne, ne_eq] at hc
  obtain ⟨⟨⟨hpb, hsN⟩, hsb⟩, hall⟩ := hc
  rw [List.contains_iff_mem] at hpb
  obtain ⟨b, rv, L, e1, hBb, hbs, hA, hL, hblk, hrow⟩ := H.book kp hp hpb hcnt
  have hB0 : w0.heap.size ≤ w.heap.size := H.bel.size
  unfold wpOp
  simp only [ho]
  rw [if_pos hw]
  refine .inl ?_
  unfold Oper.wp
  have hent : ∀ (vs : Array Value) (w : World), (callFunc 18 vs).run Tryz.prog w = .ok (.enter 18 vs) w := fun _ _ => by go_simp
  have hr : (execOp a.eval ⟨some s, .call { callee := .value (.func 18), args := #[y], argTypes := ts }, ty, pos, af, gd⟩).run Tryz.prog w = .ok (.enter 18 #[.pointer (some ⟨b, 0, none⟩)]) w := by
    have q1 := hy
    rw [e1] at q1
    have : execOp a.eval ⟨some s, .call { callee := .value (.func 18), args := #[y], argTypes := ts }, ty, pos, af, gd⟩ = callFunc 18 #[a.eval y] := by
      simp [execOp, resolve, Act.eval, Deferred.ofValue, invoke]
    rw [this, hent, q1]
  rw [hr]
  refine (apart_calls w0.heap.size b rv L w hA hB0).mono ?_
  rintro e w' ⟨rfl, hbel⟩
  refine hK _ w' B ?_
  have hsz : ∀ d, (some s : Option Tmp) = some d → d < a.tmps.size := fun d hd => by injection hd with hd; subst hd; rw [H.sz]; exact hsN
  have hput : ∀ z v, (a.put (some s) v).tmps.getD z undef = if some s = some z then v else a.tmps.getD z undef := fun z v => put_getD hsz
  have hold : ∀ z v, z ≠ s → (a.put (some s) v).tmps.getD z undef = a.tmps.getD z undef := fun z v hz => by
    rw [hput, if_neg fun e => hz (by injection e with e; exact e.symm)]
  have hbx : ∀ z ∈ bxs, z ≠ s := fun z hz e => by
    subst e
    rw [← List.contains_iff_mem, hsb] at hz
    cases hz
  refine ⟨put_defers.trans H.df, put_size.trans H.sz, Fct.of_all fun z hz => ?_, fun z hz => ?_, fun z hz t ht hzt => ?_, H.bel.trans hbel, fun k hk2 => Nat.lt_of_lt_of_le (H.own k hk2) hbel.size, H.own0⟩
  · rcases List.mem_cons.1 hz with rfl | hz
    · show _ = _
      rw [hput, if_pos rfl]
    · have hm : z ∈ l := by
        have h2 : some z ∈ is.map (fun i => l[i]?) := by rw [hks]; exact List.mem_map.2 ⟨z, hz, rfl⟩
        obtain ⟨i, _, hi⟩ := List.mem_map.1 h2
        exact List.mem_of_getElem? hi
      rw [hold z.1 _ (hall z hz)]
      exact hk.all z hz _ _ _ _ hbel.size hbel.block (H.fc.all z hm)
  · obtain ⟨c2, k1, k2, k3⟩ := H.bx z hz
    exact ⟨c2, (hold z _ (hbx z hz)).trans k1, Nat.lt_of_lt_of_le k2 hbel.size, k3⟩
  · rw [hold z _ (hbx z hz), hold t _ (hbx t ht)]; exact H.ap z hz t ht hzt

/-- What a row of limbs that is written upon leaves as it is. -/
def KeptO (g : Option Nat) (f : FD) : Prop := ∀ (v : Value) (w w' : World) (B : Bx) (b : Nat), g = some b → ¬ B b → Only b w w' → (∃ cs cs' : Array Value, w.heap[b]? = some (.cells cs 44 (0, 0)) ∧ w'.heap[b]? = some (.cells cs' 44 (0, 0)) ∧ cs.size ≤ cs'.size) → f.p v w B → f.p v w' B
inductive KeepO (g : Option Nat) : List (Tmp × FD) → Prop where
  | nil : KeepO g []
  | cons {s : Tmp} {f : FD} {l : List (Tmp × FD)} (h : KeptO g f) (t : KeepO g l) : KeepO g ((s, f) :: l)
theorem KeepO.all {g : Option Nat} {l : List (Tmp × FD)} (h : KeepO g l) : ∀ x ∈ l, KeptO g x.2 := by
  induction h with
  | nil => intro x hx; cases hx
  | cons h t ih =>
    intro x hx
    rcases List.mem_cons.1 hx with rfl | hx
    · exact h
    · exact ih x hx
theorem keptO_lit {g : Option Nat} {u : Value} : KeptO g (.val (Lit u)) := fun _ _ _ _ _ _ _ _ _ h => h
theorem keptO_sz {g : Option Nat} {q : Nat} : KeptO g (.val (Sz q)) := fun _ _ _ _ _ _ _ o _ h => by
  show q ≤ _
  rw [o.size]; exact h
theorem keptO_tab {g : Option Nat} {lo : Nat} (hg : ∀ b, g = some b → lo ≤ b) : KeptO g (.val (TabV lo)) := fun v w w' B b e hB o _ ⟨h1, h2⟩ => ⟨tab32_of (o.rest _ fun e2 => by have := hg b e; omega) h1, h2⟩
theorem keptO_ab {g : Option Nat} {q n : Nat} {xs : List Int} (hg : ∀ b, g = some b → q ≤ b) : KeptO g (.val (IsAb q n xs)) := fun v w w' B b e hB o _ ⟨ad, c, e1, k, hl⟩ =>
  ⟨ad, c, e1, ⟨k.le, k.rds.kept fun hn x hx => o.rest x fun e2 => by have := hl hn x hx; have := hg b e; omega, k.dig⟩, hl⟩
theorem keptO_hd {g g2 : Option Nat} {D : VP} (hD : Loc D) (hne : ∀ b, g2 = some b → g ≠ some b) : KeptO g (.val (IsHd g2 D)) := fun v w w' B b eg hB o _ ⟨h1, h2⟩ => by
  obtain ⟨ad, n, c, e, g1, k2, g3, g4, g5⟩ := h1
  subst e
  have key : ∀ y, g2 = some y → w'.heap[y]? = w.heap[y]? := fun y hy => o.rest y fun e2 => hne y hy (by rw [eg, e2])
  refine ⟨⟨ad, n, c, rfl, g1, k2, g3, g4, fun hc => ?_⟩, hD ad n c w w' B g1 (fun hc x hx => ?_) h2⟩
  · obtain ⟨y, cs, f1, f2, f3, f4, f5⟩ := g5 hc
    exact ⟨y, cs, f1, f2, f3, (key y f1).trans f4, f5⟩
  · obtain ⟨y, cs, f1, f2, f3, f4, f5⟩ := g5 hc
    rw [f2] at hx
    have hx : y = x := by injection hx
    subst hx
    exact key y f1
theorem keptO_box {g : Option Nat} {t : TypeId} {n : Nat} {D : VP} (h : KeptO g (.val D)) : KeptO g (.box t n D) := fun v w w' B b e hB o r ⟨c, cs, h1, h2, h3, h4, h5, h6⟩ =>
  ⟨c, cs, h1, h2, by rw [o.size]; exact h3, (o.rest c fun e2 => hB (e2 ▸ h2)).trans h4, h5, h _ _ _ _ b e hB o r h6⟩
theorem keptO_book {g : Option Nat} {Bs : Nat} {Ow : Nat → Prop} {lo hi cnt : Nat} {ex : List (Option Nat)} : KeptO g (.val (IsBook Bs Ow lo hi ex cnt)) := fun v w w' B b e hB o ⟨ds, ds', d1, d2, d3⟩ ⟨rv, L, e1, h1, h2, h3, h4, h5⟩ => by
  refine ⟨rv, L, e1, h1, ⟨h2.1, ?_⟩, h3, h4, fun q hq => ⟨⟨(h5 q hq).1.le, (h5 q hq).1.big, (h5 q hq).1.cap, fun hc => ?_⟩, (h5 q hq).2⟩⟩
  · rcases h2.2 with h6 | ⟨g2, cap, cur, e1, e2, e3, e4⟩
    · exact .inl h6
    · refine .inr ⟨g2, cap, cur, e1, e2, ?_, e4⟩
      rw [o.rest g2 fun e5 => ?_]
      · exact e3
      · subst e5
        rw [d1] at e3
        injection e3 with e3
        injection e3 with _ e3
        exact absurd e3 (by decide)
  · obtain ⟨x, cs, f1, f2, f3, f4⟩ := (h5 q hq).1.row hc
    by_cases e5 : x = b
    · subst e5
      rw [d1] at f3
      injection f3 with f3
      injection f3 with f3 _
      subst f3
      exact ⟨x, ds', f1, f2, d2, by omega⟩
    · exact ⟨x, cs, f1, f2, by rw [o.rest x e5]; exact f3, f4⟩
theorem over_op {i : Nat} {K : Act → World → Prop} {g : Option Nat} {q n m : Nat} {xs ys : List Int} {s sx : Tmp} {x y : Operand} {ts : Array TypeId} {ty : TypeId} {pos : String} {af : Array Edge} (kx : Nat) (is : List Nat) {ks : List (Tmp × FD)}
    (H : St N w0 B0 a w B l bxs) (hP : P = Tryz.prog) (ho : ops[i]? = some ⟨some s, .call { callee := .value (.func 25), args := #[x, y], argTypes := ts }, ty, pos, af, none⟩)
    (hx : Opd l x (.val (IsHd g (IsTN n xs)))) (hxs : l[kx]? = some (sx, .val (IsHd g (IsTN n xs)))) (hy : Opd l y (.val (IsAb q m ys))) (hq : ∀ b, g = some b → q ≤ b) (hq0 : q ≤ w0.heap.size) (hg : ∀ b, g = some b → w0.heap.size ≤ b) (hn : n ≤ 1048576) (hm : m ≤ 1048576)
    (hks : is.map (fun i => l[i]?) = ks.map some) (hc : (decide (s < N) && (!bxs.contains s) && decide (sx ≠ s) && ks.all fun y => y.1 != s) = true) (hk : KeepO g ks)
    (hK : ∀ a w B, St N w0 B0 a w B ((sx, .val (IsHd g (IsTN n (overL xs ys)))) :: ks) bxs → K a w) : wpOp P ops Q i K a w := by
  subst hP
  simp only [Bool.and_eq_true, List.all_eq_true, Bool.not_eq_true', decide_eq_true_eq, bne_iff_ne, ne_eq] at hc
  obtain ⟨⟨⟨hsN, hsb⟩, hsx⟩, hall⟩ := hc
  obtain ⟨⟨ad, n1, c, e1, g1, k2, g3, g4, g5⟩, b, e2, ht⟩ := hx a w B H.fc
  obtain ⟨⟨ad', n1', c', e1', g1', k2', g3', g4', g5'⟩, b', e2', ht'⟩ := H.fc.get kx hxs
  rw [e1] at e2
  rw [e1'] at e2'
  injection e2 with j1 j2 j3
  injection e2' with i1 i2 i3
  have j2 := j2.symm
  have j3 := j3.symm
  have i2 := i2.symm
  have i3 := i3.symm
  subst j1 j2 j3 i1 i2 i3
  obtain ⟨bg, cs, f1, f2, f3, f4, f5⟩ := g5 (by omega)
  obtain ⟨bg', cs', f1', f2', f3', f4', f5'⟩ := g5' (by omega)
  injection f2 with f2; injection f2 with f2
  injection f2' with f2'; injection f2' with f2'
  subst f2 f2'
  rw [f1] at f1'
  injection f1' with f1'
  subst f1'
  obtain ⟨bd, d, e3, hb, hl⟩ := hy a w B H.fc
  unfold wpOp
  simp only [ho]
  rw [if_pos (by simp [Region.wanted])]
  refine .inl ?_
  unfold Oper.wp
  have hent : ∀ (vs : Array Value) (w : World), (callFunc 25 vs).run Tryz.prog w = .ok (.enter 25 vs) w := fun _ _ => by go_simp
  have hr : (execOp a.eval ⟨some s, .call { callee := .value (.func 25), args := #[x, y], argTypes := ts }, ty, pos, af, none⟩).run Tryz.prog w = .ok (.enter 25 #[.slice (some ⟨b, 0, none⟩) n (n + 1), .slice bd m d]) w := by
    have : execOp a.eval ⟨some s, .call { callee := .value (.func 25), args := #[x, y], argTypes := ts }, ty, pos, af, none⟩ = callFunc 25 #[a.eval x, a.eval y] := by
      simp [execOp, resolve, Act.eval, Deferred.ofValue, invoke]
    rw [this, hent, e1, e3]
  rw [hr]
  refine (over_calls b n xs bd m d ys w ht hb (fun h e => by have := hl h b e; have := hq b f1; omega) hn hm).mono ?_
  rintro e w' ⟨rfl, h2, o⟩
  refine hK _ w' B ?_
  have hsz : ∀ d, (some s : Option Tmp) = some d → d < a.tmps.size := fun d hd => by injection hd with hd; subst hd; rw [H.sz]; exact hsN
  have hput : ∀ z v, (a.put (some s) v).tmps.getD z undef = if some s = some z then v else a.tmps.getD z undef := fun z v => put_getD hsz
  have hold : ∀ z v, z ≠ s → (a.put (some s) v).tmps.getD z undef = a.tmps.getD z undef := fun z v hz => by
    rw [hput, if_neg fun e => hz (by injection e with e; exact e.symm)]
  have hbx : ∀ z ∈ bxs, z ≠ s := fun z hz e => by
    subst e
    rw [← List.contains_iff_mem, hsb] at hz
    cases hz
  have hrow : ∃ cs cs' : Array Value, w.heap[b]? = some (.cells cs 44 (0, 0)) ∧ w'.heap[b]? = some (.cells cs' 44 (0, 0)) ∧ cs.size ≤ cs'.size := by
    refine ⟨_, _, ht.blk, h2.blk, ?_⟩
    simp [nums, overL_len]
  refine ⟨put_defers.trans H.df, put_size.trans H.sz, Fct.of_all fun z hz => ?_, fun z hz => ?_, fun z hz t ht hzt => ?_, H.bel.trans ⟨o.os, o.tape, o.output, Nat.le_of_eq o.size.symm, fun k hk => o.rest k fun e => by have := hg b f1; omega⟩, fun k hk2 => by rw [o.size]; exact H.own k hk2, H.own0⟩
  · rcases List.mem_cons.1 hz with rfl | hz
    · show (IsHd g (IsTN n (overL xs ys))).p _ _ _
      rw [hold sx _ hsx, e1']
      exact ⟨⟨_, _, _, rfl, by omega, by omega, by omega, fun h => absurd h (by omega), fun _ => ⟨b, _, f1, rfl, f3, h2.blk, by simp [nums, h2.len]⟩⟩, b, rfl, h2⟩
    · have hm : z ∈ l := by
        have h2 : some z ∈ is.map (fun i => l[i]?) := by rw [hks]; exact List.mem_map.2 ⟨z, hz, rfl⟩
        obtain ⟨i, _, hi⟩ := List.mem_map.1 h2
        exact List.mem_of_getElem? hi
      rw [hold z.1 _ (hall z hz)]
      exact hk.all z hz _ _ _ _ b f1 f3 o hrow (H.fc.all z hm)
  · obtain ⟨c2, k1, k2, k3⟩ := H.bx z hz
    exact ⟨c2, (hold z _ (hbx z hz)).trans k1, by rw [o.size]; exact k2, k3⟩
  · rw [hold z _ (hbx z hz), hold t _ (hbx t ht)]; exact H.ap z hz t ht hzt
end

theorem fit_256 (V : Int) (hV : 0 ≤ V) (L : Nat) (h : (dg 256 V).length ≤ 4 * L) : FitK L V := by
  have h1 := val_lt (show (0 : Int) < 256 by omega) (show Dig 256 (dg 256 V) from dg_dig 256 (by omega) _)
  have h3 := val_dg 256 (by omega) V hV
  rw [show ((256 : Nat) : Int) = 256 from rfl] at h3
  rw [h3] at h1
  have h2 : (256 : Int) ^ (dg 256 V).length ≤ 256 ^ (4 * L) := pow_le (by omega) h
  rw [Int.pow_mul, show (256 : Int) ^ 4 = 4294967296 from by decide] at h2
  unfold FitK
  omega
theorem byteNum_nonneg (s : ByteArray) : 0 ≤ byteNum (bytesI s) := by
  unfold byteNum
  split
  · exact byteV_nonneg _ (bytesI_dig s)
  · omega
theorem byteNum_fit (s : ByteArray) : FitK 262144 (byteNum (bytesI s)) := by
  unfold byteNum
  split
  · rename_i h
    exact fit_256 _ (byteV_nonneg _ (bytesI_dig s)) _ (of_decide_eq_true h)
  · exact fit_256 _ (by omega) _ (by rw [dg_zero]; exact Nat.zero_le _)
theorem frB_of_ret {lo : Nat} {w w' : World} {B : Bx} {V : Int} {ok : Bool} {e : Ending} {k : Nat} (hl : lo ≤ w.heap.size) (hB : Own1 B w) (h : RetLB 44 .u32 (dg 4294967296 V) ok w e w') (hf : FitK k V) (hk : k ≤ 274877906944) (hV : 0 ≤ V) :
    ∃ v, e = .returned v ∧ (IsFrB lo (IsC V) ok).p v w' B ∧ Below w.heap.size w w' := by
  obtain ⟨ad, n, c, rfl, o, hb⟩ := h
  have hlim := lim_eq
  obtain ⟨g, h1, h2, h3⟩ := fr_of_own hl hB o (Nat.le_trans (own_len o hf hV) (by omega)) hV
  exact ⟨_, rfl, ⟨g, h1, [.slice ad n c, .bool ok], rfl, ⟨h2, h3⟩, rfl, trivial⟩, hb⟩
theorem con_qdivF (V U : Int) : ConF Tryz.prog 114 [IsM V, IsM U] (fun lo => IsPr lo (IsC (V / U)) (IsC (if U = 0 then 0 else V % U)) (decide (U ≠ 0))) := by
  refine ⟨fun _ _ => by go_simp, fun lo vs w B hl hB hV => ?_⟩
  match vs, hV with
  | [v, u], ⟨h1, h2, _⟩ =>
    have hfv := PM.fit h1
    have hV0 := PM.nonneg h1
    have hfu := PM.fit h2
    have hU0 := PM.nonneg h2
    obtain ⟨ad, n, c, rfl, k, l⟩ := h1
    obtain ⟨bd, m, c2, rfl, k2, l2⟩ := h2
    obtain ⟨xs, r1, r2, rfl⟩ := k.row
    obtain ⟨ys, s1, s2, rfl⟩ := k2.row
    have hlim := lim_eq
    refine (div_calls ad bd n m c c2 xs ys w (by omega) (by omega) k.le k2.le r1 s1 r2 s2).mono ?_
    rintro e w' ⟨ad3, n3, c3, ad4, n4, c4, rfl, o1, o2, hb, hsep⟩
    obtain ⟨q, hq, hf⟩ := hfv
    obtain ⟨q2, hq2, hf2⟩ := hfu
    have hR : remI (val 4294967296 xs) (val 4294967296 ys) = if val 4294967296 ys = 0 then 0 else val 4294967296 xs % val 4294967296 ys := rfl
    rw [hR] at o2
    have n1 : 0 ≤ val 4294967296 xs / val 4294967296 ys := Int.ediv_nonneg hV0 hU0
    have n2 : 0 ≤ if val 4294967296 ys = 0 then 0 else val 4294967296 xs % val 4294967296 ys := by rw [← hR]; exact remI_nonneg _ _ hV0
    have f1 : FitK q (val 4294967296 xs / val 4294967296 ys) := hf.le (by have := Int.ediv_le_self (val 4294967296 ys) hV0; omega)
    have f2 : FitK q2 (if val 4294967296 ys = 0 then 0 else val 4294967296 xs % val 4294967296 ys) := hf2.le (by
      split
      · omega
      · have := Int.emod_lt_of_pos (val 4294967296 xs) (show 0 < val 4294967296 ys by omega)
        have := Int.emod_nonneg (val 4294967296 xs) (show val 4294967296 ys ≠ 0 by omega)
        omega)
    have l1 := Nat.le_trans (own_len o1 f1 n1) hq
    have l2 := Nat.le_trans (own_len o2 f2 n2) hq2
    obtain ⟨g1, a1, a2, a3⟩ := PHd.of_own hl hB o1 (by omega)
    obtain ⟨g2, b1, b2, b3⟩ := PHd.of_own hl hB o2 (by omega)
    refine ⟨_, rfl, ⟨g1, g2, a1, b1, fun x hx hx2 => ?_, [.slice ad3 n3 c3, .slice ad4 n4 c4, .bool (decide (val 4294967296 ys ≠ 0))], rfl, ⟨a2, ad3, n3, c3, rfl, ⟨o1.le, o1.rds⟩, l1, n1⟩, ⟨b2, ad4, n4, c4, rfl, ⟨o2.le, o2.rds⟩, l2, n2⟩, rfl, trivial⟩, hb⟩
    obtain ⟨p1, p2⟩ := a3 x hx
    obtain ⟨p3, p4⟩ := b3 x hx2
    cases ad3 with
    | none => cases p2
    | some q3 => cases ad4 with
      | none => cases p4
      | some q4 =>
        refine hsep p1 p3 q3 q4 rfl rfl ?_
        injection p2 with p2
        injection p4 with p4
        exact p2.trans p4.symm
theorem con_qgcdF (V U : Int) : ConF Tryz.prog 116 [IsM V, IsM U] (fun lo => IsFr lo (IsC (gcdI V U))) := by
  refine ⟨fun _ _ => by go_simp, fun lo vs w B hl hB hV => ?_⟩
  match vs, hV with
  | [v, u], ⟨h1, h2, _⟩ =>
    have hfv := PM.fit h1
    have hV0 := PM.nonneg h1
    have hfu := PM.fit h2
    have hU0 := PM.nonneg h2
    obtain ⟨ad, n, c, rfl, k, l⟩ := h1
    obtain ⟨bd, m, c2, rfl, k2, l2⟩ := h2
    obtain ⟨xs, r1, r2, rfl⟩ := k.row
    obtain ⟨ys, s1, s2, rfl⟩ := k2.row
    have hlim := lim_eq
    refine (gcd_calls ad bd n m c c2 xs ys w (by omega) (by omega) k.le k2.le r1 s1 r2 s2).mono ?_
    rintro e w' ⟨ad3, n3, c3, rfl, o1, hb⟩
    obtain ⟨q, hq, hf⟩ := hfv
    obtain ⟨q2, hq2, hf2⟩ := hfu
    have n1 := gcdI_nonneg (val 4294967296 xs) (val 4294967296 ys)
    have hlen : n3 ≤ LIM := by
      unfold FitK at hf hf2
      rcases gcdI_lt (val 4294967296 xs) (val 4294967296 ys) hV0 hU0 (4294967296 ^ q) (4294967296 ^ q2) (by omega) (by omega) (Int.pow_pos (by omega)) (Int.pow_pos (by omega)) with h | h
      · exact Nat.le_trans (own_len o1 (k := q) (by unfold FitK; omega) n1) hq
      · exact Nat.le_trans (own_len o1 (k := q2) (by unfold FitK; omega) n1) hq2
    exact ⟨_, rfl, fr_of_own hl hB o1 hlen n1, hb⟩
theorem con_qreadF (s : ByteArray) (hs : s.size ≤ 140737488351232) : ConF Tryz.prog 33 [Lit (.string s)] (fun lo => IsFrB lo (IsC (readNum (bytesI s))) (readOk (bytesI s))) := by
  refine ⟨fun _ _ => by go_simp, fun lo vs w B hl hB hV => ?_⟩
  match vs, hV with
  | [v], ⟨h1, _⟩ =>
    obtain rfl := h1
    exact (read_calls s w hs).mono fun e w' h => frB_of_ret hl hB h (read_fit (bytesI s)) (by omega) (readNum_nonneg _)
theorem con_qfrombF (s : ByteArray) (hs : s.size ≤ 140737488351232) : ConF Tryz.prog 37 [Lit (.string s)] (fun lo => IsFrB lo (IsC (byteNum (bytesI s))) (byteOk (bytesI s))) := by
  refine ⟨fun _ _ => by go_simp, fun lo vs w B hl hB hV => ?_⟩
  match vs, hV with
  | [v], ⟨h1, _⟩ =>
    obtain rfl := h1
    exact (fromb_calls s w hs).mono fun e w' h => frB_of_ret hl hB h (byteNum_fit s) (by omega) (byteNum_nonneg s)
theorem con_r2fromb (s : ByteArray) (hs : s.size ≤ 140737488351232) : Con Tryz.prog 36 [Lit (.string s)] (Tup [IsC (byteNum (bytesI s)), IsB (byteOk (bytesI s))]) := by
  refine ⟨fun _ _ => by go_simp, fun vs w B hB hV => ?_⟩
  match vs, hV with
  | [v], ⟨h1, _⟩ =>
    obtain rfl := h1
    refine (r2fromb_calls s w hs).mono fun e w' h => ?_
    obtain ⟨v, e1, ⟨g, _, h2⟩, hb⟩ := frB_of_ret (Nat.zero_le _) hB h (byteNum_fit s) (by omega) (byteNum_nonneg s)
    obtain ⟨us, e2, h3⟩ := h2
    refine ⟨v, e1, ⟨us, e2, ?_⟩, hb⟩
    match us, h3 with
    | [x, y], ⟨h4, h5, _⟩ => exact ⟨h4.2, h5, trivial⟩
theorem con_qdigits (V : Int) : Con Tryz.prog 30 [IsM V] (Lit (.string (strB (decL V)))) := by
  refine ⟨fun _ _ => by go_simp, fun vs w B hB hV => ?_⟩
  match vs, hV with
  | [v], ⟨h1, _⟩ =>
    obtain ⟨ad, n, c, rfl, k, l⟩ := h1
    have hlim := lim_eq
    refine (num_digits ad n c V w k (by omega)).mono ?_
    rintro e w' ⟨rfl, hb⟩
    exact ⟨_, rfl, rfl, hb⟩
theorem con_qbytes (V : Int) : Con Tryz.prog 34 [IsM V] (Lit (.string (strB (dg 256 V).reverse))) := by
  refine ⟨fun _ _ => by go_simp, fun vs w B hB hV => ?_⟩
  match vs, hV with
  | [v], ⟨h1, _⟩ =>
    obtain ⟨ad, n, c, rfl, k, l⟩ := h1
    have hlim := lim_eq
    refine (num_bytes ad n c V w k (by omega)).mono ?_
    rintro e w' ⟨rfl, hb⟩
    exact ⟨_, rfl, rfl, hb⟩
/-- A contract of a function that reads the table. -/
structure ConT (P : Program) (f : FuncId) (Ds : List VP) (R : Nat → VP) : Prop where
  enters : ∀ (vs : Array Value) (w : World), (callFunc f vs).run P w = .ok (.enter f vs) w
  calls : ∀ (lo : Nat) (vs : List Value) (w : World) (B : Bx), lo ≤ w.heap.size → Own1 B w → Tab32 w → VAll vs Ds w B → Calls P f vs.toArray w (fun e w' => ∃ v, e = .returned v ∧ (R lo).p v w' B ∧ Below w.heap.size w w')
section
variable {P : Program} {need : List (Tmp × FD)} {d : Option Tmp} {ty : TypeId} {pos : String} {af : Array Edge} {g : Option (Nat × Bool)}
theorem ok_callT {f : FuncId} {args : List Operand} {ts : Array TypeId} {Ds : List VP} {R : Nat → VP} {lo q : Nat} {z y : Tmp} (kz kt : Nat) (C : ConT P f Ds R) (hz : need[kz]? = some (z, .val (Sz lo))) (ht : need[kt]? = some (y, .val (TabV q))) (h : Opds need args Ds) : OpOk P ⟨d, .call { callee := .value (.func f), args := args.toArray, argTypes := ts }, ty, pos, af, g⟩ need (.val (R lo)) false := by
  intro Q K a w B hB hF hK
  have hr : (execOp a.eval ⟨d, .call { callee := .value (.func f), args := args.toArray, argTypes := ts }, ty, pos, af, g⟩).run P w = .ok (.enter f (args.map a.eval).toArray) w := by
    simp [execOp, resolve, Act.eval, Deferred.ofValue, invoke, Sem.run_bind, C.enters]
  unfold Oper.wp
  rw [hr]
  have hT : Tab32 w ∧ _ := hF.get kt ht
  refine (C.calls lo (args.map a.eval) w B (hF.get kz hz) hB hT.1 (h.all hF)).mono ?_
  rintro e w' ⟨v, rfl, h1, h2⟩
  have hbl := Bl.of_below B h2
  exact hK v w' B h1 hbl h2 (fun k hk => Nat.lt_of_lt_of_le (hB k hk) h2.size) (by simp)
end
theorem con_lives2 : ConT Tryz.prog 26 [] (fun _ => IsB true) := by
  refine ⟨fun _ _ => by go_simp, fun lo vs w B hl hB hT hV => ?_⟩
  match vs, hV with
  | [], _ => exact (lives2_calls w hT).mono fun e w' ⟨e1, hb⟩ => ⟨_, e1, rfl, hb⟩
theorem con_qpowF (b n : Int) (hb : 0 ≤ b ∧ b < 4294967296) (hn : -9223372036854775808 ≤ n ∧ n < 9223372036854775808) : ConT Tryz.prog 29 [Lit (.int .u32 b), Lit (.int .i64 n)] (fun lo => IsFrB lo (IsC (powNum b n)) (powOk b n)) := by
  refine ⟨fun _ _ => by go_simp, fun lo vs w B hl hB hT hV => ?_⟩
  match vs, hV with
  | [v, u], ⟨h1, h2, _⟩ =>
    obtain rfl := h1
    obtain rfl := h2
    have hp := powNum_lt b n hb 2048 rfl
    exact (pow_calls b n w hb hn hT).mono fun e w' h => frB_of_ret hl hB h (k := 2048) (by unfold FitK; omega) (by omega) hp.2
theorem f_enterT {P : Program} {f : FuncId} {fn : Func} {c : Code} {Ds : List VP} {R : VP} {N : Nat} (hN : fn.ntmps = N) (he : ∀ (vs : Array Value) (w : World), (callFunc f vs).run P w = .ok (.enter f vs) w) (hf : P.funcs[f]? = some fn) (hb : fn.body = some c) (hn : Ds.length ≤ N)
    (h : ∀ (a : Act) (w : World) (B : Bx), St N w B a w B (Ds.zipIdx.map (fun x => (x.2, .val x.1)) ++ [(N, .val (Sz w.heap.size)), (N + 1, .val (TabV w.heap.size))]) [] → c.wp P (bodyPost P fn fun e w' => ∃ v, e = .returned v ∧ R.p v w' B ∧ Below w.heap.size w w') a w) : ConT P f Ds (fun _ => R) := by
  refine ⟨he, fun lo vs w B hlo hB hT hV => calls_of_wp hf hb (h _ w B ⟨rfl, ?_, Fct.of_all fun x hx => ?_, by simp, by simp, Below.refl _ _, hB, fun _ h => h⟩)⟩
  · have hl : vs.length = Ds.length := by
      clear hn h hB hlo
      induction vs generalizing Ds with
      | nil => cases Ds with
        | nil => rfl
        | cons D Ds => exact hV.elim
      | cons v vs ih => cases Ds with
        | nil => exact hV.elim
        | cons D Ds => simp [ih hV.2]
    simp [hN]; omega
  · rcases List.mem_append.1 hx with hx | hx
    · obtain ⟨y, hy, rfl⟩ := List.mem_map.1 hx
      have h1 := List.mem_zipIdx_iff_getElem?.1 hy
      obtain ⟨v, h2, h3⟩ := hV.get y.2 y.1 h1
      have hlt : y.2 < vs.length := (List.getElem?_eq_some_iff.1 h2).1
      have e : (vs.toArray ++ Array.replicate (fn.ntmps - vs.toArray.size) undef).getD y.2 undef = v := by
        rw [Array.getD_eq_getD_getElem?, Array.getElem?_append_left (by simpa using hlt)]
        simp [h2]
      show y.1.p _ w B
      rw [e]
      exact h3
    · simp only [List.mem_cons, List.not_mem_nil, or_false] at hx
      rcases hx with rfl | rfl
      · exact Nat.le_refl _
      · exact ⟨hT, World.block_lt_of_cell? w _ (hT 0 (by omega))⟩
theorem isHd_nilAn (v : Value) (w : World) (B : Bx) (h : (Lit (.slice none 0 0)).p v w B) : (IsHd none (IsAn 0 [])).p v w B := by
  obtain rfl := h
  exact ⟨⟨none, 0, 0, rfl, Nat.le_refl _, by omega, by omega, fun _ => rfl, fun h => absurd h (by omega)⟩, none, 0, rfl, Nat.le_refl _, Rds.nil _ _ _, Dig.nil _⟩
theorem book_empty {Bs : Nat} {Ow : Nat → Prop} {lo hi lo' hi' : Nat} {w : World} {B : Bx} (v : Value) (h : (IsBook Bs Ow lo hi [] 0).p v w B) : (IsBook Bs Ow lo' hi' [] 0).p v w B := by
  obtain ⟨rv, L, e, h1, h2, h3, h4, h5⟩ := h
  obtain rfl : L = [] := List.length_eq_zero_iff.1 (by omega)
  exact ⟨rv, [], e, h1, h2, h3, h4, fun h hh => by cases hh⟩
end Go.Proofs.YtbcbmkeeoognpaaGreatDoor

