/- Contracts of functions, and plain facts, part 39. -/
import Derived.DataReads
import Derived.Test.YtoimhjcpeifegaaGreatDoorCards
import Derived.Lib.LaidTab
import Derived.Test.YtoimhjcpeifegaaGreatDoorPk9
import Derived.Test.YtoimhjcpeifegaaGreatDoorPk13
import Derived.Test.YtoimhjcpeifegaaGreatDoorPk27
import Derived.Test.YtoimhjcpeifegaaGreatDoorPk35
import Derived.Test.YtoimhjcpeifegaaGreatDoorPk37
import Derived.Test.YtoimhjcpeifegaaGreatDoorPk38
set_option linter.unusedVariables false
set_option linter.unusedSimpArgs false
/- A value of any kind as a number, or none: what is asked of it; package value's checks. -/
set_option maxRecDepth 50000
namespace Go.Proofs.YtoimhjcpeifegaaGreatDoor
open Go Go.RowKit

/-- The variable ErrArg holds an error, and is no variable of a call's. -/
def ErrAP (w : World) (B : Bx) : Prop := ∃ te ue, w.cell? ⟨0, 0, none⟩ = some (.iface te ue) ∧ ¬ B 0
theorem ErrAP.mv {w w' : World} {B B' : Bx} (h : Mv w B w' B') (e : ErrAP w B) : ErrAP w' B' := by
  obtain ⟨te, ue, hc, hn⟩ := e
  have hl := World.block_lt_of_cell? w _ hc
  exact ⟨te, ue, cell_mv h hc (.inl hn), fun hb => hn (h.box _ hl hb)⟩
/-- A value that reads as t. -/
def IsVA (t : VT) : VP := ⟨fun v w B => (IsVv t).p v w B ∧ ErrAP w B, fun v w B w' B' h ⟨h1, h2⟩ => ⟨(IsVv t).st _ _ _ _ _ h h1, h2.mv h⟩⟩
theorem shape_VA {t : VT} : Shape 8 (IsVA t) := fun v w B ⟨h, _⟩ => by
  have h : RdV w.heap.size w B t v := h
  obtain ⟨cs, rfl⟩ := h.agg
  obtain ⟨ad, n, c, kd, rfl, _, _, ⟨ka, kc, rfl, _⟩, _⟩ := h.open
  refine ⟨_, rfl, rfl, by simp [Value.oneCell'], fun j ik x hk => ?_⟩
  rcases j with _ | _ | _ | _ | _ | _ | _ | _ | j <;> simp <;> (rintro rfl; rcases hk with hk | hk <;> cases hk)
section
variable {need : List (Tmp × FD)} {d : Option Tmp} {ty : TypeId} {pos : String} {af : Array Edge} {g : Option (Nat × Bool)} {x : Operand} {t : VT}
theorem ok_loadVA0 (h : Opd need x (.ptr 37 8 (IsVA t) 0)) : OpOk Tryz.prog ⟨d, .load 30 x, ty, pos, af, g⟩ need (.val (Lit (.int .i8 (VT.d t).k))) false :=
  ok_loadPtr1 aggKind h (by decide) fun cs v w B ⟨h1, _⟩ hv => by
    obtain ⟨ad, n, c, kd, rfl, _⟩ := RdV.open (show RdV w.heap.size w B t (.agg cs) from h1)
    simp at hv
    exact hv.symm
/-- One value as a list. -/
theorem ok_oneVq (h : Opd need x (.val (IsVA t))) : OpOk Tryz.prog ⟨d, .buildSlice 35 1 #[(0, x)], ty, pos, af, g⟩ need (.val (IsVq [t])) false := by
  intro Q K a w B hB hF hK
  have hv : RdV w.heap.size w B t (a.eval x) := (h a w B hF).1
  obtain ⟨v, w', hr, hp, hbel⟩ := oneV_at (d := d) (ty := ty) (pos := pos) (af := af) (g := g) hB hv
  unfold Oper.wp
  rw [hr]
  exact hK _ _ B (hp.mono (Nat.le_refl _) hbel.size) (Bl.of_below B hbel) hbel (below_own1 hB hbel) (by simp)
end
/-- May the node be by itself (of a number's kind). -/
noncomputable def aloneT (t : VT) : Bool := if t.d.k = 3 then normB t.d.ng t.d.xs && restB t.d.n t.d.b t.d.x t.d.t t.kids.length else fltB t.d.b && !t.d.ng && decide (t.d.xs.length = 0) && restB t.d.n 0 t.d.x t.d.t t.kids.length
theorem con_aloneA (t : VT) (hk : t.d.k = 3 ∨ t.d.k = 4) (hb : 0 ≤ t.d.b ∧ t.d.b < 18446744073709551616) : ConE Tryz.prog 101 [IsVA t] (IsB (aloneT t)) := by
  refine ⟨fun _ _ => by go_simp, fun vs w B hB hE hV => ?_⟩
  match vs, hV with
  | [v], ⟨⟨h1, _⟩, _⟩ =>
    have h1 : RdV w.heap.size w B t v := h1
    obtain ⟨cs, rfl⟩ := h1.agg
    obtain ⟨ad, n, c, kd, rfl, _, ka, ⟨ke, kc, rfl, _⟩, hn, _⟩ := h1.open
    have hl := ka.rds.len
    unfold aloneT
    rcases hk with hk | hk
    · rw [hk, if_pos rfl]
      exact (alone3_gen _ _ _ _ _ ad n c _ ke _ kc w ka (by rw [big_eq] at hn; omega)).mono fun e w' h => ⟨_, h.1, rfl, h.2⟩
    · rw [hk, if_neg (by decide), hl]
      refine (alone4_gen _ _ _ _ _ ad n c ke _ kc (fltB t.d.b) w fun w' hb2 => ?_).mono fun e w' h => ⟨_, h.1, rfl, h.2⟩
      have hE2 := hE.mv (Bl.of_below B hb2).mv
      refine ((con_vfloat t.d.b hb).calls [.int .u64 t.d.b] w' (fun _ => False) (fun _ h => h.elim) ⟨hE2.sh, hE2.tab, fun h => h⟩ ⟨rfl, trivial⟩).mono ?_
      rintro e w2 ⟨v, rfl, h, hb3⟩
      obtain rfl := h
      exact ⟨rfl, hb3⟩
/-- The parts are of their kinds. -/
structure VOk (d : VD) : Prop where
  k : -128 ≤ d.k ∧ d.k < 128
  n : 0 ≤ d.n ∧ d.n < 18446744073709551616
  b : 0 ≤ d.b ∧ d.b < 18446744073709551616
  x : -128 ≤ d.x ∧ d.x < 128
/-- No number, or none that may be. -/
def NoNum (t : VT) : Prop := (t.d.k ≠ 3 ∧ t.d.k ≠ 4) ∨ ((t.d.k = 3 ∨ t.d.k = 4) ∧ aloneT t = false)
end Go.Proofs.YtoimhjcpeifegaaGreatDoor


/- VCmpM. (Printed by flow15.py.) -/
namespace Go.Proofs.YtoimhjcpeifegaaGreatDoor
open Go Go.RowKit

theorem sideI_ne (b : Int) : sideI b ≠ 0 := by unfold sideI; split <;> omega
def isNo : One → Bool
  | .none => true
  | .nothing _ => true
  | _ => false
def endO : One → Int
  | .endless b => sideI b
  | _ => 0
def clampI (d : Int) : Int := if -1 < (if d < 1 then d else 1) then (if d < 1 then d else 1) else -1
def cmpFin (m e n f : Int) : Int := cmpI (m * 2 ^ (if 0 < e - f then e - f else 0).toNat) (n * 2 ^ (if 0 < f - e then f - e else 0).toNat)
/-- How two numbers stand. -/
noncomputable def cmpO (o1 o2 : One) : Int × Bool := if isNo o1 || isNo o2 then (0, false) else if endO o1 ≠ 0 ∨ endO o2 ≠ 0 then (clampI (endO o1 - endO o2), true) else (cmpFin (partN o1) (partE o1) (partN o2) (partE o2), true)
theorem cmpO_no1 (v : Int) (o : One) : cmpO (.nothing v) o = (0, false) := if_pos rfl
theorem cmpO_no2 (v : Int) (o : One) : cmpO o (.nothing v) = (0, false) := if_pos (by cases isNo o <;> rfl)
theorem cmpO_end (o1 o2 : One) (h1 : isNo o1 = false) (h2 : isNo o2 = false) (h : endO o1 ≠ 0 ∨ endO o2 ≠ 0) : cmpO o1 o2 = (clampI (endO o1 - endO o2), true) := by
  unfold cmpO
  rw [if_neg (by rw [h1, h2]; simp), if_pos h]
theorem cmpO_fin (o1 o2 : One) (h1 : isNo o1 = false) (h2 : isNo o2 = false) (h3 : endO o1 = 0) (h4 : endO o2 = 0) : cmpO o1 o2 = (cmpFin (partN o1) (partE o1) (partN o2) (partE o2), true) := by
  unfold cmpO
  rw [if_neg (by rw [h1, h2]; simp), if_neg (by omega)]
theorem bits_small {V : Int} (hV : 0 ≤ V) (h : ¬ 64 < bitsOf V) : V < 18446744073709551616 := by
  unfold bitsOf at h
  have h1 := blen_lt V.toNat
  have h2 : 2 ^ blen V.toNat ≤ 2 ^ 64 := Nat.pow_le_pow_right (by omega) (by omega)
  omega
theorem bits_great {V : Int} (hV : 0 ≤ V) (h : 64 < bitsOf V) : 18446744073709551616 ≤ V := by
  unfold bitsOf at h
  have h0 : V.toNat ≠ 0 := fun e => by rw [e, blen_zero] at h; omega
  have h1 := blen_ge V.toNat h0
  have h2 : 2 ^ 64 ≤ 2 ^ (blen V.toNat - 1) := Nat.pow_le_pow_right (by omega) (by omega)
  omega
theorem cmp_long1 (X m f : Int) (hX : 64 < bitsOf (X.natAbs : Int)) (hm : -18446744073709551616 < m ∧ m < 18446744073709551616) (hf : f < 0) : cmpI X 0 = cmpFin X 0 m f := by
  have h1 := bits_great (by omega) hX
  unfold cmpFin
  rw [if_pos (show 0 < 0 - f by omega), if_neg (show ¬ 0 < f - 0 by omega)]
  have h2 : (1 : Int) ≤ 2 ^ (0 - f).toNat := Int.pow_pos (by omega)
  generalize (2 : Int) ^ (0 - f).toNat = P at *
  rw [Int.toNat_zero, Int.pow_zero, Int.mul_one]
  rcases Int.lt_or_le X 0 with h | h
  · have h3 : X * P ≤ X * 1 := Int.mul_le_mul_of_nonpos_left (by omega) h2
    rw [cmpI_lt h, cmpI_lt (by omega)]
  · have h3 : X * 1 ≤ X * P := Int.mul_le_mul_of_nonneg_left h2 h
    rw [cmpI_gt (by omega), cmpI_gt (by omega)]
theorem partN_bd (b : Int) : -18446744073709551616 < sI (pNeg 64 b) (pM 64 b) ∧ sI (pNeg 64 b) (pM 64 b) < 18446744073709551616 := by
  have := pM_bd (W := 64) (by unfold Wide; omega) b
  unfold sI
  split <;> omega
end Go.Proofs.YtoimhjcpeifegaaGreatDoor


/- From a row's reading of a value (of any kind, with all that lies within it) to what the walks ask. -/
namespace Go.Proofs.YtoimhjcpeifegaaGreatDoor
open Go Go.ChangeShapes Go.WideShapes Go.RowKit

theorem fields_value : ∃ f0 f1 f2 f3 f4 f5 f6 : Field, Tryz.prog.underlying 37 = some (.struct #[f0, f1, f2, f3, f4, f5, f6]) ∧ (f0.type = 30 ∧ f0.offset = 0) ∧ (f1.type = 24 ∧ f1.offset = 1) ∧ (f2.type = 34 ∧ f2.offset = 2) ∧ (f3.type = 24 ∧ f3.offset = 4) ∧ (f4.type = 29 ∧ f4.offset = 5) ∧ (f5.type = 9 ∧ f5.offset = 6) ∧ (f6.type = 35 ∧ f6.offset = 7) :=
  ⟨_, _, _, _, _, _, _, Tryz.underlying37, ⟨rfl, rfl⟩, ⟨rfl, rfl⟩, ⟨rfl, rfl⟩, ⟨rfl, rfl⟩, ⟨rfl, rfl⟩, ⟨rfl, rfl⟩, ⟨rfl, rfl⟩⟩
theorem cellsVal : Tryz.prog.cellsOf 37 = 8 := by kernel_rfl
theorem bytesVal : Tryz.prog.bytesOf 37 = 104 := by kernel_rfl
theorem cellsKind : Tryz.prog.cellsOf 30 = 1 := by kernel_rfl
theorem cellsU64 : Tryz.prog.cellsOf 24 = 1 := by kernel_rfl
theorem cellsI8 : Tryz.prog.cellsOf 29 = 1 := by kernel_rfl
theorem cellsStrV : Tryz.prog.cellsOf 9 = 1 := by kernel_rfl
theorem cellsVals : Tryz.prog.cellsOf 35 = 1 := by kernel_rfl
theorem wf_i8 {x : Int} (h : (Lit.int .i8 x).wf = true) : -128 ≤ x ∧ x < 128 := by
  have := bounds_i8 h
  omega
/-- Trees, one for each place. -/
theorem choose_trees {n : Nat} {Q : Nat → VT → Prop} (h : ∀ j, j < n → ∃ t, Q j t) : ∃ l : List VT, l.length = n ∧ ∀ (j : Nat) (t : VT), l[j]? = some t → Q j t := by
  induction n generalizing Q with
  | zero => exact ⟨[], rfl, fun j t hj => by simp at hj⟩
  | succ n ih =>
    obtain ⟨t0, h0⟩ := h 0 (by omega)
    obtain ⟨l, h1, h2⟩ := ih (Q := fun j => Q (j + 1)) fun j hj => h (j + 1) (by omega)
    refine ⟨t0 :: l, by simp [h1], fun j t hj => ?_⟩
    cases j with
    | zero => simp at hj; subst hj; exact h0
    | succ j => exact h2 j t (by simpa using hj)
theorem arg_lt {w : World} {ad : Option Addr} {n c : Nat} {xs : List Int} (k : Arg w ad n c xs) : 0 < n → ∀ b, blkOf ad = some b → b < w.heap.size := fun hn b hb => by
  obtain ⟨a, rfl, hc⟩ := k.rds.cell 0 hn
  have := World.block_lt_of_cell? w _ hc
  rw [blk_add] at this
  have hb : a.block = b := Option.some.inj hb
  omega
theorem weights_all_mem {H : Type} {P : Program} {e : TypeId} {d : DataW H} {z : Nat} : ∀ {L : List (DataW H)}, d ∈ L → z ∈ d.weights P e → z ∈ DataW.weightsAll P e L
  | [], h, _ => by cases h
  | u :: us, h, hz => by
    rw [DataW.weightsAll]
    rcases List.mem_cons.1 h with h | h
    · exact List.mem_append_left _ (h ▸ hz)
    · exact List.mem_append_right _ (weights_all_mem h hz)
set_option maxRecDepth 100000 in
theorem open_val {H : Type} {enc : TypeId × Value → H} {W : World} : ∀ (n : Nat) (cs : List Value) (x : DataW H × List MemPlace), DataW.trod enc Tryz.prog W 0 (fun _ => true) true n 37 cs = some x → (x.1.weights Tryz.prog 37).all (· ≤ reachBytes) = true →
    ∃ t : VT, RdV W.heap.size W (fun _ => False) t (.agg cs.toArray) ∧ VOk t.d ∧ cs.length = 8 := by
  intro n
  induction n using Nat.strongRecOn with
  | ind n ih =>
  intro cs x hf hsz
  obtain ⟨f0, f1, f2, f3, f4, f5, f6, hs, ⟨t0, o0⟩, ⟨t1, o1⟩, ⟨t2, o2⟩, ⟨t3, o3⟩, ⟨t4, o4⟩, ⟨t5, o5⟩, ⟨t6, o6⟩⟩ := fields_value
  obtain ⟨xs, q, hq, hx, hlen8, hlen, hfs⟩ := DataW.trod_struct hs hf
  rw [cellsVal] at hlen8
  have g0 := hfs 0 f0 rfl
  have g1 := hfs 1 f1 rfl
  have g2 := hfs 2 f2 rfl
  have g3 := hfs 3 f3 rfl
  have g4 := hfs 4 f4 rfl
  have g5 := hfs 5 f5 rfl
  have g6 := hfs 6 f6 rfl
  match xs, hlen with
  | [y0, y1, y2, y3, y4, y5, y6], _ =>
    subst hx
    have hz : (DataW.weightsEach Tryz.prog [30, 24, 34, 24, 29, 9, 35] [y0.1, y1.1, y2.1, y3.1, y4.1, y5.1, y6.1]).all (· ≤ reachBytes) = true := by
      rw [List.all_eq_true] at hsz ⊢
      intro x hx
      refine hsz x ?_
      simp only [List.map_cons, List.map_nil]
      rw [DataW.weights, hs]
      simp only [List.map_cons, List.map_nil, t0, t1, t2, t3, t4, t5, t6]
      exact hx
    match cs, hlen8 with
    | [c0, c1, c2, c3, c4, c5, c6, c7], _ =>
      rw [t0, o0, cellsKind] at g0
      rw [t1, o1, cellsU64] at g1
      rw [t2, o2, cellsInt2] at g2
      rw [t3, o3, cellsU64] at g3
      rw [t4, o4, cellsI8] at g4
      rw [t5, o5, cellsStrV] at g5
      rw [t6, o6, cellsVals] at g6
      simp only [List.drop_succ_cons, List.drop_zero, List.take_succ_cons, List.take_zero, List.getElem?_cons_zero, List.getElem?_cons_succ] at g0 g1 g2 g3 g4 g5 g6
      obtain ⟨k, e0, -, w0⟩ := DataW.trod_int Tryz.underlying30 g0
      obtain ⟨nn, e1, -, w1⟩ := DataW.trod_int Tryz.underlying24 g1
      obtain ⟨ng, ad, len, cap, zs, e2, e3, ka, kb⟩ := open_int2 hz (j := 2) rfl rfl g2
      obtain ⟨b, e4, -, w4⟩ := DataW.trod_int Tryz.underlying24 g3
      obtain ⟨xx, e5, -, w5⟩ := DataW.trod_int Tryz.underlying29 g4
      obtain ⟨s, e6, e7, w6⟩ := DataW.trod_string Tryz.underlying9 g5
      injection e0 with e0
      injection e1 with e1
      injection e4 with e4
      injection e5 with e5
      injection e6 with e6
      subst e0 e1 e2 e3 e4 e5 e6
      have hy5 : y5.1 = .lit (.string s.data.toList) := by rw [e7]
      have hss := sized_string hz (j := 5) (t := 9) (bytes := s.data.toList) rfl (by rw [← hy5]; rfl)
      rw [Array.length_toList] at hss
      have hss2 : s.size ≤ BIG := by
        have : reachBytes = 140737488351232 := rfl
        rw [big_eq]
        exact Nat.le_trans hss (by omega)
      have hln : len ≤ BIG := by rw [big_eq]; omega
      have hok : VOk ⟨k, nn, ng, zs, b, xx, s⟩ := ⟨wf_i8 w0, wf_u64 w1, wf_u64 w4, wf_i8 w5⟩
      rcases DataW.trod_slice Tryz.underlying35 g6 with ⟨h7, _⟩ | ⟨a, ln, cp, elems, rest, q2, hq2, h7, h8, _, h9, _, h10, h11, _⟩
      · injection h7 with h7
        subst h7
        refine ⟨.node ⟨k, nn, ng, zs, b, xx, s⟩ [], ?_, hok, rfl⟩
        unfold RdV
        refine ⟨ad, len, cap, none, 0, rfl, ka, arg_lt ka, hln, Nat.zero_le _, hss2, ?_⟩
        unfold RdL
        trivial
      · injection h7 with h7
        subst h7
        rw [cellsVal] at h11
        have hw6 : y6.1 = .slice (elems.map (·.1)) (rest.map (·.1)) := by rw [h8]
        have hsl := sized_slice hz (j := 6) (t := 35) (elems := elems.map (·.1)) (spare := rest.map (·.1)) rfl (by rw [← hw6]; rfl) Tryz.underlying35
        rw [bytesVal, List.length_map, h10] at hsl
        have hlb : ln ≤ BIG := by
          have : reachBytes = 140737488351232 := rfl
          rw [big_eq]
          have h12 : ln * 104 ≤ reachBytes := Nat.le_trans (Nat.mul_le_mul_right _ (Nat.le_add_right _ _)) hsl
          omega
        have hel : ∀ j, j < ln → ∃ t : VT, ∃ cs, At8 W (a.add (8 * j)) cs ∧ RdV W.heap.size W (fun _ => False) t (.agg cs.toArray) := fun j hj => by
          have h12 := h11 j hj
          rw [List.getElem?_eq_getElem (by omega)] at h12
          obtain ⟨cs2, h13, h14⟩ := Option.bind_eq_some_iff.1 h12
          have hwj : (elems[j].1.weights Tryz.prog 37).all (· ≤ reachBytes) = true := by
            rw [List.all_eq_true] at hz ⊢
            intro z hzz
            refine hz z (DataW.weights_mem_each (j := 6) (t := 35) (d := y6.1) rfl rfl z ?_)
            rw [hw6, DataW.weights, Tryz.underlying35]
            refine List.mem_cons_of_mem _ (List.mem_append_left _ ?_)
            exact weights_all_mem (List.mem_map.2 ⟨_, List.getElem_mem _, rfl⟩) hzz
          obtain ⟨t, h15, _, h16⟩ := ih q2 (by omega) cs2 _ h14 hwj
          refine ⟨t, cs2, ⟨h16, fun i u hi => ?_⟩, h15⟩
          unfold World.cells? at h13
          rw [if_pos (Nat.zero_le _)] at h13
          have hi8 : i < 8 := by rw [← h16]; exact (List.getElem?_eq_some_iff.1 hi).1
          have := mapM_some_get h13 i i (by rw [List.getElem?_range hi8])
          rw [hi, Nat.mul_comm] at this
          exact this
        obtain ⟨l, hl1, hl2⟩ := choose_trees hel
        refine ⟨.node ⟨k, nn, ng, zs, b, xx, s⟩ l, ?_, hok, rfl⟩
        unfold RdV
        refine ⟨ad, len, cap, some a, cp, by rw [hl1], ka, arg_lt ka, hln, by rw [hl1]; exact hlb, hss2, RdL.mk fun j t hj => ?_⟩
        obtain ⟨cs2, h12, h13⟩ := hl2 j t hj
        refine ⟨?_, fun h => h, cs2, by rw [Nat.zero_add]; exact h12, h13⟩
        have h14 := h12.2 0 _ (List.getElem?_eq_getElem (by rw [h12.1]; omega))
        have := World.block_lt_of_cell? W _ h14
        rwa [blk_add, blk_add] at this
set_option maxRecDepth 100000 in
theorem open_value {H : Type} {enc : TypeId × Value → H} {W : World} {base : Nat} {v : Value} {d : DataW H} {p : List MemPlace} {ts : List TypeId} {ds : List (DataW H)} {j : Nat}
    (hsz : (DataW.weightsEach Tryz.prog ts ds).all (· ≤ reachBytes) = true) (ht : ts[j]? = some 37) (hd : ds[j]? = some d)
    (hv : Value.okWide Tryz.prog W .any base 37 v) (h : DataW.Trod enc Tryz.prog W 0 (fun _ => true) true 37 v d p) :
    ∃ t : VT, RdV W.heap.size W (fun _ => False) t v ∧ VOk t.d ∧ ∀ x ∈ p, x.block < W.heap.size := by
  have hlt : ∀ x ∈ p, x.block < W.heap.size := by obtain ⟨m, hm⟩ := h; exact DataW.trod_lt m _ _ _ hm
  obtain ⟨f0, f1, f2, f3, f4, f5, f6, hs, _⟩ := fields_value
  obtain ⟨cs, rfl, hcs⟩ := okWide_struct hs hv
  obtain ⟨fuel, hf⟩ := h
  obtain ⟨t, h1, h2, _⟩ := open_val fuel _ _ hf (by
    rw [List.all_eq_true] at hsz ⊢
    intro x hx
    exact hsz x (DataW.weights_mem_each ht hd x hx))
  exact ⟨t, h1, h2, hlt⟩
end Go.Proofs.YtoimhjcpeifegaaGreatDoor


/- The error ErrArg out of a row's list. -/
set_option maxRecDepth 100000
namespace Go.Proofs.YtoimhjcpeifegaaGreatDoor
open Go Go.RowKit

theorem gErr : Tryz.prog.globalNamed "crucible/api.ErrArg" = some 0 := by kernel_rfl
theorem gErrType : (Tryz.prog.globals[0]?).map (·.type) = some 67 := by kernel_rfl
theorem err_of_laid {W : World} {rest : List (String × DataW Unit)} (h : laidMet Tryz.prog (("crucible/api.ErrArg", Rows.laid_crucible_api_ErrArg) :: rest) W) : ErrAP W (fun _ => False) := by
  obtain ⟨ps, hl, -⟩ := h
  obtain ⟨g, t, cs, fuel, p, q1, hg, ht, hcs, htr, -, -⟩ := hl
  rw [gErr] at hg
  injection hg with hg
  subst hg
  rw [gErrType] at ht
  injection ht with ht
  subst ht
  have hc := World.var?_cell gErr hcs
  have key : ∃ u v, cs.toList = [.iface u v] := by
    cases fuel with
    | zero => simp [DataW.trod] at htr
    | succ fuel =>
      unfold DataW.trod at htr
      rw [Tryz.underlying67] at htr
      generalize cs.toList = L at *
      match L with
      | [.iface u v] => exact ⟨u, v, rfl⟩
      | [.nilIface] => simp [Rows.laid_crucible_api_ErrArg] at htr
      | [] => simp at htr
      | _ :: _ :: _ => simp at htr
      | [.bool _] => simp at htr
      | [.int _ _] => simp at htr
      | [.string _] => simp at htr
      | [.pointer _] => simp at htr
      | [.slice _ _ _] => simp at htr
      | [.agg _] => simp at htr
      | [.float _ _] => simp at htr
      | [.tuple _] => simp at htr
      | [.nilFunc] => simp at htr
      | [.func _ _ _] => simp at htr
      | [.map _] => simp at htr
      | [.chan _] => simp at htr
      | [.complex _ _ _] => simp at htr
  obtain ⟨u, v, e⟩ := key
  refine ⟨u, v, ?_, fun h => h⟩
  rw [hc, ← Array.getElem?_toList, e]
  rfl
end Go.Proofs.YtoimhjcpeifegaaGreatDoor


/- Numbers of patterns: plain; the list of one number that is no greater than the bound. -/
set_option maxRecDepth 50000
namespace Go.Proofs.YtoimhjcpeifegaaGreatDoor
open Go Go.RowKit

theorem w64 : Wide 64 := by unfold Wide; omega
theorem w32 : Wide 32 := by unfold Wide; omega
theorem w16 : Wide 16 := by unfold Wide; omega
theorem le64 {W : Nat} (hW : Wide W) : W ≤ 64 := by rcases hW with rfl | rfl | rfl <;> omega
theorem cls_of {W : Nat} (x : Int) : (isNaN W x = true → clsW W x = 5) ∧ (sizeW W x = infW W → clsW W x = 4) ∧ (pOk W x = true → clsW W x ≠ 4 ∧ clsW W x ≠ 5) := by
  unfold clsW isNaN pOk
  refine ⟨fun h => ?_, fun h => ?_, fun h => ?_⟩
  · rw [if_pos (of_decide_eq_true h)]
  · rw [if_neg (by omega), if_pos h]
  · have := of_decide_eq_true h
    rw [if_neg (by omega), if_neg (by omega)]
    split <;> (try split) <;> omega
/-- What To answers, in the three cases. -/
theorem to_cases {W : Nat} (hW : Wide W) (x : Int) (hx : 0 ≤ x ∧ x < 2 ^ W) :
    (isNaN W x = true ∧ (toW 64 W x).1 = nanW 64) ∨ (isNaN W x = false ∧ sizeW W x = infW W ∧ (toW 64 W x).1 = (if negW W x then sgnW 64 else 0) + infW 64) ∨
    (pOk W x = true ∧ pOk 64 (toW 64 W x).1 = true ∧ pM 64 (toW 64 W x).1 = pM W x ∧ pE 64 (toW 64 W x).1 = pE W x ∧ pNeg 64 (toW 64 W x).1 = pNeg W x) := by
  unfold toW
  by_cases h1 : isNaN W x = true
  · rw [if_pos h1]; exact .inl ⟨h1, rfl⟩
  · have h1' : isNaN W x = false := by simpa using h1
    by_cases h2 : sizeW W x = infW W
    · rw [if_neg h1, if_pos h2]; exact .inr (.inl ⟨h1', h2, rfl⟩)
    · rw [if_neg h1, if_neg h2]
      have h3 : pOk W x = true := by
        unfold isNaN at h1'
        have := of_decide_eq_false h1'
        exact decide_eq_true (by omega)
      exact .inr (.inr ⟨h3, embed hW w64 (le64 hW) x hx h3⟩)
theorem int_same {V W : Nat} (x y : Int) (h1 : pOk V y = pOk W x) (h2 : pM V y = pM W x) (h3 : pE V y = pE W x) (h4 : pNeg V y = pNeg W x) : intOk V y = intOk W x ∧ intN V y = intN W x := by
  have e : intOk V y = intOk W x := by unfold intOk; rw [h1, h3]
  refine ⟨e, ?_⟩
  unfold intN intV
  rw [e, h2, h3, h4]
/-- A pattern's number may be. -/
theorem ok_of {W : Nat} (hW : Wide W) (x : Int) (hx : 0 ≤ x ∧ x < 2 ^ W) : okNV (ofV W x) := by
  unfold ofV
  by_cases hi : intOk W x = true
  · rw [if_pos hi]; trivial
  · rw [if_neg hi]
    have hi' : intOk W x = false := by simpa using hi
    refine ⟨toW_bd2 w64 W x, ?_⟩
    unfold fltB
    rcases to_cases hW x hx with ⟨h1, h2⟩ | ⟨h1, h2, h3⟩ | ⟨h1, h2, h3, h4, h5⟩
    · rw [h2]; decide
    · obtain ⟨k1, k2, k3, k4⟩ := inf_facts w64 (negW W x)
      have hc := (cls_of (W := 64) ((if negW W x then sgnW 64 else 0) + infW 64)).2.1 k1
      rw [h3, hc]
      rfl
    · obtain ⟨c1, c2⟩ := (cls_of (W := 64) (toW 64 W x).1).2.2 h2
      rw [if_neg c2, if_neg c1, (int_same x _ (h2.trans h1.symm) h3 h4 h5).1, hi']
      rfl
theorem lives_to : (toW 64 16 15872).1 = 4609434218613702656 := by
  have h := nearE_exact (W := 64) w64 3 1022 51 (-1) (by decide) (.inr (by decide)) (by decide) (by decide)
  have e : toW 64 16 15872 = (roundW 64 (pNeg 16 15872) (pM 16 15872) (pE 16 15872) false, sameW 64 16 15872 (roundW 64 (pNeg 16 15872) (pM 16 15872) (pE 16 15872) false)) := by
    unfold toW
    rw [if_neg (by decide), if_neg (by decide)]
  rw [e]
  show roundW 64 (pNeg 16 15872) (pM 16 15872) (pE 16 15872) false = _
  rw [show pNeg 16 15872 = false by decide, show pM 16 15872 = 3 by decide, show pE 16 15872 = -1 by decide]
  unfold roundW
  rw [show rM 3 false = 3 from rfl, show rE (-1) false = -1 from rfl, h]
  decide
theorem lives_of : ofV 16 15872 = .flt 4609434218613702656 := by
  rw [of_no (by decide), lives_to]
theorem lives_of1 : ofV 32 1065353216 = .int 1 := by
  rw [of_yes (by decide), show intN 32 1065353216 = 1 by decide]
theorem lives_ok : okNV (.flt 4609434218613702656) := ⟨by omega, by unfold fltB; decide⟩
theorem lives_from : fromW 64 65505 = (4679235752230387712, true) := by
  have h := nearE_exact (W := 64) w64 65505 1037 37 0 (by decide) (.inr (by decide)) (by decide) (by decide)
  have e : roundW 64 (decide ((65505 : Int) < 0)) ((65505 : Int).natAbs : Int) 0 false = 4679235752230387712 := by
    unfold roundW
    rw [show rM ((65505 : Int).natAbs : Int) false = 65505 from rfl, show rE 0 false = 0 from rfl, h]
    decide
  unfold fromW
  rw [e]
  decide
theorem lives_bits : bitsO (whatV (.int 65505)) = (4679235752230387712, true) := by
  show bitsO (.exact 65505) = _
  rw [bits_yes (by rw [lives_from]), lives_from]
theorem lives_narrow : narrowP (4679235752230387712, true) = (32, 1199563008, true) := by
  have h16 : (toW 16 64 4679235752230387712).2 = false := by
    unfold toW
    rw [if_neg (by decide), if_neg (by decide)]
    show sameW 16 64 _ _ = false
    unfold sameW
    generalize roundW 16 (pNeg 64 4679235752230387712) (pM 64 4679235752230387712) (pE 64 4679235752230387712) false = y
    rw [show pM 64 4679235752230387712 = 65505 by decide]
    have : pM 16 y < 65505 := by
      unfold pM
      split
      · have hm : rawM 16 y < 2048 := by
          unfold rawM
          have := numM_lt (shF 16) (sizeW 16 y).toNat
          rw [show (2 : Nat) ^ (shF 16 + 1) = 2048 from rfl] at this
          omega
        rcases Int.lt_or_le 0 (rawM 16 y) with hp | hp
        · have := (odd_spec (rawM 16 y) hp (by omega)).2.2.2.1
          omega
        · have h0 : rawM 16 y = 0 := by
            have : (0 : Int) ≤ rawM 16 y := by unfold rawM; omega
            omega
          rw [h0]; decide
      · omega
    rw [decide_eq_false (show ¬ pM 16 y = 65505 by omega), Bool.and_false, Bool.false_and]
  have h32 : toW 32 64 4679235752230387712 = (1199563008, true) := by
    have h := nearE_exact (W := 32) w32 65505 141 8 0 (by decide) (.inr (by decide)) (by decide) (by decide)
    unfold toW
    rw [if_neg (by decide), if_neg (by decide), show pM 64 4679235752230387712 = 65505 by decide, show pE 64 4679235752230387712 = 0 by decide, show pNeg 64 4679235752230387712 = false by decide]
    have e : roundW 32 false 65505 0 false = 1199563008 := by
      unfold roundW
      rw [show rM 65505 false = 65505 from rfl, show rE 0 false = 0 from rfl, h]
      decide
    rw [e]
    decide
  unfold narrowP
  simp [h16, h32]
theorem lives_what : whatV (.flt 4609434218613702656) = .broken 4609434218613702656 := by
  show oneF _ = _
  unfold oneF
  rw [if_neg (by decide), if_neg (by decide)]
theorem lives_cmp : cmpO (whatV (.int 1)) (whatV (.flt 4609434218613702656)) = (-1, true) := by
  rw [lives_what]
  show cmpO (.exact 1) _ = _
  rw [cmpO_fin _ _ rfl rfl rfl rfl]
  show (cmpFin 1 0 (sI (pNeg 64 4609434218613702656) (pM 64 4609434218613702656)) (pE 64 4609434218613702656), true) = _
  rw [show pM 64 4609434218613702656 = 3 by decide, show pE 64 4609434218613702656 = -1 by decide, show pNeg 64 4609434218613702656 = false by decide]
  decide
end Go.Proofs.YtoimhjcpeifegaaGreatDoor

