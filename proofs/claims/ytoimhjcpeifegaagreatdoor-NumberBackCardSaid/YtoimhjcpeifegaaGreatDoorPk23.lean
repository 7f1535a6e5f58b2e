/- Contracts of functions, and plain facts, part 23. -/
import Derived.Test.YtoimhjcpeifegaaGreatDoorPk5
import Derived.Test.YtoimhjcpeifegaaGreatDoorPk6
import Derived.Test.YtoimhjcpeifegaaGreatDoorPk13
import Derived.Test.YtoimhjcpeifegaaGreatDoorPk15
import Derived.Test.YtoimhjcpeifegaaGreatDoorPk16
import Derived.Test.YtoimhjcpeifegaaGreatDoorPk17
set_option linter.unusedVariables false
set_option linter.unusedSimpArgs false
/- Whole numbers as words on values; the contracts of package whole and of the statements' helpers by them. -/
namespace Go.Proofs.YtoimhjcpeifegaaGreatDoor
open Go Go.RowKit

theorem Rds.mv {w w' : World} {B B' : Bx} (h : Mv w B w' B') {k : IntKind} (hk : k = .u32 ∨ k = .u8) {ad : Option Addr} {n : Nat} {xs : List Int} (r : Rds w k ad n xs) : Rds w' k ad n xs := by
  refine ⟨r.len, fun j hj => ?_⟩
  obtain ⟨a, e, hc⟩ := r.cell j hj
  refine ⟨a, e, ?_⟩
  have hl := World.block_lt_of_cell? w _ hc
  rcases h.same _ hl with h1 | ⟨_, h2⟩
  · rw [← hc]; exact World.cell?_of_block h1
  · exact absurd hc (h2 _ k _ rfl hk)
def LIM : Nat := 274877906944
theorem lim_eq : LIM = 274877906944 := rfl
/-- N has at most k limbs. -/
def FitK (k : Nat) (N : Int) : Prop := (N.natAbs : Int) < 4294967296 ^ k
def Fits (N : Int) : Prop := ∃ k, k ≤ LIM ∧ FitK k N
theorem FitK.mono {k m : Nat} {N : Int} (h : FitK k N) (hk : k ≤ m) : FitK m N := Int.lt_of_lt_of_le h (pow_le (by omega) hk)
theorem FitK.neg {k : Nat} {N : Int} (h : FitK k N) : FitK k (-N) := by unfold FitK at *; rwa [Int.natAbs_neg]
theorem FitK.add {k m : Nat} {N M : Int} (h : FitK k N) (h' : FitK m M) : FitK (k + m + 1) (N + M) := by
  unfold FitK at *
  have := pow_add_lt _ _ _ _ h h'
  omega
theorem FitK.sub {k m : Nat} {N M : Int} (h : FitK k N) (h' : FitK m M) : FitK (k + m + 1) (N - M) := by
  have := h.add h'.neg
  rwa [← Int.sub_eq_add_neg] at this
theorem FitK.small {N : Int} (h : N.natAbs < 4294967296) : FitK 1 N := by unfold FitK; rw [Int.pow_one]; omega
theorem FitK.i64 {N : Int} (h : -9223372036854775808 ≤ N ∧ N < 9223372036854775808) : FitK 2 N := by
  unfold FitK
  have : (4294967296 : Int) ^ 2 = 18446744073709551616 := rfl
  omega
theorem FitK.le {k : Nat} {N M : Int} (h : FitK k N) (hM : M.natAbs ≤ N.natAbs) : FitK k M := by unfold FitK at *; omega

def PI (L : Nat) (N : Int) (v : Value) (w : World) (B : Bx) : Prop := ∃ ad n c, v = .agg #[.bool (decide (N < 0)), .slice ad n c] ∧ Can w ad n c (N.natAbs : Int) ∧ n ≤ L
/-- The number N in normal form. -/
def IsI (N : Int) : VP := ⟨PI LIM N, fun v w B w' B' h hp => by
  obtain ⟨ad, n, c, e, k, l⟩ := hp
  exact ⟨ad, n, c, e, ⟨k.le, k.rds.mv h (.inl rfl)⟩, l⟩⟩
def PN (N : Int) (v : Value) (w : World) (B : Bx) : Prop := ∃ ng ad n c V, v = .agg #[.bool ng, .slice ad n c] ∧ Num w ad n c V ∧ n ≤ LIM ∧ N = sI ng V
/-- The number N. -/
def IsN (N : Int) : VP := ⟨PN N, fun v w B w' B' h hp => by
  obtain ⟨ng, ad, n, c, V, e, k, l, hN⟩ := hp
  obtain ⟨xs, h1, h2, h3⟩ := k.row
  exact ⟨ng, ad, n, c, V, e, ⟨k.le, xs, h1.mv h (.inl rfl), h2, h3⟩, l, hN⟩⟩
theorem sI_named2 (N : Int) : sI (decide (N < 0)) (N.natAbs : Int) = N := by
  unfold sI
  by_cases h : N < 0
  · rw [decide_eq_true h, if_pos rfl]; omega
  · rw [decide_eq_false h]; simp; omega
theorem weakIN {N : Int} (v : Value) (w : World) (B : Bx) (h : (IsI N).p v w B) : (IsN N).p v w B := by
  obtain ⟨ad, n, c, e, k, l⟩ := h
  exact ⟨_, ad, n, c, _, e, k.num (by omega), l, (sI_named2 N).symm⟩
theorem shapeI {b : Bool} {ad : Option Addr} {n c : Nat} {v : Value} (e : v = .agg #[.bool b, .slice ad n c]) : ∃ cs, v = .agg cs ∧ cs.size = 2 ∧ (cs.all (·.oneCell') = true) ∧ ∀ (j : Nat) (ik : IntKind) (x : Int), (ik = .u32 ∨ ik = .u8) → cs[j]? ≠ some (.int ik x) := by
  refine ⟨_, e, rfl, by simp [Value.oneCell'], fun j ik x _ => ?_⟩
  rcases j with _ | _ | j <;> simp
theorem shape_I {N : Int} : Shape 2 (IsI N) := fun v w B ⟨ad, n, c, e, _⟩ => shapeI e
theorem shape_N {N : Int} : Shape 2 (IsN N) := fun v w B ⟨ng, ad, n, c, V, e, _⟩ => shapeI e
/-- A variable not yet written. -/
abbrev Zero2 : VP := Lit (.agg #[.bool false, .slice none 0 0])
theorem shape_Z : Shape 2 Zero2 := fun v w B e => shapeI e
theorem Shape.two {n : Nat} {D : VP} (h : Shape n D) (v : Value) (w : World) (B : Bx) (hp : D.p v w B) : ∃ cs, v = .agg cs ∧ cs.size = n := by
  obtain ⟨cs, e, hn, _⟩ := h v w B hp
  exact ⟨cs, e, hn⟩
theorem tyI : TyOk Tryz.prog 34 2 := ⟨⟨_, Tryz.underlying34, rfl⟩, by kernel_rfl⟩
theorem zeroI : (Tryz.prog.info? 34).map (·.zero) = some (some (.agg #[.bool false, .slice none 0 0])) := by kernel_rfl
theorem zero_isI (w : World) (B : Bx) : (IsI 0).p (.agg #[.bool false, .slice none 0 0]) w B := by
  refine ⟨none, 0, 0, rfl, ⟨Nat.le_refl _, ?_⟩, Nat.zero_le _⟩
  show Rds w .u32 none 0 (dg 4294967296 0)
  rw [dg_zero]
  exact Rds.nil _ _ _

theorem RetInt.con {N : Int} {w : World} {B : Bx} {e : Ending} {w' : World} (hN : Fits N) (h : RetInt N w e w') : ∃ v, e = .returned v ∧ (IsI N).p v w' B ∧ Below w.heap.size w w' := by
  obtain ⟨ad, n, c, rfl, k, hb⟩ := h
  obtain ⟨q, hq, hf⟩ := hN
  exact ⟨_, rfl, ⟨ad, n, c, rfl, k, Nat.le_trans (k.len_le q hf) hq⟩, hb⟩
theorem RetBB.con {r : Bool} {w : World} {B : Bx} {e : Ending} {w' : World} (h : RetBB r w e w') : ∃ v, e = .returned v ∧ (IsB r).p v w' B ∧ Below w.heap.size w w' := ⟨_, h.1, rfl, h.2⟩
theorem con_cmp (X Y : Int) : Con Tryz.prog 50 [IsN X, IsN Y] (Lit (.int .i64 (cmpI X Y))) := by
  refine ⟨fun _ _ => by go_simp, fun vs w B hB hV => ?_⟩
  match vs, hV with
  | [v, u], ⟨h1, h2, _⟩ =>
    obtain ⟨ng, ad, n, c, V, rfl, k, l, rfl⟩ := h1
    obtain ⟨ng2, ad2, n2, c2, V2, rfl, k2, l2, rfl⟩ := h2
    exact (wcmp_calls ng ad n c V ng2 ad2 n2 c2 V2 w k (by have := lim_eq; omega) k2 (by have := lim_eq; omega)).mono fun e w' h => ⟨_, h.1, rfl, h.2⟩
theorem con_same (X Y : Int) : Con Tryz.prog 69 [IsI X, IsI Y] (IsB (decide (X = Y))) := by
  refine ⟨fun _ _ => by go_simp, fun vs w B hB hV => ?_⟩
  match vs, hV with
  | [v, u], ⟨h1, h2, _⟩ =>
    obtain ⟨ad, n, c, rfl, k, l⟩ := h1
    obtain ⟨ad2, n2, c2, rfl, k2, l2⟩ := h2
    refine (sameInt_calls _ _ ad ad2 n n2 c c2 _ _ w k k2 (by omega) (by omega) (by have := lim_eq; omega) (by have := lim_eq; omega)).mono fun e w' h => ?_
    rw [show ((decide (X < 0) == decide (Y < 0)) && decide ((X.natAbs : Int) = Y.natAbs)) = decide (X = Y) from ?_] at h
    · exact h.con
    · by_cases h1 : X < 0 <;> by_cases h2 : Y < 0 <;> simp [h1, h2] <;> omega
theorem con_sameT {X Y : Int} (h : X = Y) : Con Tryz.prog 69 [IsI X, IsI Y] (IsB true) := by
  have := con_same X Y
  rwa [decide_eq_true h] at this
section
variable {need : List (Tmp × FD)} {d : Option Tmp} {ty : TypeId} {pos : String} {af : Array Edge} {g : Option (Nat × Bool)}
end
end Go.Proofs.YtoimhjcpeifegaaGreatDoor


/- Printed by ieee3.py. -/
namespace Go.Proofs.YtoimhjcpeifegaaGreatDoor
open Go.RowKit

theorem iint_64 (w : World) (hS : Shapes w) (hT : Tab w) (x : Int) (hx : 0 ≤ x ∧ x < 18446744073709551616) : Calls Tryz.prog 49 #[.int .u64 x] w (RetIntB (intN 64 x) (intOk 64 x) w) := by
  have b0 : Below w.heap.size w (w.alloc (.cells #[.bool false, .slice none 0 0] 34)) := (Below.refl _ _).alloc (Nat.le_refl _) _
  have k0 : Cel (w.alloc (.cells #[.bool false, .slice none 0 0] 34)) w.heap.size 34 [.bool false, .slice none 0 0] := Cel.made _ _ _ _ rfl
  have HP := Lib.hid (parts_64 _ (hS.below b0 (Nat.le_refl _)) (hT.below b0 (Nat.le_refl _)) x hx)
  have hM := pM_bd (W := 64) (by unfold Wide; omega) x
  have hE := pE_bd (W := 64) (by unfold Wide; omega) x
  have H1 := Lib.hid (show intOk 64 x = (pOk 64 x && decide (0 ≤ pE 64 x)) from rfl)
  have H2 := Lib.hid (show intV 64 x = if intOk 64 x then pM 64 x * 2 ^ (pE 64 x).toNat else 0 from rfl)
  have H3 := Lib.hid (show intN 64 x = if pNeg 64 x then -intV 64 x else intV 64 x from rfl)
  generalize intOk 64 x = ok at *
  generalize intN 64 x = N at *
  generalize intV 64 x = V at *
  generalize pNeg 64 x = ng at *
  generalize pM 64 x = m at *
  generalize pE 64 x = p at *
  generalize pOk 64 x = fin at *
  cases fin
  · have HK := Lib.hid (show ok = false from H1.out)
    have HV := Lib.hid (show N = 0 by rw [H3.out, H2.out, HK.out]; cases ng <;> rfl)
    clear H1 H2 H3
    go_enter Tryz.func49, Tryz.ntmps49
    go_wp2_with fail
    refine (HP.out).mono ?_
    rintro e w1 ⟨rfl, b1⟩
    have k1 := k0.next b1
    have b2 := below_trans b0 b1
    have c0 := k1.cell 0 _ rfl
    have c1 := k1.cell 1 _ rfl
    have g0 := k1.free 0
    have g1 := k1.free 1
    go_wp2
    refine bodyPost_ret (results_row_tmp rfl _ _ w.heap.size 34 #[.bool false, .slice none 0 0] (0, 0) _ rfl ((k1.set 0 _).set 1 _).row Tryz.underlying34 rfl size_int) rfl ?_
    rw [HV.out, HK.out]
    refine ⟨none, 0, 0, rfl, ⟨Nat.le_refl _, by rw [show ((0 : Int).natAbs : Int) = 0 from rfl, dg_zero]; exact Rds.nil _ _ _⟩, ?_⟩
    exact below_set (below_set b2 _ _ _ (Nat.le_refl _)) _ _ _ (Nat.le_refl _)
  · by_cases hp0 : p < 0
    · have HK := Lib.hid (show ok = false by rw [H1.out, decide_eq_false (by omega)]; rfl)
      have HV := Lib.hid (show N = 0 by rw [H3.out, H2.out, HK.out]; cases ng <;> rfl)
      clear H1 H2 H3
      go_enter Tryz.func49, Tryz.ntmps49
      go_wp2_with fail
      refine (HP.out).mono ?_
      rintro e w1 ⟨rfl, b1⟩
      have k1 := k0.next b1
      have b2 := below_trans b0 b1
      have c0 := k1.cell 0 _ rfl
      have c1 := k1.cell 1 _ rfl
      have g0 := k1.free 0
      have g1 := k1.free 1
      go_wp2
      refine bodyPost_ret (results_row_tmp rfl _ _ w.heap.size 34 #[.bool false, .slice none 0 0] (0, 0) _ rfl ((k1.set 0 _).set 1 _).row Tryz.underlying34 rfl size_int) rfl ?_
      rw [HV.out, HK.out]
      refine ⟨none, 0, 0, rfl, ⟨Nat.le_refl _, by rw [show ((0 : Int).natAbs : Int) = 0 from rfl, dg_zero]; exact Rds.nil _ _ _⟩, ?_⟩
      exact below_set (below_set b2 _ _ _ (Nat.le_refl _)) _ _ _ (Nat.le_refl _)
    · have HK := Lib.hid (show ok = true by rw [H1.out, decide_eq_true (by omega)]; rfl)
      have HV := Lib.hid (show V = m * 2 ^ p.toNat by rw [H2.out, HK.out]; rfl)
      have HN := Lib.hid (show N = sI ng V from H3.out)
      obtain ⟨s1, s2, s3, s4⟩ := shl_fits m 2 p hM.1 (Int.lt_of_lt_of_le hM.2 (by decide)) (by omega) (by omega)
      rw [← HV.out] at s2 s3 s4
      have S := Lib.hid s4
      have S2 := Lib.hid s2
      have S1 := Lib.hid s1
      clear H1 H2 H3 s4 s2 s1
      go_enter Tryz.func49, Tryz.ntmps49
      go_wp2_with fail
      refine (HP.out).mono ?_
      rintro e w1 ⟨rfl, b1⟩
      have k1 := k0.next b1
      have b2 := below_trans b0 b1
      have F1 := Lib.hid ((from_calls m w1 hM.1 (by omega)).mono fun e w' q => q.can)
      go_wp2_with fail
      refine (F1.out).mono ?_
      rintro e w2 ⟨ad2, n2, d2, rfl, f2, b3⟩
      have l2 := f2.len_le 2 (Int.lt_of_lt_of_le hM.2 (by decide))
      have H := num_shl ad2 n2 d2 m p w2 (f2.num hM.1) (by omega) (by omega)
      rw [S1.out, S2.out] at H
      have F2 := Lib.hid H
      clear H
      go_wp2_with fail
      refine (F2.out).mono ?_
      rintro e w3 ⟨ad3, n3, d3, rfl, f3, b4⟩
      have l3 := f3.len_le _ S.out
      have F3 := Lib.hid (wnorm_calls ng ad3 n3 d3 V w3 (f3.num s3) (by omega))
      rw [← HN.out] at F3
      go_wp2_with fail
      refine (F3.out).mono ?_
      rintro e w4 ⟨ad4, n4, d4, rfl, f4, b5⟩
      have k4 := ((k1.next b3).next b4).next b5
      have b6 := below_trans b2 (below_trans b3 (below_trans b4 b5))
      have c0 := k4.cell 0 _ rfl
      have c1 := k4.cell 1 _ rfl
      have g0 := k4.free 0
      have g1 := k4.free 1
      go_wp2
      refine bodyPost_ret (results_row_tmp rfl _ _ w.heap.size 34 #[.bool (decide (N < 0)), .slice ad4 n4 d4] (0, 0) _ rfl ((k4.set 0 _).set 1 _).row Tryz.underlying34 rfl size_int) rfl ?_
      rw [HK.out]
      exact ⟨_, _, _, rfl, f4.poke2 k4 _ _, below_set (below_set b6 _ _ _ (Nat.le_refl _)) _ _ _ (Nat.le_refl _)⟩
end Go.Proofs.YtoimhjcpeifegaaGreatDoor


/- Printed by ieee3.py. -/
namespace Go.Proofs.YtoimhjcpeifegaaGreatDoor
open Go.RowKit

theorem iint_16 (w : World) (hS : Shapes w) (hT : Tab w) (x : Int) (hx : 0 ≤ x ∧ x < 65536) : Calls Tryz.prog 71 #[.int .u16 x] w (RetIntB (intN 16 x) (intOk 16 x) w) := by
  have b0 : Below w.heap.size w (w.alloc (.cells #[.bool false, .slice none 0 0] 34)) := (Below.refl _ _).alloc (Nat.le_refl _) _
  have k0 : Cel (w.alloc (.cells #[.bool false, .slice none 0 0] 34)) w.heap.size 34 [.bool false, .slice none 0 0] := Cel.made _ _ _ _ rfl
  have HP := Lib.hid (parts_16 _ (hS.below b0 (Nat.le_refl _)) (hT.below b0 (Nat.le_refl _)) x hx)
  have hM := pM_bd (W := 16) (by unfold Wide; omega) x
  have hE := pE_bd (W := 16) (by unfold Wide; omega) x
  have H1 := Lib.hid (show intOk 16 x = (pOk 16 x && decide (0 ≤ pE 16 x)) from rfl)
  have H2 := Lib.hid (show intV 16 x = if intOk 16 x then pM 16 x * 2 ^ (pE 16 x).toNat else 0 from rfl)
  have H3 := Lib.hid (show intN 16 x = if pNeg 16 x then -intV 16 x else intV 16 x from rfl)
  generalize intOk 16 x = ok at *
  generalize intN 16 x = N at *
  generalize intV 16 x = V at *
  generalize pNeg 16 x = ng at *
  generalize pM 16 x = m at *
  generalize pE 16 x = p at *
  generalize pOk 16 x = fin at *
  cases fin
  · have HK := Lib.hid (show ok = false from H1.out)
    have HV := Lib.hid (show N = 0 by rw [H3.out, H2.out, HK.out]; cases ng <;> rfl)
    clear H1 H2 H3
    go_enter Tryz.func71, Tryz.ntmps71
    go_wp2_with fail
    refine (HP.out).mono ?_
    rintro e w1 ⟨rfl, b1⟩
    have k1 := k0.next b1
    have b2 := below_trans b0 b1
    have c0 := k1.cell 0 _ rfl
    have c1 := k1.cell 1 _ rfl
    have g0 := k1.free 0
    have g1 := k1.free 1
    go_wp2
    refine bodyPost_ret (results_row_tmp rfl _ _ w.heap.size 34 #[.bool false, .slice none 0 0] (0, 0) _ rfl ((k1.set 0 _).set 1 _).row Tryz.underlying34 rfl size_int) rfl ?_
    rw [HV.out, HK.out]
    refine ⟨none, 0, 0, rfl, ⟨Nat.le_refl _, by rw [show ((0 : Int).natAbs : Int) = 0 from rfl, dg_zero]; exact Rds.nil _ _ _⟩, ?_⟩
    exact below_set (below_set b2 _ _ _ (Nat.le_refl _)) _ _ _ (Nat.le_refl _)
  · by_cases hp0 : p < 0
    · have HK := Lib.hid (show ok = false by rw [H1.out, decide_eq_false (by omega)]; rfl)
      have HV := Lib.hid (show N = 0 by rw [H3.out, H2.out, HK.out]; cases ng <;> rfl)
      clear H1 H2 H3
      go_enter Tryz.func71, Tryz.ntmps71
      go_wp2_with fail
      refine (HP.out).mono ?_
      rintro e w1 ⟨rfl, b1⟩
      have k1 := k0.next b1
      have b2 := below_trans b0 b1
      have c0 := k1.cell 0 _ rfl
      have c1 := k1.cell 1 _ rfl
      have g0 := k1.free 0
      have g1 := k1.free 1
      go_wp2
      refine bodyPost_ret (results_row_tmp rfl _ _ w.heap.size 34 #[.bool false, .slice none 0 0] (0, 0) _ rfl ((k1.set 0 _).set 1 _).row Tryz.underlying34 rfl size_int) rfl ?_
      rw [HV.out, HK.out]
      refine ⟨none, 0, 0, rfl, ⟨Nat.le_refl _, by rw [show ((0 : Int).natAbs : Int) = 0 from rfl, dg_zero]; exact Rds.nil _ _ _⟩, ?_⟩
      exact below_set (below_set b2 _ _ _ (Nat.le_refl _)) _ _ _ (Nat.le_refl _)
    · have HK := Lib.hid (show ok = true by rw [H1.out, decide_eq_true (by omega)]; rfl)
      have HV := Lib.hid (show V = m * 2 ^ p.toNat by rw [H2.out, HK.out]; rfl)
      have HN := Lib.hid (show N = sI ng V from H3.out)
      obtain ⟨s1, s2, s3, s4⟩ := shl_fits m 2 p hM.1 (Int.lt_of_lt_of_le hM.2 (by decide)) (by omega) (by omega)
      rw [← HV.out] at s2 s3 s4
      have S := Lib.hid s4
      have S2 := Lib.hid s2
      have S1 := Lib.hid s1
      clear H1 H2 H3 s4 s2 s1
      go_enter Tryz.func71, Tryz.ntmps71
      go_wp2_with fail
      refine (HP.out).mono ?_
      rintro e w1 ⟨rfl, b1⟩
      have k1 := k0.next b1
      have b2 := below_trans b0 b1
      have F1 := Lib.hid ((from_calls m w1 hM.1 (by omega)).mono fun e w' q => q.can)
      go_wp2_with fail
      refine (F1.out).mono ?_
      rintro e w2 ⟨ad2, n2, d2, rfl, f2, b3⟩
      have l2 := f2.len_le 2 (Int.lt_of_lt_of_le hM.2 (by decide))
      have H := num_shl ad2 n2 d2 m p w2 (f2.num hM.1) (by omega) (by omega)
      rw [S1.out, S2.out] at H
      have F2 := Lib.hid H
      clear H
      go_wp2_with fail
      refine (F2.out).mono ?_
      rintro e w3 ⟨ad3, n3, d3, rfl, f3, b4⟩
      have l3 := f3.len_le _ S.out
      have F3 := Lib.hid (wnorm_calls ng ad3 n3 d3 V w3 (f3.num s3) (by omega))
      rw [← HN.out] at F3
      go_wp2_with fail
      refine (F3.out).mono ?_
      rintro e w4 ⟨ad4, n4, d4, rfl, f4, b5⟩
      have k4 := ((k1.next b3).next b4).next b5
      have b6 := below_trans b2 (below_trans b3 (below_trans b4 b5))
      have c0 := k4.cell 0 _ rfl
      have c1 := k4.cell 1 _ rfl
      have g0 := k4.free 0
      have g1 := k4.free 1
      go_wp2
      refine bodyPost_ret (results_row_tmp rfl _ _ w.heap.size 34 #[.bool (decide (N < 0)), .slice ad4 n4 d4] (0, 0) _ rfl ((k4.set 0 _).set 1 _).row Tryz.underlying34 rfl size_int) rfl ?_
      rw [HK.out]
      exact ⟨_, _, _, rfl, f4.poke2 k4 _ _, below_set (below_set b6 _ _ _ (Nat.le_refl _)) _ _ _ (Nat.le_refl _)⟩
end Go.Proofs.YtoimhjcpeifegaaGreatDoor


/- Printed by ieee3.py. -/
namespace Go.Proofs.YtoimhjcpeifegaaGreatDoor
open Go.RowKit

theorem iint_32 (w : World) (hS : Shapes w) (hT : Tab w) (x : Int) (hx : 0 ≤ x ∧ x < 4294967296) : Calls Tryz.prog 72 #[.int .u32 x] w (RetIntB (intN 32 x) (intOk 32 x) w) := by
  have b0 : Below w.heap.size w (w.alloc (.cells #[.bool false, .slice none 0 0] 34)) := (Below.refl _ _).alloc (Nat.le_refl _) _
  have k0 : Cel (w.alloc (.cells #[.bool false, .slice none 0 0] 34)) w.heap.size 34 [.bool false, .slice none 0 0] := Cel.made _ _ _ _ rfl
  have HP := Lib.hid (parts_32 _ (hS.below b0 (Nat.le_refl _)) (hT.below b0 (Nat.le_refl _)) x hx)
  have hM := pM_bd (W := 32) (by unfold Wide; omega) x
  have hE := pE_bd (W := 32) (by unfold Wide; omega) x
  have H1 := Lib.hid (show intOk 32 x = (pOk 32 x && decide (0 ≤ pE 32 x)) from rfl)
  have H2 := Lib.hid (show intV 32 x = if intOk 32 x then pM 32 x * 2 ^ (pE 32 x).toNat else 0 from rfl)
  have H3 := Lib.hid (show intN 32 x = if pNeg 32 x then -intV 32 x else intV 32 x from rfl)
  generalize intOk 32 x = ok at *
  generalize intN 32 x = N at *
  generalize intV 32 x = V at *
  generalize pNeg 32 x = ng at *
  generalize pM 32 x = m at *
  generalize pE 32 x = p at *
  generalize pOk 32 x = fin at *
  cases fin
  · have HK := Lib.hid (show ok = false from H1.out)
    have HV := Lib.hid (show N = 0 by rw [H3.out, H2.out, HK.out]; cases ng <;> rfl)
    clear H1 H2 H3
    go_enter Tryz.func72, Tryz.ntmps72
    go_wp2_with fail
    refine (HP.out).mono ?_
    rintro e w1 ⟨rfl, b1⟩
    have k1 := k0.next b1
    have b2 := below_trans b0 b1
    have c0 := k1.cell 0 _ rfl
    have c1 := k1.cell 1 _ rfl
    have g0 := k1.free 0
    have g1 := k1.free 1
    go_wp2
    refine bodyPost_ret (results_row_tmp rfl _ _ w.heap.size 34 #[.bool false, .slice none 0 0] (0, 0) _ rfl ((k1.set 0 _).set 1 _).row Tryz.underlying34 rfl size_int) rfl ?_
    rw [HV.out, HK.out]
    refine ⟨none, 0, 0, rfl, ⟨Nat.le_refl _, by rw [show ((0 : Int).natAbs : Int) = 0 from rfl, dg_zero]; exact Rds.nil _ _ _⟩, ?_⟩
    exact below_set (below_set b2 _ _ _ (Nat.le_refl _)) _ _ _ (Nat.le_refl _)
  · by_cases hp0 : p < 0
    · have HK := Lib.hid (show ok = false by rw [H1.out, decide_eq_false (by omega)]; rfl)
      have HV := Lib.hid (show N = 0 by rw [H3.out, H2.out, HK.out]; cases ng <;> rfl)
      clear H1 H2 H3
      go_enter Tryz.func72, Tryz.ntmps72
      go_wp2_with fail
      refine (HP.out).mono ?_
      rintro e w1 ⟨rfl, b1⟩
      have k1 := k0.next b1
      have b2 := below_trans b0 b1
      have c0 := k1.cell 0 _ rfl
      have c1 := k1.cell 1 _ rfl
      have g0 := k1.free 0
      have g1 := k1.free 1
      go_wp2
      refine bodyPost_ret (results_row_tmp rfl _ _ w.heap.size 34 #[.bool false, .slice none 0 0] (0, 0) _ rfl ((k1.set 0 _).set 1 _).row Tryz.underlying34 rfl size_int) rfl ?_
      rw [HV.out, HK.out]
      refine ⟨none, 0, 0, rfl, ⟨Nat.le_refl _, by rw [show ((0 : Int).natAbs : Int) = 0 from rfl, dg_zero]; exact Rds.nil _ _ _⟩, ?_⟩
      exact below_set (below_set b2 _ _ _ (Nat.le_refl _)) _ _ _ (Nat.le_refl _)
    · have HK := Lib.hid (show ok = true by rw [H1.out, decide_eq_true (by omega)]; rfl)
      have HV := Lib.hid (show V = m * 2 ^ p.toNat by rw [H2.out, HK.out]; rfl)
      have HN := Lib.hid (show N = sI ng V from H3.out)
      obtain ⟨s1, s2, s3, s4⟩ := shl_fits m 2 p hM.1 (Int.lt_of_lt_of_le hM.2 (by decide)) (by omega) (by omega)
      rw [← HV.out] at s2 s3 s4
      have S := Lib.hid s4
      have S2 := Lib.hid s2
      have S1 := Lib.hid s1
      clear H1 H2 H3 s4 s2 s1
      go_enter Tryz.func72, Tryz.ntmps72
      go_wp2_with fail
      refine (HP.out).mono ?_
      rintro e w1 ⟨rfl, b1⟩
      have k1 := k0.next b1
      have b2 := below_trans b0 b1
      have F1 := Lib.hid ((from_calls m w1 hM.1 (by omega)).mono fun e w' q => q.can)
      go_wp2_with fail
      refine (F1.out).mono ?_
      rintro e w2 ⟨ad2, n2, d2, rfl, f2, b3⟩
      have l2 := f2.len_le 2 (Int.lt_of_lt_of_le hM.2 (by decide))
      have H := num_shl ad2 n2 d2 m p w2 (f2.num hM.1) (by omega) (by omega)
      rw [S1.out, S2.out] at H
      have F2 := Lib.hid H
      clear H
      go_wp2_with fail
      refine (F2.out).mono ?_
      rintro e w3 ⟨ad3, n3, d3, rfl, f3, b4⟩
      have l3 := f3.len_le _ S.out
      have F3 := Lib.hid (wnorm_calls ng ad3 n3 d3 V w3 (f3.num s3) (by omega))
      rw [← HN.out] at F3
      go_wp2_with fail
      refine (F3.out).mono ?_
      rintro e w4 ⟨ad4, n4, d4, rfl, f4, b5⟩
      have k4 := ((k1.next b3).next b4).next b5
      have b6 := below_trans b2 (below_trans b3 (below_trans b4 b5))
      have c0 := k4.cell 0 _ rfl
      have c1 := k4.cell 1 _ rfl
      have g0 := k4.free 0
      have g1 := k4.free 1
      go_wp2
      refine bodyPost_ret (results_row_tmp rfl _ _ w.heap.size 34 #[.bool (decide (N < 0)), .slice ad4 n4 d4] (0, 0) _ rfl ((k4.set 0 _).set 1 _).row Tryz.underlying34 rfl size_int) rfl ?_
      rw [HK.out]
      exact ⟨_, _, _, rfl, f4.poke2 k4 _ _, below_set (below_set b6 _ _ _ (Nat.le_refl _)) _ _ _ (Nat.le_refl _)⟩
end Go.Proofs.YtoimhjcpeifegaaGreatDoor

