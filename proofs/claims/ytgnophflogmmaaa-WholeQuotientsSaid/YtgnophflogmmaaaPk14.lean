/- Contracts of functions, and plain facts, part 14. -/
import Derived.Test.YtgnophflogmmaaaPk7
import Derived.Test.YtgnophflogmmaaaPk10
import Derived.Test.YtgnophflogmmaaaPk12
import Derived.Test.YtgnophflogmmaaaPk13
set_option linter.unusedVariables false
set_option linter.unusedSimpArgs false
/- crucibleref03: Int64. (Printed by ref03.py.) -/
namespace Go.Proofs.Ytgnophflogmmaaa
open Go.RowKit

set_option maxRecDepth 20000 in
set_option maxHeartbeats 1000000 in
theorem r3int64_calls (ng1 : Bool) (ad1 : Option Addr) (n1 c1 : Nat) (V1 : Int) (w : World) (h1 : Num w ad1 n1 c1 V1) (hn1 : n1 ≤ 1099511627776) :
    Calls Try.prog 31 #[.agg #[.bool ng1, .slice ad1 n1 c1]] w (fun e w' => e = .returned (.tuple #[.int .i64 (if okI64 (sI ng1 V1) then sI ng1 V1 else 0), .bool (okI64 (sI ng1 V1))]) ∧ Below w.heap.size w w') := by
  have hV0 := h1.nonneg
  have hA1 := (sI_abs ng1 V1 hV0).symm
  have b0 := Below.refl w.heap.size w
  have l0 : Below w.heap.size w (w.alloc (.cells #[.bool ng1, .slice ad1 n1 c1] 25)) := (Below.refl _ _).alloc (Nat.le_refl _) _
  have b1 : Below w.heap.size w (w.alloc (.cells #[.bool ng1, .slice ad1 n1 c1] 25)) := below_trans b0 l0
  have k0 : Cel (w.alloc (.cells #[.bool ng1, .slice ad1 n1 c1] 25)) w.heap.size 25 [.bool ng1, .slice ad1 n1 c1] := Cel.made _ _ _ _ (by simp)
  replace h1 := h1.below b1 (Nat.le_refl _)
  clear b0 l0
  have hg0 : w.heap.size ≤ w.heap.size := Nat.le_refl _
  have hU := num_ruint ad1 n1 c1 V1 (w.alloc (.cells #[.bool ng1, .slice ad1 n1 c1] 25)) h1 hn1
  have hB := (fun (w2 : World) (h2 : Num w2 ad1 n1 c1 V1) => r3below_calls ng1 ad1 n1 c1 V1 w2 h2 hn1)
  generalize sI ng1 V1 = N at *
  obtain ⟨ok, hok⟩ : ∃ ok, okI64 N = ok := ⟨_, rfl⟩
  obtain ⟨r, hr⟩ : ∃ r, (if ok then N else 0) = r := ⟨_, rfl⟩
  rw [hok, hr]
  have HOK := Lib.hid hok
  have HR := Lib.hid hr
  clear hok hr
  have HB := Lib.hid hB
  clear hB
  by_cases hv : V1 < 18446744073709551616
  · have e1 : low64 V1 = V1 := if_pos hv
    have e2 : fits64 V1 = true := decide_eq_true hv
    rw [e1, e2] at hU
    clear e1 e2
    by_cases hneg : N < 0
    · have hd : decide (N < 0) = true := decide_eq_true hneg
      have HD := Lib.hid hd
      clear hd
      by_cases hc : V1 ≤ 9223372036854775808
      · skip
        obtain rfl : ok = true := by rw [← HOK.out]; exact decide_eq_true (by omega)
        obtain rfl : r = N := by rw [← HR.out]; simp
        have hE : wrap64 (-wrap64 V1) = r := by unfold wrap64; omega
        have HE := Lib.hid hE
        clear hE
        clear hA1
        go_enter Try.func31, Try.ntmps31
        have h := Lib.hid (hU)
        have e0a := k0.cell 0 _ rfl
        have e0b := k0.cell 1 _ rfl
        go_wp2_with fail
        with_reducible refine (h.out).mono ?_
        rintro e v1 ⟨rfl, b⟩
        clear h
        clear e0a e0b
        replace k0 := k0.next b
        replace h1 := h1.below b (Nat.le_refl _)
        have bb := below_trans b1 b
        clear b b1
        have b1 := bb
        clear bb
        clear hU
        have hB := HB.out v1 h1
        rw [HD.out] at hB
        have h := Lib.hid (hB)
        have e0a := k0.cell 0 _ rfl
        have e0b := k0.cell 1 _ rfl
        go_wp2_with fail
        with_reducible refine (h.out).mono ?_
        rintro e v2 ⟨rfl, b⟩
        clear h
        clear e0a e0b
        replace k0 := k0.next b
        replace h1 := h1.below b (Nat.le_refl _)
        have bb := below_trans b1 b
        clear b b1
        have b1 := bb
        clear bb
        clear hB
        go_wp2_with fail
        go_ret2
        refine ⟨?_, b1⟩
        rw [← HE.out]
        rfl
      · skip
        obtain rfl : ok = false := by rw [← HOK.out]; exact decide_eq_false (by omega)
        obtain rfl : r = 0 := by rw [← HR.out]; simp
        clear hA1
        go_enter Try.func31, Try.ntmps31
        have h := Lib.hid (hU)
        have e0a := k0.cell 0 _ rfl
        have e0b := k0.cell 1 _ rfl
        go_wp2_with fail
        with_reducible refine (h.out).mono ?_
        rintro e v1 ⟨rfl, b⟩
        clear h
        clear e0a e0b
        replace k0 := k0.next b
        replace h1 := h1.below b (Nat.le_refl _)
        have bb := below_trans b1 b
        clear b b1
        have b1 := bb
        clear bb
        clear hU
        have hB := HB.out v1 h1
        rw [HD.out] at hB
        have h := Lib.hid (hB)
        have e0a := k0.cell 0 _ rfl
        have e0b := k0.cell 1 _ rfl
        go_wp2_with fail
        with_reducible refine (h.out).mono ?_
        rintro e v2 ⟨rfl, b⟩
        clear h
        clear e0a e0b
        replace k0 := k0.next b
        replace h1 := h1.below b (Nat.le_refl _)
        have bb := below_trans b1 b
        clear b b1
        have b1 := bb
        clear bb
        clear hB
        have hB := HB.out v2 h1
        rw [HD.out] at hB
        have h := Lib.hid (hB)
        have e0a := k0.cell 0 _ rfl
        have e0b := k0.cell 1 _ rfl
        go_wp2_with fail
        with_reducible refine (h.out).mono ?_
        rintro e v3 ⟨rfl, b⟩
        clear h
        clear e0a e0b
        replace k0 := k0.next b
        replace h1 := h1.below b (Nat.le_refl _)
        have bb := below_trans b1 b
        clear b b1
        have b1 := bb
        clear bb
        clear hB
        go_wp2_with fail
        go_ret2
        exact ⟨rfl, b1⟩
    · have hd : decide (N < 0) = false := decide_eq_false hneg
      have HD := Lib.hid hd
      clear hd
      by_cases hc : V1 < 9223372036854775808
      · skip
        obtain rfl : ok = true := by rw [← HOK.out]; exact decide_eq_true (by omega)
        obtain rfl : r = N := by rw [← HR.out]; simp
        have hE : V1 = r := by omega
        have HE := Lib.hid hE
        clear hE
        clear hA1
        go_enter Try.func31, Try.ntmps31
        have h := Lib.hid (hU)
        have e0a := k0.cell 0 _ rfl
        have e0b := k0.cell 1 _ rfl
        go_wp2_with fail
        with_reducible refine (h.out).mono ?_
        rintro e v1 ⟨rfl, b⟩
        clear h
        clear e0a e0b
        replace k0 := k0.next b
        replace h1 := h1.below b (Nat.le_refl _)
        have bb := below_trans b1 b
        clear b b1
        have b1 := bb
        clear bb
        clear hU
        have hB := HB.out v1 h1
        rw [HD.out] at hB
        have h := Lib.hid (hB)
        have e0a := k0.cell 0 _ rfl
        have e0b := k0.cell 1 _ rfl
        go_wp2_with fail
        with_reducible refine (h.out).mono ?_
        rintro e v2 ⟨rfl, b⟩
        clear h
        clear e0a e0b
        replace k0 := k0.next b
        replace h1 := h1.below b (Nat.le_refl _)
        have bb := below_trans b1 b
        clear b b1
        have b1 := bb
        clear bb
        clear hB
        have hB := HB.out v2 h1
        rw [HD.out] at hB
        have h := Lib.hid (hB)
        have e0a := k0.cell 0 _ rfl
        have e0b := k0.cell 1 _ rfl
        go_wp2_with fail
        with_reducible refine (h.out).mono ?_
        rintro e v3 ⟨rfl, b⟩
        clear h
        clear e0a e0b
        replace k0 := k0.next b
        replace h1 := h1.below b (Nat.le_refl _)
        have bb := below_trans b1 b
        clear b b1
        have b1 := bb
        clear bb
        clear hB
        go_wp2_with fail
        go_ret2
        refine ⟨?_, b1⟩
        rw [← HE.out]
        rfl
      · skip
        obtain rfl : ok = false := by rw [← HOK.out]; exact decide_eq_false (by omega)
        obtain rfl : r = 0 := by rw [← HR.out]; simp
        clear hA1
        go_enter Try.func31, Try.ntmps31
        have h := Lib.hid (hU)
        have e0a := k0.cell 0 _ rfl
        have e0b := k0.cell 1 _ rfl
        go_wp2_with fail
        with_reducible refine (h.out).mono ?_
        rintro e v1 ⟨rfl, b⟩
        clear h
        clear e0a e0b
        replace k0 := k0.next b
        replace h1 := h1.below b (Nat.le_refl _)
        have bb := below_trans b1 b
        clear b b1
        have b1 := bb
        clear bb
        clear hU
        have hB := HB.out v1 h1
        rw [HD.out] at hB
        have h := Lib.hid (hB)
        have e0a := k0.cell 0 _ rfl
        have e0b := k0.cell 1 _ rfl
        go_wp2_with fail
        with_reducible refine (h.out).mono ?_
        rintro e v2 ⟨rfl, b⟩
        clear h
        clear e0a e0b
        replace k0 := k0.next b
        replace h1 := h1.below b (Nat.le_refl _)
        have bb := below_trans b1 b
        clear b b1
        have b1 := bb
        clear bb
        clear hB
        have hB := HB.out v2 h1
        rw [HD.out] at hB
        have h := Lib.hid (hB)
        have e0a := k0.cell 0 _ rfl
        have e0b := k0.cell 1 _ rfl
        go_wp2_with fail
        with_reducible refine (h.out).mono ?_
        rintro e v3 ⟨rfl, b⟩
        clear h
        clear e0a e0b
        replace k0 := k0.next b
        replace h1 := h1.below b (Nat.le_refl _)
        have bb := below_trans b1 b
        clear b b1
        have b1 := bb
        clear bb
        clear hB
        go_wp2_with fail
        go_ret2
        exact ⟨rfl, b1⟩
  · have e1 : low64 V1 = 0 := if_neg hv
    have e2 : fits64 V1 = false := decide_eq_false hv
    rw [e1, e2] at hU
    clear e1 e2
    obtain rfl : ok = false := by rw [← HOK.out]; exact decide_eq_false (by omega)
    obtain rfl : r = 0 := by rw [← HR.out]; simp
    go_enter Try.func31, Try.ntmps31
    have h := Lib.hid (hU)
    have e0a := k0.cell 0 _ rfl
    have e0b := k0.cell 1 _ rfl
    go_wp2_with fail
    with_reducible refine (h.out).mono ?_
    rintro e v1 ⟨rfl, b⟩
    clear h
    clear e0a e0b
    replace k0 := k0.next b
    replace h1 := h1.below b (Nat.le_refl _)
    have bb := below_trans b1 b
    clear b b1
    have b1 := bb
    clear bb
    clear hU
    go_wp2_with fail
    go_ret2
    exact ⟨rfl, b1⟩

set_option maxRecDepth 20000 in
set_option maxHeartbeats 1000000 in
theorem r3uint64_calls (ng1 : Bool) (ad1 : Option Addr) (n1 c1 : Nat) (V1 : Int) (w : World) (h1 : Num w ad1 n1 c1 V1) (hn1 : n1 ≤ 1099511627776) :
    Calls Try.prog 32 #[.agg #[.bool ng1, .slice ad1 n1 c1]] w (fun e w' => e = .returned (.tuple #[.int .u64 (if okU64 (sI ng1 V1) then sI ng1 V1 else 0), .bool (okU64 (sI ng1 V1))]) ∧ Below w.heap.size w w') := by
  have hV0 := h1.nonneg
  have hA1 := (sI_abs ng1 V1 hV0).symm
  have b0 := Below.refl w.heap.size w
  have l0 : Below w.heap.size w (w.alloc (.cells #[.bool ng1, .slice ad1 n1 c1] 25)) := (Below.refl _ _).alloc (Nat.le_refl _) _
  have b1 : Below w.heap.size w (w.alloc (.cells #[.bool ng1, .slice ad1 n1 c1] 25)) := below_trans b0 l0
  have k0 : Cel (w.alloc (.cells #[.bool ng1, .slice ad1 n1 c1] 25)) w.heap.size 25 [.bool ng1, .slice ad1 n1 c1] := Cel.made _ _ _ _ (by simp)
  replace h1 := h1.below b1 (Nat.le_refl _)
  clear b0 l0
  have hg0 : w.heap.size ≤ w.heap.size := Nat.le_refl _
  have hB := r3below_calls ng1 ad1 n1 c1 V1 (w.alloc (.cells #[.bool ng1, .slice ad1 n1 c1] 25)) h1 hn1
  generalize sI ng1 V1 = N at *
  obtain ⟨ok, hok⟩ : ∃ ok, okU64 N = ok := ⟨_, rfl⟩
  obtain ⟨r, hr⟩ : ∃ r, (if ok then N else 0) = r := ⟨_, rfl⟩
  rw [hok, hr]
  have HOK := Lib.hid hok
  have HR := Lib.hid hr
  clear hok hr
  by_cases hneg : N < 0
  · have hd : decide (N < 0) = true := decide_eq_true hneg
    rw [hd] at hB
    clear hd
    obtain rfl : ok = false := by rw [← HOK.out]; exact decide_eq_false (by omega)
    obtain rfl : r = 0 := by rw [← HR.out]; simp
    go_enter Try.func32, Try.ntmps32
    have h := Lib.hid (hB)
    have e0a := k0.cell 0 _ rfl
    have e0b := k0.cell 1 _ rfl
    go_wp2_with fail
    with_reducible refine (h.out).mono ?_
    rintro e v1 ⟨rfl, b⟩
    clear h
    clear e0a e0b
    replace k0 := k0.next b
    replace h1 := h1.below b (Nat.le_refl _)
    have bb := below_trans b1 b
    clear b b1
    have b1 := bb
    clear bb
    clear hB
    go_wp2_with fail
    go_ret2
    exact ⟨rfl, b1⟩
  · have hd : decide (N < 0) = false := decide_eq_false hneg
    rw [hd] at hB
    clear hd
    obtain ⟨u, hu⟩ : ∃ u, low64 V1 = u := ⟨_, rfl⟩
    obtain ⟨ft, hft⟩ : ∃ ft, fits64 V1 = ft := ⟨_, rfl⟩
    obtain rfl : ft = ok := by rw [← hft, ← HOK.out]; unfold fits64 okU64; rw [decide_eq_decide]; omega
    obtain rfl : u = r := by rw [← hu, ← HR.out, ← hft]; unfold low64 fits64; simp only [decide_eq_true_eq]; split <;> omega
    have HU := Lib.hid (And.intro hu hft)
    clear hu hft
    go_enter Try.func32, Try.ntmps32
    have h := Lib.hid (hB)
    have e0a := k0.cell 0 _ rfl
    have e0b := k0.cell 1 _ rfl
    go_wp2_with fail
    with_reducible refine (h.out).mono ?_
    rintro e v1 ⟨rfl, b⟩
    clear h
    clear e0a e0b
    replace k0 := k0.next b
    replace h1 := h1.below b (Nat.le_refl _)
    have bb := below_trans b1 b
    clear b b1
    have b1 := bb
    clear bb
    clear hB
    have hU := num_ruint ad1 n1 c1 V1 v1 h1 hn1
    rw [HU.out.1, HU.out.2] at hU
    have h := Lib.hid (hU)
    have e0a := k0.cell 0 _ rfl
    have e0b := k0.cell 1 _ rfl
    go_wp2_with fail
    with_reducible refine (h.out).mono ?_
    rintro e v2 ⟨rfl, b⟩
    clear h
    clear e0a e0b
    replace k0 := k0.next b
    replace h1 := h1.below b (Nat.le_refl _)
    have bb := below_trans b1 b
    clear b b1
    have b1 := bb
    clear bb
    clear hU
    go_wp2_with fail
    go_ret2
    exact ⟨rfl, b1⟩
end Go.Proofs.Ytgnophflogmmaaa

/- whole: Quo. (Printed by whole.py.) -/
namespace Go.Proofs.Ytgnophflogmmaaa
open Go.RowKit

/-- What is left, with the number's sign; 0 where there is no quotient. -/
def tremI (N M : Int) : Int := if M = 0 then 0 else N.tmod M
/-- The quotient cut towards 0 and what is left are told. -/
def RetQuo (Q R : Int) (ok : Bool) (w : World) (e : Ending) (w' : World) : Prop :=
  ∃ ad n c ad2 n2 c2, e = .returned (.tuple #[.agg #[.bool (decide (Q < 0)), .slice ad n c], .agg #[.bool (decide (R < 0)), .slice ad2 n2 c2], .bool ok]) ∧ Can w' ad n c Q.natAbs ∧ Can w' ad2 n2 c2 R.natAbs ∧ Below w.heap.size w w'
theorem results_row2_tmp {P : Program} {fn : Func} {p q u : Tmp} {ty : TypeId} (h : fn.results = #[.cell p ty, .cell q ty, .tmp u]) (tmps : Array Value) (w : World) (g : Nat) (cs : Array Value) (fr : Nat × Nat) (d : TypeDesc) (g2 : Nat) (cs2 : Array Value) (fr2 : Nat × Nat)
    (hp : tmps.getD p undef = .pointer (some ⟨g, 0, none⟩)) (hg : w.heap[g]? = some (.cells cs ty fr)) (hq : tmps.getD q undef = .pointer (some ⟨g2, 0, none⟩)) (hg2 : w.heap[g2]? = some (.cells cs2 ty fr2))
    (hu : P.underlying ty = some d) (hd : (match d with | .struct _ | .array _ _ => true | _ => false) = true) (hi : (P.info? ty).map (·.size) = some cs.size) (hi2 : (P.info? ty).map (·.size) = some cs2.size) :
    (results fn tmps).run P w = .ok (.tuple #[.agg cs, .agg cs2, tmps.getD u undef]) w := by
  have hp' : tmps[p]?.getD undef = .pointer (some ⟨g, 0, none⟩) := by simpa using hp
  have hq' : tmps[q]?.getD undef = .pointer (some ⟨g2, 0, none⟩) := by simpa using hq
  simp [results, h, hp', hq', asAddr, run_loadVar_row w g ty ty cs fr d hg hu hd hi, run_loadVar_row w g2 ty ty cs2 fr2 d hg2 hu hd hi2]

theorem quo_facts (N M V U : Int) (hV : V = N.natAbs) (hU : U = M.natAbs) : V / U = ((N.tdiv M).natAbs : Int) ∧ (decide (sgI (N * M) = -1) && decide (0 < V / U)) = decide (N.tdiv M < 0) ∧
    remI V U = ((tremI N M).natAbs : Int) ∧ (decide (sgI N = -1) && decide (0 < remI V U)) = decide (tremI N M < 0) := by
  have hV0 : 0 ≤ V := by omega
  have hU0 : 0 ≤ U := by omega
  by_cases hM : M = 0
  · have hU2 : U = 0 := by omega
    subst hM
    unfold remI tremI
    rw [if_pos rfl, hU2, if_pos rfl, Int.tdiv_zero, Int.ediv_zero]
    simp
  · have hUp : 0 < U := by omega
    have hq : 0 ≤ V / U := Int.ediv_nonneg hV0 hU0
    have hr : 0 ≤ V % U := Int.emod_nonneg _ (by omega)
    have e1 : V.tdiv U = V / U := Int.tdiv_eq_ediv_of_nonneg hV0
    have e2 : V.tmod U = V % U := Int.tmod_eq_emod_of_nonneg hV0
    have hz : V = 0 → V / U = 0 ∧ V % U = 0 := fun e => by rw [e]; simp
    unfold remI tremI
    rw [if_neg hM, if_neg (by omega), ← sg_mul]
    unfold sgI
    rcases Int.lt_trichotomy N 0 with a | a | a <;> rcases (show M < 0 ∨ 0 < M by omega) with c | c
    · rw [show N = -V by omega, show M = -U by omega, Int.tdiv_neg, Int.neg_tdiv, Int.tmod_neg, Int.neg_tmod, e1, e2, if_pos (by omega), if_pos (by omega)]
      simp
      omega
    · rw [show N = -V by omega, show M = U by omega, Int.neg_tdiv, Int.neg_tmod, e1, e2, if_pos (by omega), if_neg (by omega), if_neg (by omega)]
      simp
      omega
    · rw [show N = V by omega, show M = -U by omega, Int.tdiv_neg, Int.tmod_neg, e1, e2, if_neg (by omega), if_pos (by omega)]
      have := hz (by omega)
      rw [this.1, this.2]
      simp
    · rw [show N = V by omega, show M = U by omega, e1, e2, if_neg (by omega), if_pos (by omega)]
      have := hz (by omega)
      rw [this.1, this.2]
      simp
    · rw [show N = V by omega, show M = -U by omega, Int.tdiv_neg, Int.tmod_neg, e1, e2, if_neg (by omega), if_neg (by omega), if_pos (by omega)]
      simp
      omega
    · rw [show N = V by omega, show M = U by omega, e1, e2, if_neg (by omega), if_neg (by omega), if_neg (by omega), if_neg (by omega)]
      simp
      omega

set_option maxHeartbeats 2000000 in
theorem wquo_calls (ng1 : Bool) (ad1 : Option Addr) (n1 c1 : Nat) (V1 : Int) (ng2 : Bool) (ad2 : Option Addr) (n2 c2 : Nat) (V2 : Int) (w : World) (h1 : Num w ad1 n1 c1 V1) (hn1 : n1 ≤ 70368744177662) (h2 : Num w ad2 n2 c2 V2) (hn2 : n2 ≤ 70368744177662) :
    Calls Try.prog 16 #[.agg #[.bool ng1, .slice ad1 n1 c1], .agg #[.bool ng2, .slice ad2 n2 c2]] w (RetQuo ((sI ng1 V1).tdiv (sI ng2 V2)) (tremI (sI ng1 V1) (sI ng2 V2)) (decide (sI ng2 V2 ≠ 0)) w) := by
  have hV0 := h1.nonneg
  have hU0 := h2.nonneg
  have T1 := Lib.hid h1.lt
  have T2 := Lib.hid h2.lt
  have b0 := Below.refl w.heap.size w
  have l0 : Below w.heap.size w (w.alloc (.cells #[.bool ng1, .slice ad1 n1 c1] 25)) := (Below.refl _ _).alloc (Nat.le_refl _) _
  have b1 : Below w.heap.size w (w.alloc (.cells #[.bool ng1, .slice ad1 n1 c1] 25)) := below_trans b0 l0
  have k0 : Cel (w.alloc (.cells #[.bool ng1, .slice ad1 n1 c1] 25)) w.heap.size 25 [.bool ng1, .slice ad1 n1 c1] := Cel.made _ _ _ _ (by simp)
  have l1 : Below (w.alloc (.cells #[.bool ng1, .slice ad1 n1 c1] 25)).heap.size (w.alloc (.cells #[.bool ng1, .slice ad1 n1 c1] 25)) ((w.alloc (.cells #[.bool ng1, .slice ad1 n1 c1] 25)).alloc (.cells #[.bool ng2, .slice ad2 n2 c2] 25)) := (Below.refl _ _).alloc (Nat.le_refl _) _
  have b2 : Below w.heap.size w ((w.alloc (.cells #[.bool ng1, .slice ad1 n1 c1] 25)).alloc (.cells #[.bool ng2, .slice ad2 n2 c2] 25)) := below_trans b1 l1
  have k1 : Cel ((w.alloc (.cells #[.bool ng1, .slice ad1 n1 c1] 25)).alloc (.cells #[.bool ng2, .slice ad2 n2 c2] 25)) (w.heap.size + 1) 25 [.bool ng2, .slice ad2 n2 c2] := Cel.made _ _ _ _ (by simp)
  replace k0 := k0.next l1
  have l2 : Below ((w.alloc (.cells #[.bool ng1, .slice ad1 n1 c1] 25)).alloc (.cells #[.bool ng2, .slice ad2 n2 c2] 25)).heap.size ((w.alloc (.cells #[.bool ng1, .slice ad1 n1 c1] 25)).alloc (.cells #[.bool ng2, .slice ad2 n2 c2] 25)) (((w.alloc (.cells #[.bool ng1, .slice ad1 n1 c1] 25)).alloc (.cells #[.bool ng2, .slice ad2 n2 c2] 25)).alloc (.cells #[.bool false, .slice none 0 0] 25)) := (Below.refl _ _).alloc (Nat.le_refl _) _
  have b3 : Below w.heap.size w (((w.alloc (.cells #[.bool ng1, .slice ad1 n1 c1] 25)).alloc (.cells #[.bool ng2, .slice ad2 n2 c2] 25)).alloc (.cells #[.bool false, .slice none 0 0] 25)) := below_trans b2 l2
  have k2 : Cel (((w.alloc (.cells #[.bool ng1, .slice ad1 n1 c1] 25)).alloc (.cells #[.bool ng2, .slice ad2 n2 c2] 25)).alloc (.cells #[.bool false, .slice none 0 0] 25)) (w.heap.size + 2) 25 [.bool false, .slice none 0 0] := Cel.made _ _ _ _ (by simp)
  replace k0 := k0.next l2
  replace k1 := k1.next l2
  have l3 : Below (((w.alloc (.cells #[.bool ng1, .slice ad1 n1 c1] 25)).alloc (.cells #[.bool ng2, .slice ad2 n2 c2] 25)).alloc (.cells #[.bool false, .slice none 0 0] 25)).heap.size (((w.alloc (.cells #[.bool ng1, .slice ad1 n1 c1] 25)).alloc (.cells #[.bool ng2, .slice ad2 n2 c2] 25)).alloc (.cells #[.bool false, .slice none 0 0] 25)) ((((w.alloc (.cells #[.bool ng1, .slice ad1 n1 c1] 25)).alloc (.cells #[.bool ng2, .slice ad2 n2 c2] 25)).alloc (.cells #[.bool false, .slice none 0 0] 25)).alloc (.cells #[.bool false, .slice none 0 0] 25)) := (Below.refl _ _).alloc (Nat.le_refl _) _
  have b4 : Below w.heap.size w ((((w.alloc (.cells #[.bool ng1, .slice ad1 n1 c1] 25)).alloc (.cells #[.bool ng2, .slice ad2 n2 c2] 25)).alloc (.cells #[.bool false, .slice none 0 0] 25)).alloc (.cells #[.bool false, .slice none 0 0] 25)) := below_trans b3 l3
  have k3 : Cel ((((w.alloc (.cells #[.bool ng1, .slice ad1 n1 c1] 25)).alloc (.cells #[.bool ng2, .slice ad2 n2 c2] 25)).alloc (.cells #[.bool false, .slice none 0 0] 25)).alloc (.cells #[.bool false, .slice none 0 0] 25)) (w.heap.size + 3) 25 [.bool false, .slice none 0 0] := Cel.made _ _ _ _ (by simp)
  replace k0 := k0.next l3
  replace k1 := k1.next l3
  replace k2 := k2.next l3
  replace h1 := h1.below b4 (Nat.le_refl _)
  replace h2 := h2.below b4 (Nat.le_refl _)
  clear b0 b1 b2 b3 l0 l1 l2 l3
  have hg0 : w.heap.size ≤ w.heap.size := Nat.le_refl _
  have hg1 : w.heap.size ≤ w.heap.size + 1 := Nat.le_add_right _ _
  have hg2 : w.heap.size ≤ w.heap.size + 2 := Nat.le_add_right _ _
  have hg3 : w.heap.size ≤ w.heap.size + 3 := Nat.le_add_right _ _
  have hS := wsigned_calls ng1 ad1 n1 c1 V1 ((((w.alloc (.cells #[.bool ng1, .slice ad1 n1 c1] 25)).alloc (.cells #[.bool ng2, .slice ad2 n2 c2] 25)).alloc (.cells #[.bool false, .slice none 0 0] 25)).alloc (.cells #[.bool false, .slice none 0 0] 25)) h1 (by omega)
  have hS2 : Hid (∀ w2 : World, Below (((((w.alloc (.cells #[.bool ng1, .slice ad1 n1 c1] 25)).alloc (.cells #[.bool ng2, .slice ad2 n2 c2] 25)).alloc (.cells #[.bool false, .slice none 0 0] 25)).alloc (.cells #[.bool false, .slice none 0 0] 25))).heap.size (((((w.alloc (.cells #[.bool ng1, .slice ad1 n1 c1] 25)).alloc (.cells #[.bool ng2, .slice ad2 n2 c2] 25)).alloc (.cells #[.bool false, .slice none 0 0] 25)).alloc (.cells #[.bool false, .slice none 0 0] 25))) w2 → Calls Try.prog 50 #[.agg #[.bool ng2, .slice ad2 n2 c2]] w2 (fun e w' => ∃ ad' n' c', e = .returned (.tuple #[.int .i8 (sgI (sI ng2 V2)), .slice ad' n' c']) ∧ Can w' ad' n' c' V2 ∧ Below w2.heap.size w2 w')) := Lib.hid fun w2 b2 => wsigned_calls ng2 ad2 n2 c2 V2 w2 (h2.below b2 (Nat.le_refl _)) (by omega)
  have hA1 := (sI_abs ng1 V1 hV0).symm
  have hA2 := (sI_abs ng2 V2 hU0).symm
  generalize sI ng1 V1 = N at *
  generalize sI ng2 V2 = M at *
  clear h1 h2
  obtain ⟨z1, z2, z3, z4⟩ := quo_facts N M V1 V2 hA1 hA2
  have hz0 : V2 = 0 ↔ M = 0 := by omega
  have hQ0 : 0 ≤ V1 / V2 := Int.ediv_nonneg hV0 hU0
  have hR0 : 0 ≤ remI V1 V2 := remI_nonneg V1 V2 hV0
  have hqz : M = 0 → N.tdiv M = 0 ∧ tremI N M = 0 := fun e => by rw [e]; exact ⟨Int.tdiv_zero _, rfl⟩
  have q1 := (i8_sg (sgI N) (sgI M) (sg_bd N) (sg_bd M)).trans (sg_mul N M)
  generalize hst : sgI (N * M) = st at *
  have HST := Lib.hid hst
  generalize hQ : N.tdiv M = Q at *
  generalize hR : tremI N M = R at *
  have HHQ := Lib.hid (And.intro hQ hR)
  generalize hq : V1 / V2 = Vq at *
  generalize hr : remI V1 V2 = Vr at *
  obtain ⟨rq, hrq⟩ : ∃ r, decide (Q < 0) = r := ⟨_, rfl⟩
  obtain ⟨rr, hrr⟩ : ∃ r, decide (R < 0) = r := ⟨_, rfl⟩
  rw [hrq] at z2
  rw [hrr] at z4
  have HQ := Lib.hid hrq
  have HR := Lib.hid hrr
  have Z1 := Lib.hid z1
  have Z2 := Lib.hid z2
  have Z3 := Lib.hid z3
  have Z4 := Lib.hid z4
  have HZ0 := Lib.hid hz0
  have HQZ := Lib.hid hqz
  have HV := Lib.hid (And.intro hq hr)
  have HD : Hid (∀ (w2 : World) xd xn xc yd yn yc, Num w2 xd xn xc V1 → Num w2 yd yn yc V2 → xn ≤ 70368744177662 → yn ≤ 70368744177662 → Calls Try.prog 51 #[.slice xd xn xc, .slice yd yn yc] w2 (RetCCB Vq Vr (decide (V2 ≠ 0)) w2)) := Lib.hid fun w2 xd xn xc yd yn yc p1 p2 p3 p4 => by have := num_div xd yd xn yn xc yc V1 V2 w2 p1 p2 p3 p4; rwa [hq, hr] at this
  clear hst hQ hR hq hr hrq hrr z1 z2 z3 z4 hz0 hA1 hA2 hqz
  generalize sgI N = s1 at *
  generalize sgI M = s2 at *
  go_enter Try.func16, Try.ntmps16
  have h := Lib.hid hS
  clear hS
  have e0a := k0.cell 0 _ rfl
  have e0b := k0.cell 1 _ rfl
  have e1a := k1.cell 0 _ rfl
  have e1b := k1.cell 1 _ rfl
  have e2a := k2.cell 0 _ rfl
  have e2b := k2.cell 1 _ rfl
  have e3a := k3.cell 0 _ rfl
  have e3b := k3.cell 1 _ rfl
  go_wp2_with fail
  with_reducible refine (h.out).mono ?_
  rintro e v1 ⟨xd, xn, xc, rfl, f1, b⟩
  have hS3 := hS2.out _ b
  clear h hS2
  clear e0a e0b e1a e1b e2a e2b e3a e3b
  replace k0 := k0.next b
  replace k1 := k1.next b
  replace k2 := k2.next b
  replace k3 := k3.next b
  have bb := below_trans b4 b
  clear b b4
  have b4 := bb
  clear bb
  have h := Lib.hid (hS3)
  have e0a := k0.cell 0 _ rfl
  have e0b := k0.cell 1 _ rfl
  have e1a := k1.cell 0 _ rfl
  have e1b := k1.cell 1 _ rfl
  have e2a := k2.cell 0 _ rfl
  have e2b := k2.cell 1 _ rfl
  have e3a := k3.cell 0 _ rfl
  have e3b := k3.cell 1 _ rfl
  go_wp2_with fail
  with_reducible refine (h.out).mono ?_
  rintro e v2 ⟨yd, yn, yc, rfl, f2, b⟩
  clear h
  clear e0a e0b e1a e1b e2a e2b e3a e3b
  replace k0 := k0.next b
  replace k1 := k1.next b
  replace k2 := k2.next b
  replace k3 := k3.next b
  replace f1 := f1.below b (Nat.le_refl _)
  have bb := below_trans b4 b
  clear b b4
  have b4 := bb
  clear bb
  clear hS3
  have hxn : xn ≤ n1 := f1.len_le n1 T1.out
  have hyn : yn ≤ n2 := f2.len_le n2 T2.out
  have hD := HD.out _ _ _ _ _ _ _ (f1.num hV0) (f2.num hU0) (by omega) (by omega)
  clear HD
  have h := Lib.hid (hD)
  have e0a := k0.cell 0 _ rfl
  have e0b := k0.cell 1 _ rfl
  have e1a := k1.cell 0 _ rfl
  have e1b := k1.cell 1 _ rfl
  have e2a := k2.cell 0 _ rfl
  have e2b := k2.cell 1 _ rfl
  have e3a := k3.cell 0 _ rfl
  have e3b := k3.cell 1 _ rfl
  go_wp2_with fail
  with_reducible refine (h.out).mono ?_
  rintro e v3 ⟨ad1, an1, ac1, bd1, bn1, bc1, rfl, f1, f2, b⟩
  clear h
  clear e0a e0b e1a e1b e2a e2b e3a e3b
  replace k0 := k0.next b
  replace k1 := k1.next b
  replace k2 := k2.next b
  replace k3 := k3.next b
  have bb := below_trans b4 b
  clear b b4
  have b4 := bb
  clear bb
  clear hD
  by_cases hM : M = 0
  · skip
    have hU2 := HZ0.out.2 hM
    obtain ⟨hQ2, hR2⟩ := HQZ.out hM
    have hd0 : decide (V2 ≠ 0) = false := by rw [hU2]; rfl
    rw [hd0]
    have g0 := k2.free 0
    have g1 := k2.free 1
    have p0 := k3.free 0
    have p1 := k3.free 1
    have hne : w.heap.size + 1 + 1 ≠ w.heap.size + 1 + 1 + 1 := by omega
    have hne2 : w.heap.size + 1 + 1 + 1 ≠ w.heap.size + 1 + 1 := by omega
    have e0a := k0.cell 0 _ rfl
    have e0b := k0.cell 1 _ rfl
    have e1a := k1.cell 0 _ rfl
    have e1b := k1.cell 1 _ rfl
    have e2a := k2.cell 0 _ rfl
    have e2b := k2.cell 1 _ rfl
    have e3a := k3.cell 0 _ rfl
    have e3b := k3.cell 1 _ rfl
    go_wp2_with fail
    refine bodyPost_ret (results_row2_tmp rfl _ _ (w.heap.size + 1 + 1) #[.bool false, .slice none 0 0] (0, 0) _ (w.heap.size + 1 + 1 + 1) #[.bool false, .slice none 0 0] (0, 0) rfl (((((k2.set 0 _).set 1 _).setOther 0 _ hne).setOther 1 _ hne)).row rfl ((((k3.setOther 0 _ hne2).setOther 1 _ hne2).set 0 _).set 1 _).row Try.underlying25 rfl size_int size_int) rfl ?_
    have hbel := below_set (below_set (below_set (below_set b4 (w.heap.size + 1 + 1) 0 (.bool false) hg2) (w.heap.size + 1 + 1) 1 (.slice none 0 0) hg2) (w.heap.size + 1 + 1 + 1) 0 (.bool false) hg3) (w.heap.size + 1 + 1 + 1) 1 (.slice none 0 0) hg3
    rw [hQ2, hR2, decide_eq_false (show ¬ M ≠ 0 from fun e => e hM)]
    exact ⟨none, 0, 0, none, 0, 0, rfl, ⟨Nat.le_refl _, by rw [show ((Int.natAbs 0 : Nat) : Int) = 0 from rfl, dg_zero]; exact Rds.nil _ _ _⟩, ⟨Nat.le_refl _, by rw [show ((Int.natAbs 0 : Nat) : Int) = 0 from rfl, dg_zero]; exact Rds.nil _ _ _⟩, hbel⟩
  · skip
    have hd1 : decide (V2 ≠ 0) = true := decide_eq_true fun e => hM (HZ0.out.1 e)
    rw [hd1]
    have HM := fun (w2 : World) (b2 : Below (v3).heap.size (v3) w2) => wmade_as s1 bd1 bn1 bc1 Vr rr w2 (f2.below b2 (Nat.le_refl _)) hR0 Z4.out
    have HM2 := Lib.hid HM
    clear HM
    have HM := wmade_as st ad1 an1 ac1 Vq rq v3 f1 hQ0 Z2.out
    have h := Lib.hid HM
    have e0a := k0.cell 0 _ rfl
    have e0b := k0.cell 1 _ rfl
    have e1a := k1.cell 0 _ rfl
    have e1b := k1.cell 1 _ rfl
    have e2a := k2.cell 0 _ rfl
    have e2b := k2.cell 1 _ rfl
    have e3a := k3.cell 0 _ rfl
    have e3b := k3.cell 1 _ rfl
    go_wp2_with fail
    with_reducible refine (h.out).mono ?_
    rintro e v9 ⟨rfl, b⟩
    have HM3 := HM2.out _ b
    clear h HM HM2
    clear e0a e0b e1a e1b e2a e2b e3a e3b
    replace k0 := k0.next b
    replace k1 := k1.next b
    replace k2 := k2.next b
    replace k3 := k3.next b
    replace f1 := f1.below b (Nat.le_refl _)
    replace f2 := f2.below b (Nat.le_refl _)
    have bb := below_trans b4 b
    clear b b4
    have b4 := bb
    clear bb
    have h := Lib.hid (HM3)
    have e0a := k0.cell 0 _ rfl
    have e0b := k0.cell 1 _ rfl
    have e1a := k1.cell 0 _ rfl
    have e1b := k1.cell 1 _ rfl
    have e2a := k2.cell 0 _ rfl
    have e2b := k2.cell 1 _ rfl
    have e3a := k3.cell 0 _ rfl
    have e3b := k3.cell 1 _ rfl
    go_wp2_with fail
    with_reducible refine (h.out).mono ?_
    rintro e v10 ⟨rfl, b⟩
    clear h
    clear e0a e0b e1a e1b e2a e2b e3a e3b
    replace k0 := k0.next b
    replace k1 := k1.next b
    replace k2 := k2.next b
    replace k3 := k3.next b
    replace f1 := f1.below b (Nat.le_refl _)
    replace f2 := f2.below b (Nat.le_refl _)
    have bb := below_trans b4 b
    clear b b4
    have b4 := bb
    clear bb
    clear HM3
    have g0 := k2.free 0
    have g1 := k2.free 1
    have p0 := k3.free 0
    have p1 := k3.free 1
    have hne : w.heap.size + 1 + 1 ≠ w.heap.size + 1 + 1 + 1 := by omega
    have hne2 : w.heap.size + 1 + 1 + 1 ≠ w.heap.size + 1 + 1 := by omega
    have e0a := k0.cell 0 _ rfl
    have e0b := k0.cell 1 _ rfl
    have e1a := k1.cell 0 _ rfl
    have e1b := k1.cell 1 _ rfl
    have e2a := k2.cell 0 _ rfl
    have e2b := k2.cell 1 _ rfl
    have e3a := k3.cell 0 _ rfl
    have e3b := k3.cell 1 _ rfl
    go_wp2_with fail
    refine bodyPost_ret (results_row2_tmp rfl _ _ (w.heap.size + 1 + 1) #[.bool rq, .slice ad1 an1 ac1] (0, 0) _ (w.heap.size + 1 + 1 + 1) #[.bool rr, .slice bd1 bn1 bc1] (0, 0) rfl (((((k2.set 0 _).set 1 _).setOther 0 _ hne).setOther 1 _ hne)).row rfl ((((k3.setOther 0 _ hne2).setOther 1 _ hne2).set 0 _).set 1 _).row Try.underlying25 rfl size_int size_int) rfl ?_
    rw [decide_eq_true hM]
    refine ⟨_, _, _, _, _, _, by rw [HQ.out, HR.out]; rfl, ?_, ?_, below_set (below_set (below_set (below_set b4 _ _ _ hg2) _ _ _ hg2) _ _ _ hg3) _ _ _ hg3⟩
    · rw [← Z1.out]
      exact (f1.poke2 k2 _ _).poke2 ((k3.setOther 0 _ hne2).setOther 1 _ hne2) _ _
    · rw [← Z3.out]
      exact (f2.poke2 k2 _ _).poke2 ((k3.setOther 0 _ hne2).setOther 1 _ hne2) _ _
end Go.Proofs.Ytgnophflogmmaaa

/- whole: Show. (Printed by whole.py.) -/
namespace Go.Proofs.Ytgnophflogmmaaa
open Go.RowKit

/-- In decimal. -/
def showL (N : Int) : List Int := if N < 0 then 45 :: decL N.natAbs else decL N.natAbs
theorem pow_tens (n : Nat) : (4294967296 : Int) ^ n ≤ 10 ^ (10 * n) := by
  induction n with
  | zero => simp
  | succ n ih =>
    rw [Int.pow_succ, show 10 * (n + 1) = 10 * n + 10 by omega, Int.pow_add]
    have h1 : (0 : Int) ≤ 4294967296 ^ n := Int.pow_nonneg (by omega)
    have := Int.mul_le_mul ih (show (4294967296 : Int) ≤ 10 ^ 10 by decide) (by omega) (by omega)
    exact this
theorem decL_len (V : Int) (n : Nat) (h : V < 4294967296 ^ n) : (decL V).length ≤ 10 * n + 1 := by
  unfold decL
  split
  · simp
  · rw [List.length_reverse, asc_length]
    have := dg_length_le 10 (by omega) (10 * n) V (Int.lt_of_lt_of_le h (pow_tens n))
    omega

set_option maxHeartbeats 1000000 in
theorem wshow_calls (ng1 : Bool) (ad1 : Option Addr) (n1 c1 : Nat) (V1 : Int) (w : World) (h1 : Num w ad1 n1 c1 V1) (hn1 : n1 ≤ 4398046511104) :
    Calls Try.prog 23 #[.agg #[.bool ng1, .slice ad1 n1 c1]] w (RetS (strB (showL (sI ng1 V1))) w) := by
  have hV0 := h1.nonneg
  have T1 := Lib.hid h1.lt
  have b0 := Below.refl w.heap.size w
  have l0 : Below w.heap.size w (w.alloc (.cells #[.bool ng1, .slice ad1 n1 c1] 25)) := (Below.refl _ _).alloc (Nat.le_refl _) _
  have b1 : Below w.heap.size w (w.alloc (.cells #[.bool ng1, .slice ad1 n1 c1] 25)) := below_trans b0 l0
  have k0 : Cel (w.alloc (.cells #[.bool ng1, .slice ad1 n1 c1] 25)) w.heap.size 25 [.bool ng1, .slice ad1 n1 c1] := Cel.made _ _ _ _ (by simp)
  replace h1 := h1.below b1 (Nat.le_refl _)
  clear b0 l0
  have hg0 : w.heap.size ≤ w.heap.size := Nat.le_refl _
  have hS := wsigned_calls ng1 ad1 n1 c1 V1 (w.alloc (.cells #[.bool ng1, .slice ad1 n1 c1] 25)) h1 (by omega)
  have hA1 := (sI_abs ng1 V1 hV0).symm
  generalize sI ng1 V1 = N at *
  clear h1
  have hsz : (strB (decL V1)).size ≤ 43980465111041 := by rw [strB_size]; have := decL_len V1 n1 T1.out; omega
  have hsg : (sgI N = -1 ∧ showL N = [45] ++ decL V1) ∨ (sgI N ≠ -1 ∧ showL N = decL V1) := by unfold sgI showL; rw [hA1]; by_cases hN : N < 0 <;> simp [hN] <;> (try split) <;> omega
  generalize sgI N = s1 at *
  generalize hL : showL N = L at *
  have HL := Lib.hid hL
  have HSG := Lib.hid hsg
  clear hL hsg hA1
  go_enter Try.func23, Try.ntmps23
  have h := Lib.hid (hS)
  have e0a := k0.cell 0 _ rfl
  have e0b := k0.cell 1 _ rfl
  go_wp2_with fail
  with_reducible refine (h.out).mono ?_
  rintro e v1 ⟨xd, xn, xc, rfl, f1, b⟩
  clear h
  clear e0a e0b
  replace k0 := k0.next b
  have bb := below_trans b1 b
  clear b b1
  have b1 := bb
  clear bb
  clear hS
  have hxn : xn ≤ n1 := f1.len_le n1 T1.out
  have hD := num_digits xd xn xc V1 v1 (f1.num hV0) (by omega)
  rcases HSG.out with ⟨hs, hl⟩ | ⟨hs, hl⟩
  · subst hs hl
    have h := Lib.hid (hD)
    have e0a := k0.cell 0 _ rfl
    have e0b := k0.cell 1 _ rfl
    go_wp2_with fail
    with_reducible refine (h.out).mono ?_
    rintro e v2 ⟨rfl, b⟩
    clear h
    clear e0a e0b
    replace k0 := k0.next b
    replace f1 := f1.below b (Nat.le_refl _)
    have bb := below_trans b1 b
    clear b b1
    have b1 := bb
    clear bb
    clear hD
    go_wp2_with fail
    go_ret
    exact ⟨by rw [← strB_append]; rfl, b1⟩
  · subst hl
    have hs2 : (s1 == -1) = false := by rw [beq_eq_false_iff_ne]; exact hs
    have h := Lib.hid (hD)
    have e0a := k0.cell 0 _ rfl
    have e0b := k0.cell 1 _ rfl
    go_wp2_with fail
    with_reducible refine (h.out).mono ?_
    rintro e v3 ⟨rfl, b⟩
    clear h
    clear e0a e0b
    replace k0 := k0.next b
    replace f1 := f1.below b (Nat.le_refl _)
    have bb := below_trans b1 b
    clear b b1
    have b1 := bb
    clear bb
    clear hD
    go_wp2_with fail
    go_ret
    exact ⟨rfl, b1⟩
end Go.Proofs.Ytgnophflogmmaaa
