/- Contracts of functions, and plain facts, part 31. -/
import Derived.Test.YtoimhjcpeifegaaGreatDoorPk8
import Derived.Test.YtoimhjcpeifegaaGreatDoorPk9
import Derived.Test.YtoimhjcpeifegaaGreatDoorPk10
import Derived.Test.YtoimhjcpeifegaaGreatDoorPk14
import Derived.Test.YtoimhjcpeifegaaGreatDoorPk18
import Derived.Test.YtoimhjcpeifegaaGreatDoorPk19
import Derived.Test.YtoimhjcpeifegaaGreatDoorPk22
import Derived.Test.YtoimhjcpeifegaaGreatDoorPk25
import Derived.Test.YtoimhjcpeifegaaGreatDoorPk29
import Derived.Test.YtoimhjcpeifegaaGreatDoorPk30
set_option linter.unusedVariables false
set_option linter.unusedSimpArgs false
/- Printed by ieee3.py. -/
namespace Go.Proofs.YtoimhjcpeifegaaGreatDoor
open Go.RowKit

set_option maxRecDepth 20000 in
set_option maxHeartbeats 2000000 in
theorem rto_calls (V W : Nat) (hV : Wide V) (hW : Wide W) (x : Int) (hx : 0 ≤ x ∧ x < 18446744073709551616) (w : World) : Calls Tryz.prog 82 #[.int .i64 V, .int .i64 W, .int .u64 x] w (fun e w' => e = .returned (.tuple #[.int .u64 (toW V W x).1, .bool (toW V W x).2]) ∧ Below w.heap.size w w') := by
  have hfit := inf_fits hV
  have hpw := pow_wide hV
  have HT := Lib.hid (show toW V W x = if isNaN W x then (nanW V, true) else if sizeW W x = infW W then ((if negW W x then sgnW V else 0) + infW V, true)
    else (roundW V (pNeg W x) (pM W x) (pE W x) false, sameW V W x (roundW V (pNeg W x) (pM W x) (pE W x) false)) from rfl)
  have HO := Lib.hid (show pOk W x = decide (sizeW W x < infW W) from rfl)
  have HN := Lib.hid (show isNaN W x = decide (infW W < sizeW W x) from rfl)
  have HC := Lib.hid (show clsW W x = if infW W < sizeW W x then 5 else if sizeW W x = infW W then 4 else if sizeW W x = 0 then 1 else if sizeW W x < 2 ^ shF W then 2 else 3 from rfl)
  have C0 := Lib.hid (rclass_calls W hW x hx)
  have PN := Lib.hid (rneg_calls W hW x)
  have PI := Lib.hid (rinf_calls V hV)
  have PS := Lib.hid (rsign_calls V hV)
  have PA := Lib.hid (rnan_calls V hV)
  have PP := Lib.hid (rparts_calls W hW x hx)
  have hm := pM_bd hW x
  have he := pE_bd hW x
  have hy := roundW_bd hV (pNeg W x) (pM W x) (pE W x) false
  have HQ := Lib.hid (fun w => rparts_calls V hV (roundW V (pNeg W x) (pM W x) (pE W x) false) ⟨hy.1, by omega⟩ w)
  have HRd := Lib.hid (fun (w : World) (ad : Option Addr) (n c : Nat) (h : Num w ad n c (pM W x)) (hn : n ≤ 2) => rround_calls V hV (pNeg W x) ad n c (pM W x) (pE W x) false w h (by omega) (by omega))
  have HSm := Lib.hid (show sameW V W x (roundW V (pNeg W x) (pM W x) (pE W x) false) = (pOk V (roundW V (pNeg W x) (pM W x) (pE W x) false) && decide (pM V (roundW V (pNeg W x) (pM W x) (pE W x) false) = pM W x) && decide (pE V (roundW V (pNeg W x) (pM W x) (pE W x) false) = pE W x)) from rfl)
  clear hy hx
  generalize toW V W x = R at *
  generalize sameW V W x (roundW V (pNeg W x) (pM W x) (pE W x) false) = sm at *
  generalize roundW V (pNeg W x) (pM W x) (pE W x) false = y at *
  generalize pM W x = m at *
  generalize pE W x = p at *
  generalize pNeg W x = ng at *
  generalize pM V y = m2 at *
  generalize pE V y = p2 at *
  generalize pOk V y = fin at *
  generalize pNeg V y = ng2 at *
  generalize clsW W x = cl at *
  generalize negW W x = nx at *
  generalize pOk W x = fx at *
  generalize infW W = IW at *
  generalize sizeW W x = zx at *
  generalize isNaN W x = na at *
  generalize infW V = IV at *
  generalize nanW V = NV at *
  generalize sgnW V = SV at *
  have W1 : IntKind.u64.wrap (SV + IV) = SV + IV := by rw [IntKind.wrap_u64]; omega
  have W2 : (SV + IV) % 18446744073709551616 = SV + IV := by omega
  rcases Int.lt_trichotomy zx IW with h | h | h
  · have hna : na = false := by rw [HN.out]; exact decide_eq_false (by omega)
    have HR := Lib.hid (show R = (y, sm) by rw [HT.out, hna, if_neg (by decide), if_neg (by omega)])
    have c5 : (cl == 5) = false := by rw [HC.out, if_neg (by omega), if_neg (by omega)]; split <;> (try split) <;> rfl
    have c4 : (cl == 4) = false := by rw [HC.out, if_neg (by omega), if_neg (by omega)]; split <;> (try split) <;> rfl
    clear HT HC HN HO hna h
    go_enter Tryz.func82, Tryz.ntmps82
    have C1 := Lib.hid (C0.out w)
    go_wp2_with fail
    refine (C1.out).mono ?_
    rintro e w1 ⟨rfl, b1⟩
    have C2 := Lib.hid (PP.out w1)
    go_wp2_with fail
    refine (C2.out).mono ?_
    rintro e w2 ⟨rfl, b2⟩
    have a2 := below_trans b1 b2
    have C3 := Lib.hid ((rfrom_calls m w2 hm.1 (by omega)).mono fun e w' q => q.can)
    go_wp2_with fail
    refine (C3.out).mono ?_
    rintro e w3 ⟨ad3, n3, d3, rfl, f3, b3⟩
    have a3 := below_trans a2 b3
    have l3 := f3.len_le 2 (Int.lt_of_lt_of_le hm.2 (by decide))
    have C4 := Lib.hid (HRd.out w3 ad3 n3 d3 (f3.num hm.1) l3)
    go_wp2_with fail
    refine (C4.out).mono ?_
    rintro e w4 ⟨rfl, b4⟩
    have a4 := below_trans a3 b4
    have C5 := Lib.hid (HQ.out w4)
    go_wp2_with fail
    refine (C5.out).mono ?_
    rintro e w5 ⟨rfl, b5⟩
    have a5 := below_trans a4 b5
    cases fin
    · have HB := Lib.hid (show sm = false by rw [HSm.out]; rfl)
      go_wp2
      go_ret2
      rw [HR.out, HB.out]
      exact ⟨rfl, a5⟩
    · by_cases hm2 : m2 = m
      · by_cases hp2 : p2 = p
        · have HB := Lib.hid (show sm = true by rw [HSm.out, decide_eq_true hm2, decide_eq_true hp2]; rfl)
          have hm3 : (m2 == m) = true := by simpa using hm2
          have hp3 : (p2 == p) = true := by simpa using hp2
          clear HSm hm2 hp2
          go_wp2
          go_ret2
          rw [HR.out, HB.out]
          exact ⟨rfl, a5⟩
        · have HB := Lib.hid (show sm = false by rw [HSm.out, decide_eq_false hp2]; simp)
          have hm3 : (m2 == m) = true := by simpa using hm2
          have hp3 : (p2 == p) = false := by simpa using hp2
          clear HSm hm2 hp2
          go_wp2
          go_ret2
          rw [HR.out, HB.out]
          exact ⟨rfl, a5⟩
      · have HB := Lib.hid (show sm = false by rw [HSm.out, decide_eq_false hm2]; simp)
        have hm3 : (m2 == m) = false := by simpa using hm2
        clear HSm hm2
        go_wp2
        go_ret2
        rw [HR.out, HB.out]
        exact ⟨rfl, a5⟩
  · have hna : na = false := by rw [HN.out]; exact decide_eq_false (by omega)
    have HR := Lib.hid (show R = ((if nx then SV else 0) + IV, true) by rw [HT.out, hna, if_neg (by decide), if_pos h])
    have c5 : (cl == 5) = false := by rw [HC.out, if_neg (by omega), if_pos h]; rfl
    have c4 : (cl == 4) = true := by rw [HC.out, if_neg (by omega), if_pos h]; rfl
    clear HT HC HN HO hna h HSm
    cases nx
    · have HR2 := Lib.hid (show R = (IV, true) by rw [HR.out]; simp)
      go_enter Tryz.func82, Tryz.ntmps82
      have C1 := Lib.hid (C0.out w)
      go_wp2_with fail
      refine (C1.out).mono ?_
      rintro e w1 ⟨rfl, b1⟩
      have C2 := Lib.hid (PN.out w1)
      go_wp2_with fail
      refine (C2.out).mono ?_
      rintro e w' ⟨rfl, rfl⟩
      have C3 := Lib.hid (PI.out w1)
      go_wp2_with fail
      refine (C3.out).mono ?_
      rintro e w3 ⟨rfl, b3⟩
      have a3 := below_trans b1 b3
      go_wp2
      go_ret2
      rw [HR2.out]
      exact ⟨rfl, a3⟩
    · have HR2 := Lib.hid (show R = (SV + IV, true) by rw [HR.out]; simp)
      go_enter Tryz.func82, Tryz.ntmps82
      have C1 := Lib.hid (C0.out w)
      go_wp2_with fail
      refine (C1.out).mono ?_
      rintro e w1 ⟨rfl, b1⟩
      have C2 := Lib.hid (PN.out w1)
      go_wp2_with fail
      refine (C2.out).mono ?_
      rintro e w' ⟨rfl, rfl⟩
      have C3 := Lib.hid (PS.out w1)
      go_wp2_with fail
      refine (C3.out).mono ?_
      rintro e w' ⟨rfl, rfl⟩
      have C4 := Lib.hid (PI.out w1)
      go_wp2_with fail
      refine (C4.out).mono ?_
      rintro e w4 ⟨rfl, b4⟩
      have a4 := below_trans b1 b4
      go_wp2
      go_ret2
      rw [HR2.out]
      exact ⟨rfl, a4⟩
  · have hna : na = true := by rw [HN.out]; exact decide_eq_true h
    have HR := Lib.hid (show R = (NV, true) by rw [HT.out, hna, if_pos rfl])
    have c5 : (cl == 5) = true := by rw [HC.out, if_pos h]; rfl
    clear HT HC HN HO hna h HSm
    go_enter Tryz.func82, Tryz.ntmps82
    have C1 := Lib.hid (C0.out w)
    go_wp2_with fail
    refine (C1.out).mono ?_
    rintro e w1 ⟨rfl, b1⟩
    have C2 := Lib.hid (PA.out w1)
    go_wp2_with fail
    refine (C2.out).mono ?_
    rintro e w2 ⟨rfl, b2⟩
    have a2 := below_trans b1 b2
    go_wp2
    go_ret2
    rw [HR.out]
    exact ⟨rfl, a2⟩
end Go.Proofs.YtoimhjcpeifegaaGreatDoor

/- Functions that read the laid variables shapes and deBruijn64tab. -/
namespace Go.Proofs.YtoimhjcpeifegaaGreatDoor
open Go Go.RowKit

structure EnvP (w : World) (B : Bx) : Prop where
  sh : Shapes w
  tab : Tab w
  no : ¬ B 2
theorem cell_mv {w w' : World} {B B' : Bx} (h : Mv w B w' B') {a : Addr} {v : Value} (hc : w.cell? a = some v) (hn : ¬ B a.block ∨ ¬ Plain w a.block) : w'.cell? a = some v := by
  have hl := World.block_lt_of_cell? w a hc
  rcases h.same _ hl with h1 | ⟨h1, h2⟩
  · rw [← hc]; exact World.cell?_of_block h1
  · rcases hn with h3 | h3
    · exact absurd h1 h3
    · exact absurd h2 h3
theorem EnvP.mv {w w' : World} {B B' : Bx} (h : Mv w B w' B') (e : EnvP w B) : EnvP w' B' := by
  obtain ⟨⟨c0, c1, c2, c3, c4, c5, c6, c7, c8⟩, ht, hn⟩ := e
  have k : ∀ {j : Nat} {v : Value}, w.cell? ⟨2, j, none⟩ = some v → w'.cell? ⟨2, j, none⟩ = some v := fun hc => cell_mv h hc (.inl hn)
  refine ⟨⟨k c0, k c1, k c2, k c3, k c4, k c5, k c6, k c7, k c8⟩, fun j hj => cell_mv h (ht j hj) (.inr fun hp => hp _ .u8 _ rfl (.inr rfl) (ht j hj)), fun hb => hn (h.box _ (World.block_lt_of_cell? w _ c0) hb)⟩
def EnvV : VP := ⟨fun _ w B => EnvP w B, fun _ _ _ _ _ h e => e.mv h⟩
structure ConE (P : Program) (f : FuncId) (Ds : List VP) (R : VP) : Prop where
  enters : ∀ (vs : Array Value) (w : World), (callFunc f vs).run P w = .ok (.enter f vs) w
  calls : ∀ (vs : List Value) (w : World) (B : Bx), Own1 B w → EnvP w B → VAll vs Ds w B → Calls P f vs.toArray w (fun e w' => ∃ v, e = .returned v ∧ R.p v w' B ∧ Below w.heap.size w w')
theorem ConE.weak {P : Program} {f : FuncId} {Ds : List VP} {R R' : VP} (h : ConE P f Ds R) (hw : ∀ v w B, R.p v w B → R'.p v w B) : ConE P f Ds R' :=
  ⟨h.enters, fun vs w B hB hE hV => (h.calls vs w B hB hE hV).mono fun e w' ⟨v, e1, h1, h2⟩ => ⟨v, e1, hw _ _ _ h1, h2⟩⟩
section
variable {P : Program} {need : List (Tmp × FD)} {d : Option Tmp} {ty : TypeId} {pos : String} {af : Array Edge} {g : Option (Nat × Bool)}
theorem ok_callE {f : FuncId} {args : List Operand} {ts : Array TypeId} {Ds : List VP} {R : VP} (C : ConE P f Ds R) (k : Nat) {s : Tmp} (hk : need[k]? = some (s, .val EnvV)) (h : Opds need args Ds) : OpOk P ⟨d, .call { callee := .value (.func f), args := args.toArray, argTypes := ts }, ty, pos, af, g⟩ need (.val R) false := by
  intro Q K a w B hB hF hK
  have hr : (execOp a.eval ⟨d, .call { callee := .value (.func f), args := args.toArray, argTypes := ts }, ty, pos, af, g⟩).run P w = .ok (.enter f (args.map a.eval).toArray) w := by
    simp [execOp, resolve, Act.eval, Deferred.ofValue, invoke, Sem.run_bind, C.enters]
  unfold Oper.wp
  rw [hr]
  have hE : EnvP w B := hF.get k hk
  refine (C.calls (args.map a.eval) w B hB hE (h.all hF)).mono ?_
  rintro e w' ⟨v, rfl, h1, h2⟩
  have hbl := Bl.of_below B h2
  exact hK v w' B h1 hbl h2 (fun k hk => Nat.lt_of_lt_of_le (hB k hk) h2.size) (by simp)
end
theorem f_enterE {P : Program} {f : FuncId} {fn : Func} {c : Code} {Ds : List VP} {R : VP} {N : Nat} (hN : fn.ntmps = N) (he : ∀ (vs : Array Value) (w : World), (callFunc f vs).run P w = .ok (.enter f vs) w) (hf : P.funcs[f]? = some fn) (hb : fn.body = some c) (hn : Ds.length ≤ N)
    (h : ∀ (a : Act) (w : World) (B : Bx), St N w B a w B (Ds.zipIdx.map (fun x => (x.2, .val x.1)) ++ [(N, .val EnvV)]) [] → c.wp P (bodyPost P fn fun e w' => ∃ v, e = .returned v ∧ R.p v w' B ∧ Below w.heap.size w w') a w) : ConE P f Ds R := by
  refine ⟨he, fun vs w B hB hE hV => calls_of_wp hf hb (h _ w B ⟨rfl, ?_, Fct.of_all fun x hx => ?_, by simp, by simp, Below.refl _ _, hB, fun _ h => h⟩)⟩
  · have hl : vs.length = Ds.length := by
      clear hn h hB hE
      induction vs generalizing Ds with
      | nil => cases Ds with
        | nil => rfl
        | cons D Ds => exact hV.elim
      | cons v vs ih => cases Ds with
        | nil => exact hV.elim
        | cons D Ds => simp [ih hV.2]
    simp [hN]; omega
  · rcases List.mem_append.1 hx with hx | hx
    · obtain ⟨y, hy, rfl⟩ := List.mem_map.1 hx
      have h1 := List.mem_zipIdx_iff_getElem?.1 hy
      obtain ⟨v, h2, h3⟩ := hV.get y.2 y.1 h1
      have hlt : y.2 < vs.length := (List.getElem?_eq_some_iff.1 h2).1
      have e : (vs.toArray ++ Array.replicate (fn.ntmps - vs.toArray.size) undef).getD y.2 undef = v := by
        rw [Array.getD_eq_getD_getElem?, Array.getElem?_append_left (by simpa using hlt)]
        simp [h2]
      show y.1.p _ w B
      rw [e]
      exact h3
    · rw [List.mem_singleton] at hx
      subst hx
      exact hE
end Go.Proofs.YtoimhjcpeifegaaGreatDoor

/- R3cmp. (Printed by flowfn.py.) -/
namespace Go.Proofs.YtoimhjcpeifegaaGreatDoor
open Go Go.RowKit

theorem lit_int {A N : Int} {k : IntKind} (e : A = N) {v : Value} {w : World} {B : Bx} (h : (Lit (.int k A)).p v w B) : (Lit (.int k N)).p v w B := e ▸ h

set_option maxRecDepth 20000 in
set_option maxHeartbeats 2000000 in
theorem con_r3cmp (X Y : Int) : Con Tryz.prog 89 [IsN X, IsN Y] (Lit (.int .i64 (cmpI X Y))) := by
  refine f_enter (N := 34) Tryz.ntmps89 (fun _ _ => by go_simp) Tryz.func89 rfl (by simp) ?_
  intro a0 w0 B0 H0
  replace H0 : St 34 w0 B0 a0 w0 B0 [(0, .val (IsN X)), (1, .val (IsN Y))] [] := H0
  refine wp_seq ?_
  refine flow_region (dsts := [some 2, some 3, some 4]) (refs := [[.pre 0], [.pre 1], []]) (outs := [.res 0, .res 1, .res 2]) (als := [true, true, false]) (posts := [.box 34 2 (IsN X), .box 34 2 (IsN Y), .val (Lit (.int .i64 0))])
    (out := [(2, .box 34 2 (IsN X)), (3, .box 34 2 (IsN Y)), (4, .val (Lit (.int .i64 0)))]) (nb := [2, 3]) H0 3 [] rfl (by kernel_rfl) rfl rfl ?_ ?_
  · refine .cons (.plain rfl (ok_box (.tmp 0 rfl) shape_N.two)) ?_
    refine .cons (.plain rfl (ok_box (.tmp 0 rfl) shape_N.two)) ?_
    refine .cons (.plain rfl (ok_assign (.lit))) ?_
    exact .nil
  clear H0
  intro a1 w1 B1 H1
  simp only [List.cons_append, List.nil_append] at H1
  refine ops_done ?_
  refine then_normal ?_
  refine wp_seq ?_
  refine wp_block ?_
  refine wp_seq ?_
  refine flow_region (dsts := [some 6, some 7, some 8, some 9, some 10, some 11, some 12, some 5]) (refs := [[.pre 0], [.res 0], [.res 1], [.res 2, .pre 1], [.res 2, .res 3], [.res 2, .res 4], [.res 2, .res 5], [.res 6]]) (outs := [.res 7, .pre 0, .pre 1, .pre 2]) (als := [false, false, false, false, false, false, false, false]) (posts := [.val (IsN X), .val (IsB (decide (X < 0))), .val (IsB (decide (X < 0))), .val (Grd ((decide (X < 0)) == true) (IsN Y)), .val (Grd ((decide (X < 0)) == true) (IsB (decide (Y < 0)))), .val (Grd ((decide (X < 0)) == true) (IsB (!(decide (Y < 0))))), .val (IsB ((decide (X < 0)) && (!(decide (Y < 0))))), .val (IsB ((decide (X < 0)) && (!(decide (Y < 0)))))])
    (out := [(5, .val (IsB ((decide (X < 0)) && (!(decide (Y < 0)))))), (2, .box 34 2 (IsN X)), (3, .box 34 2 (IsN Y)), (4, .val (Lit (.int .i64 0)))]) (nb := []) H1 8 [] rfl (by kernel_rfl) rfl rfl ?_ ?_
  · refine .cons (.plain rfl (ok_load tyI (.tmp 0 rfl))) ?_
    refine .cons (.plain rfl (ok_call (con_r3below X) (.cons (.tmp 0 rfl) (.nil)))) ?_
    refine .cons (.plain rfl (ok_move (.tmp 0 rfl))) ?_
    refine .cons (.sym 2 true (decide (X < 0)) ((decide (X < 0)) == true) rfl rfl rfl 0 (need' := [(8, .val (IsB (decide (X < 0)))), (3, .box 34 2 (IsN Y))]) rfl rfl (fun a w B e h => ⟨h.1, h.2.1, trivial⟩) (fun e => ok_load tyI (.tmp 1 rfl))) ?_
    refine .cons (.sym 2 true (decide (X < 0)) ((decide (X < 0)) == true) rfl rfl rfl 0 (need' := [(8, .val (IsB (decide (X < 0)))), (9, .val (IsN Y))]) rfl rfl (fun a w B e h => ⟨h.1, h.2.1.1 (e), trivial⟩) (fun e => ok_call (con_r3below Y) (.cons (.tmp 1 rfl) (.nil)))) ?_
    refine .cons (.sym 2 true (decide (X < 0)) ((decide (X < 0)) == true) rfl rfl rfl 0 (need' := [(8, .val (IsB (decide (X < 0)))), (10, .val (IsB (decide (Y < 0))))]) rfl rfl (fun a w B e h => ⟨h.1, h.2.1.1 (e), trivial⟩) (fun e => ok_not (b := decide (Y < 0)) (.tmp 1 rfl))) ?_
    refine .cons (.plain rfl (ok_pickS (decide (X < 0)) (.tmp 0 rfl) (fun e => Opd.eqB (Opd.grd (.tmp 1 rfl) (by first | (rw [e]; rfl) | (simp only [e]; rfl) | (simp [*] at *; done))) (by rw [e]; rfl)) (fun e => Opd.eqB (.lit) (by rw [e]; rfl)))) ?_
    refine .cons (.plain rfl (ok_assign (.tmp 0 rfl))) ?_
    exact .nil
  clear H1 a1 w1 B1
  intro a2 w2 B2 H2
  refine ops_done ?_
  refine then_normal ?_
  refine f_cond H2 (.tmp 0 rfl) ?_ ?_
  · intro hc3
    refine wp_seq ?_
    refine flow_region (dsts := [some 4]) (refs := [[]]) (outs := [.res 0, .pre 1, .pre 2]) (als := [false]) (posts := [.val (Lit (.int .i64 (-1)))])
      (out := [(4, .val (Lit (.int .i64 (-1)))), (2, .box 34 2 (IsN X)), (3, .box 34 2 (IsN Y))]) (nb := []) H2 1 [] rfl (by kernel_rfl) rfl rfl ?_ ?_
    · refine .cons (.plain rfl (ok_assign (.lit))) ?_
      exact .nil
    clear H2 a2 w2 B2
    intro a4 w4 B4 H4
    refine ops_done ?_
    refine then_normal ?_
    refine wp_ret ?_
    refine block_ret ?_
    refine then_ret ?_
    exact f_ret H4 rfl 0 rfl (fun v w B h => by refine lit_int ?_ h; simp only [Bool.and_eq_true, Bool.and_eq_false_iff, Bool.not_eq_true', Bool.not_eq_false', decide_eq_true_eq, decide_eq_false_iff_not] at *; unfold cmpI; repeat' split; all_goals omega)
  · intro hc3
    refine wp_seq ?_
    refine flow_region (dsts := [some 14, some 15, some 16, some 17, some 18, some 19, some 20, some 13]) (refs := [[.pre 1], [.res 0], [.res 1], [.res 2], [.res 3, .pre 2], [.res 3, .res 4], [.res 3, .res 5], [.res 6]]) (outs := [.res 7, .pre 1, .pre 2, .pre 3]) (als := [false, false, false, false, false, false, false, false]) (posts := [.val (IsN X), .val (IsB (decide (X < 0))), .val (IsB (!(decide (X < 0)))), .val (IsB (!(decide (X < 0)))), .val (Grd ((!(decide (X < 0))) == true) (IsN Y)), .val (Grd ((!(decide (X < 0))) == true) (IsB (decide (Y < 0)))), .val (IsB ((!(decide (X < 0))) && (decide (Y < 0)))), .val (IsB ((!(decide (X < 0))) && (decide (Y < 0))))])
      (out := [(13, .val (IsB ((!(decide (X < 0))) && (decide (Y < 0))))), (2, .box 34 2 (IsN X)), (3, .box 34 2 (IsN Y)), (4, .val (Lit (.int .i64 0)))]) (nb := []) H2 8 [] rfl (by kernel_rfl) rfl rfl ?_ ?_
    · refine .cons (.plain rfl (ok_load tyI (.tmp 0 rfl))) ?_
      refine .cons (.plain rfl (ok_call (con_r3below X) (.cons (.tmp 0 rfl) (.nil)))) ?_
      refine .cons (.plain rfl (ok_not (b := decide (X < 0)) (.tmp 0 rfl))) ?_
      refine .cons (.plain rfl (ok_move (.tmp 0 rfl))) ?_
      refine .cons (.sym 3 true (!(decide (X < 0))) ((!(decide (X < 0))) == true) rfl rfl rfl 0 (need' := [(17, .val (IsB (!(decide (X < 0))))), (3, .box 34 2 (IsN Y))]) rfl rfl (fun a w B e h => ⟨h.1, h.2.1, trivial⟩) (fun e => ok_load tyI (.tmp 1 rfl))) ?_
      refine .cons (.sym 3 true (!(decide (X < 0))) ((!(decide (X < 0))) == true) rfl rfl rfl 0 (need' := [(17, .val (IsB (!(decide (X < 0))))), (18, .val (IsN Y))]) rfl rfl (fun a w B e h => ⟨h.1, h.2.1.1 (e), trivial⟩) (fun e => ok_call (con_r3below Y) (.cons (.tmp 1 rfl) (.nil)))) ?_
      refine .cons (.plain rfl (ok_pickS (!(decide (X < 0))) (.tmp 0 rfl) (fun e => Opd.eqB (Opd.grd (.tmp 1 rfl) (by first | (rw [e]; rfl) | (simp only [e]; rfl) | (simp [*] at *; done))) (by rw [e]; rfl)) (fun e => Opd.eqB (.lit) (by rw [e]; rfl)))) ?_
      refine .cons (.plain rfl (ok_assign (.tmp 0 rfl))) ?_
      exact .nil
    clear H2 a2 w2 B2
    intro a5 w5 B5 H5
    refine ops_done ?_
    refine then_normal ?_
    refine f_cond H5 (.tmp 0 rfl) ?_ ?_
    · intro hc6
      refine wp_seq ?_
      refine flow_region (dsts := [some 4]) (refs := [[]]) (outs := [.res 0, .pre 1, .pre 2]) (als := [false]) (posts := [.val (Lit (.int .i64 1))])
        (out := [(4, .val (Lit (.int .i64 1))), (2, .box 34 2 (IsN X)), (3, .box 34 2 (IsN Y))]) (nb := []) H5 1 [] rfl (by kernel_rfl) rfl rfl ?_ ?_
      · refine .cons (.plain rfl (ok_assign (.lit))) ?_
        exact .nil
      clear H5 a5 w5 B5
      intro a7 w7 B7 H7
      refine ops_done ?_
      refine then_normal ?_
      refine wp_ret ?_
      refine block_ret ?_
      refine then_ret ?_
      exact f_ret H7 rfl 0 rfl (fun v w B h => by refine lit_int ?_ h; simp only [Bool.and_eq_true, Bool.and_eq_false_iff, Bool.not_eq_true', Bool.not_eq_false', decide_eq_true_eq, decide_eq_false_iff_not] at *; unfold cmpI; repeat' split; all_goals omega)
    · intro hc6
      refine wp_seq ?_
      refine flow_region (dsts := [some 22, some 23, some 21]) (refs := [[.pre 1], [.res 0], [.res 1]]) (outs := [.res 2, .pre 1, .pre 2, .pre 3]) (als := [false, false, false]) (posts := [.val (IsN X), .val (IsB (decide (X < 0))), .val (IsB (decide (X < 0)))])
        (out := [(21, .val (IsB (decide (X < 0)))), (2, .box 34 2 (IsN X)), (3, .box 34 2 (IsN Y)), (4, .val (Lit (.int .i64 0)))]) (nb := []) H5 3 [] rfl (by kernel_rfl) rfl rfl ?_ ?_
      · refine .cons (.plain rfl (ok_load tyI (.tmp 0 rfl))) ?_
        refine .cons (.plain rfl (ok_call (con_r3below X) (.cons (.tmp 0 rfl) (.nil)))) ?_
        refine .cons (.plain rfl (ok_assign (.tmp 0 rfl))) ?_
        exact .nil
      clear H5 a5 w5 B5
      intro a8 w8 B8 H8
      refine ops_done ?_
      refine then_normal ?_
      refine f_cond H8 (.tmp 0 rfl) ?_ ?_
      · intro hc9
        replace hc9 := of_decide_eq_true hc9
        refine wp_seq ?_
        refine flow_region (dsts := [some 24, some 25, some 26, some 27, some 28, some 4]) (refs := [[.pre 2], [.res 0], [.pre 1], [.res 2], [.res 1, .res 3], [.res 4]]) (outs := [.res 5, .pre 1, .pre 2]) (als := [false, false, false, false, false, false]) (posts := [.ptr 34 2 (IsN Y) 1, .val (IsM ((Y).natAbs : Int)), .ptr 34 2 (IsN X) 1, .val (IsM ((X).natAbs : Int)), .val (Lit (.int .i64 (cmpI ((Y).natAbs : Int) ((X).natAbs : Int)))), .val (Lit (.int .i64 (cmpI ((Y).natAbs : Int) ((X).natAbs : Int))))])
          (out := [(4, .val (Lit (.int .i64 (cmpI ((Y).natAbs : Int) ((X).natAbs : Int))))), (2, .box 34 2 (IsN X)), (3, .box 34 2 (IsN Y))]) (nb := []) H8 6 [] rfl (by kernel_rfl) rfl rfl ?_ ?_
        · refine .cons (.plain rfl (ok_addrI1 (.tmp 0 rfl))) ?_
          refine .cons (.plain rfl (ok_loadMagN (.tmp 0 rfl))) ?_
          refine .cons (.plain rfl (ok_addrI1 (.tmp 0 rfl))) ?_
          refine .cons (.plain rfl (ok_loadMagN (.tmp 0 rfl))) ?_
          refine .cons (.plain rfl (ok_call (con_rcmp ((Y).natAbs : Int) ((X).natAbs : Int)) (.cons (.tmp 0 rfl) (.cons (.tmp 1 rfl) (.nil))))) ?_
          refine .cons (.plain rfl (ok_assign (.tmp 0 rfl))) ?_
          exact .nil
        clear H8 a8 w8 B8
        intro a10 w10 B10 H10
        refine ops_done ?_
        refine then_normal ?_
        refine wp_ret ?_
        refine block_ret ?_
        refine then_ret ?_
        exact f_ret H10 rfl 0 rfl (fun v w B h => by refine lit_int ?_ h; simp only [Bool.and_eq_true, Bool.and_eq_false_iff, Bool.not_eq_true', Bool.not_eq_false', decide_eq_true_eq, decide_eq_false_iff_not] at *; unfold cmpI; repeat' split; all_goals omega)
      · intro hc9
        replace hc9 := of_decide_eq_false hc9
        refine wp_skip ?_
        refine block_normal ?_
        refine then_normal ?_
        refine wp_seq ?_
        refine flow_region (dsts := [some 29, some 30, some 31, some 32, some 33, some 4]) (refs := [[.pre 1], [.res 0], [.pre 2], [.res 2], [.res 1, .res 3], [.res 4]]) (outs := [.res 5]) (als := [false, false, false, false, false, false]) (posts := [.ptr 34 2 (IsN X) 1, .val (IsM ((X).natAbs : Int)), .ptr 34 2 (IsN Y) 1, .val (IsM ((Y).natAbs : Int)), .val (Lit (.int .i64 (cmpI ((X).natAbs : Int) ((Y).natAbs : Int)))), .val (Lit (.int .i64 (cmpI ((X).natAbs : Int) ((Y).natAbs : Int))))])
          (out := [(4, .val (Lit (.int .i64 (cmpI ((X).natAbs : Int) ((Y).natAbs : Int)))))]) (nb := []) H8 6 [] rfl (by kernel_rfl) rfl rfl ?_ ?_
        · refine .cons (.plain rfl (ok_addrI1 (.tmp 0 rfl))) ?_
          refine .cons (.plain rfl (ok_loadMagN (.tmp 0 rfl))) ?_
          refine .cons (.plain rfl (ok_addrI1 (.tmp 0 rfl))) ?_
          refine .cons (.plain rfl (ok_loadMagN (.tmp 0 rfl))) ?_
          refine .cons (.plain rfl (ok_call (con_rcmp ((X).natAbs : Int) ((Y).natAbs : Int)) (.cons (.tmp 0 rfl) (.cons (.tmp 1 rfl) (.nil))))) ?_
          refine .cons (.plain rfl (ok_assign (.tmp 0 rfl))) ?_
          exact .nil
        clear H8 a8 w8 B8
        intro a11 w11 B11 H11
        refine ops_done ?_
        refine then_normal ?_
        refine wp_ret ?_
        exact f_ret H11 rfl 0 rfl (fun v w B h => by refine lit_int ?_ h; simp only [Bool.and_eq_true, Bool.and_eq_false_iff, Bool.not_eq_true', Bool.not_eq_false', decide_eq_true_eq, decide_eq_false_iff_not] at *; unfold cmpI; repeat' split; all_goals omega)
end Go.Proofs.YtoimhjcpeifegaaGreatDoor
