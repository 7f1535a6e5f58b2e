/- Contracts of functions, and plain facts, part 37. -/
import Derived.Lib.UnsafeStr
import Derived.LoopN
import Derived.Test.YtoimhjcpeifegaaGreatDoorPk6
import Derived.Test.YtoimhjcpeifegaaGreatDoorPk34
import Derived.Test.YtoimhjcpeifegaaGreatDoorPk35
import Derived.Test.YtoimhjcpeifegaaGreatDoorPk36
set_option linter.unusedVariables false
set_option linter.unusedSimpArgs false
/- VBstr. (Printed by flow15.py.) -/
namespace Go.Proofs.YtoimhjcpeifegaaGreatDoor
open Go Go.RowKit

set_option maxRecDepth 50000
/-- An empty strings.Builder's address. -/
def IsBld (off : Nat) : VP := ⟨fun v w B => ∃ b, v = .pointer (some ⟨b, off, none⟩) ∧ ¬ B b ∧ w.heap[b]? = some (.cells #[.pointer none, .slice none 0 0] 186 (0, 0)), fun v w B w' B' h ⟨b, e, hb, hg⟩ => by
  have hlt := (Array.getElem?_eq_some_iff.1 hg).1
  exact ⟨b, e, fun h2 => hb (h.box b hlt h2), ((h.same b hlt).resolve_right fun h2 => hb h2.1).trans hg⟩⟩
section
variable {need : List (Tmp × FD)} {d : Option Tmp} {ty : TypeId} {pos : String} {af : Array Edge} {g : Option (Nat × Bool)} {x y : Operand}
theorem ok_nilBld (h : Opd need x (.val (IsBld 0))) : OpOk Tryz.prog ⟨d, .nilCheck x, ty, pos, af, g⟩ need (.val (IsBld 0)) false :=
  ok_via h fun ρ w B v ⟨b, e, hb, hg⟩ h1 => by
    refine ⟨_, ?_, b, rfl, hb, hg⟩
    unfold execOp
    simp only [h1, e]
    go_simp
theorem ok_fldBld (h : Opd need x (.val (IsBld 0))) : OpOk Tryz.prog ⟨d, .fieldAddr 186 x 1, ty, pos, af, g⟩ need (.val (IsBld 1)) false :=
  ok_via h fun ρ w B v ⟨b, e, hb, hg⟩ h1 => by
    refine ⟨.pointer (some ⟨b, 1, none⟩), ?_, b, rfl, hb, hg⟩
    obtain ⟨fs, fd, hu, hk, ho, m, hm, hm0⟩ : ∃ (fs : Array Field) (fd : Field), Tryz.prog.underlying 186 = some (.struct fs) ∧ fs[1]? = some fd ∧ fd.offset = 1 ∧ ∃ m, (sizeOf fd.type).run Tryz.prog w = .ok m w ∧ m ≠ 0 := ⟨_, _, Tryz.underlying186, rfl, rfl, 1, by go_simp, by decide⟩
    have hu2 : (underlying 186).run Tryz.prog w = .ok (.struct fs) w := run_underlying hu w
    simp [execOp, Instr.fieldAt, Instr.sureAddr, h1, e, hu2, hk, fieldPlace, hm, hm0, Sem.run_bind, ho, plain_add]
theorem ok_ldBld (h : Opd need x (.val (IsBld 1))) : OpOk Tryz.prog ⟨d, .load 184 x, ty, pos, af, g⟩ need (.val (Lit (.slice none 0 0))) false :=
  ok_via h fun ρ w B v ⟨b, e, hb, hg⟩ h1 => by
    have hc : w.cell? ⟨b, 1, none⟩ = some (.slice none 0 0) := by rw [cell_row hg]; rfl
    have hs : (isAgg 184).run Tryz.prog w = .ok false w := by go_simp
    refine ⟨.slice none 0 0, ?_, rfl⟩
    simp only [execOp, h1, e, Instr.loadAt, Instr.sureAddr, Sem.run_bind, Sem.run_pure, Result.andThen_ok, loadVar, hs, Bool.false_eq_true, if_false]
    simp [load, hc, Sem.run]
theorem ok_usd {ts : Array TypeId} (h : Opd need x (.val (Lit (.slice none 0 0)))) : OpOk Tryz.prog ⟨d, .call { callee := .builtin .unsafeSliceData, args := #[x], argTypes := ts }, ty, pos, af, g⟩ need (.val (Lit (.pointer none))) false :=
  ok_via h fun ρ w B v e h1 => by
    obtain rfl := e
    refine ⟨_, ?_, rfl⟩
    have hl : (Builtin.unsafeSliceData_ ts ty #[.slice none 0 0]).run Tryz.prog w = .ok (.pointer none) w := rfl
    simp [execOp, h1, resolve, invoke, builtin, Sem.run_bind, hl]
theorem ok_lenNil {tt e : TypeId} (hs : Tryz.prog.underlying tt = some (.slice e)) (h : Opd need x (.val (Lit (.slice none 0 0)))) : OpOk Tryz.prog ⟨d, .call { callee := .builtin .len, args := #[x], argTypes := #[tt] }, ty, pos, af, g⟩ need (.val (Lit (.int .i64 0))) false :=
  ok_via h fun ρ w B v e h1 => by
    obtain rfl := e
    refine ⟨_, ?_, rfl⟩
    have hl : (Builtin.len_ #[tt] ty #[.slice none 0 0]).run Tryz.prog w = .ok (.int .i64 0) w := by
      simp [Builtin.len_, Sem.run_bind, run_underlying hs, goInt]
    simp [execOp, h1, resolve, invoke, builtin, Sem.run_bind, hl]
theorem ok_ustr {pt it : TypeId} (h : Opd need x (.val (Lit (.pointer none)))) (h' : Opd need y (.val (Lit (.int .i64 0)))) : OpOk Tryz.prog ⟨d, .call { callee := .builtin .unsafeString, args := #[x, y], argTypes := #[pt, it] }, ty, pos, af, g⟩ need (.val (Lit (.string ⟨#[]⟩))) false :=
  ok_via2 h h' fun ρ w B v u e e' h1 h2 => by
    obtain rfl := e
    obtain rfl := e'
    refine ⟨_, ?_, rfl⟩
    have hl : (Builtin.unsafeString_ #[pt, it] ty #[.pointer none, .int .i64 0]).run Tryz.prog w = .ok (.string .empty) w := Lib.run_unsafeString_none (P := Tryz.prog) (w := w) pt it ty none
    simp [execOp, h1, h2, resolve, invoke, builtin, Sem.run_bind, hl]
    rfl
end

set_option maxRecDepth 20000 in
set_option maxHeartbeats 2000000 in
theorem con_bstr : Con Tryz.prog 149 [IsBld 0] (Lit (.string ⟨#[]⟩)) := by
  refine f_enter (N := 14) Tryz.ntmps149 (fun _ _ => by go_simp) Tryz.func149 rfl (by simp) ?_
  intro a0 w0 B0 H0
  replace H0 : St 14 w0 B0 a0 w0 B0 [(0, .val (IsBld 0))] [] := H0
  refine wp_seq ?_
  refine flow_region (dsts := [some 2]) (refs := [[]]) (outs := [.res 0, .pre 0]) (als := [false]) (posts := [.val (Lit (.string (⟨#[]⟩)))])
    (out := [(2, .val (Lit (.string (⟨#[]⟩)))), (0, .val (IsBld 0))]) (nb := []) H0 1 [] rfl (by kernel_rfl) rfl rfl ?_ ?_
  · refine .cons (.plain rfl (ok_assign (.lit))) ?_
    exact .nil
  clear H0
  intro a1 w1 B1 H1
  refine ops_done ?_
  refine then_normal ?_
  refine wp_seq ?_
  refine flow_drawT (dsts := [some 3, some 4, some 5, some 6, some 7, some 8, some 9, some 10, some 11, some 12, some 13, some 2]) (refs := [[.pre 1], [.res 0], [.res 1], [.res 2], [.res 3], [.pre 1], [.res 5], [.res 6], [.res 7], [.res 8], [.res 4, .res 9], [.res 10]]) (outs := [.res 11]) (als := [false, false, false, false, false, false, false, false, false, false, false, false]) (posts := [.val (IsBld 0), .val (IsBld 0), .val (IsBld 1), .val (Lit (.slice none 0 0)), .val (Lit (.pointer none)), .val (IsBld 0), .val (IsBld 0), .val (IsBld 1), .val (Lit (.slice none 0 0)), .val (Lit (.int .i64 0)), .val (Lit (.string (⟨#[]⟩))), .val (Lit (.string (⟨#[]⟩)))])
    (out := [(2, .val (Lit (.string (⟨#[]⟩))))]) (nb := []) H1 (by kernel_rfl) 12 0 #[true, true, true, true, true, true, true, true, true, true, true, true] (by kernel_rfl) (by kernel_rfl) rfl rfl ?_ ?_
  · refine .cons (.plain rfl (ok_move (.tmp 0 rfl))) ?_
    refine .cons (.plain rfl (ok_nilBld (.tmp 0 rfl))) ?_
    refine .cons (.plain rfl (ok_fldBld (.tmp 0 rfl))) ?_
    refine .cons (.plain rfl (ok_ldBld (.tmp 0 rfl))) ?_
    refine .cons (.plain rfl (ok_usd (.tmp 0 rfl))) ?_
    refine .cons (.plain rfl (ok_move (.tmp 0 rfl))) ?_
    refine .cons (.plain rfl (ok_nilBld (.tmp 0 rfl))) ?_
    refine .cons (.plain rfl (ok_fldBld (.tmp 0 rfl))) ?_
    refine .cons (.plain rfl (ok_ldBld (.tmp 0 rfl))) ?_
    refine .cons (.plain rfl (ok_lenNil Tryz.underlying184 (.tmp 0 rfl))) ?_
    refine .cons (.plain rfl (ok_ustr (.tmp 0 rfl) (.tmp 1 rfl))) ?_
    refine .cons (.plain rfl (ok_assign (.tmp 0 rfl))) ?_
    exact .nil
  clear H1 a1 w1 B1
  intro a2 w2 B2 H2
  refine any_done (by kernel_rfl) ?_
  refine then_normal ?_
  refine wp_ret ?_
  exact f_ret H2 rfl 0 rfl (fun v w B h => by exact h)
end Go.Proofs.YtoimhjcpeifegaaGreatDoor


/- The call through the interface; small contracts of nat. -/
set_option maxRecDepth 50000
namespace Go.Proofs.YtoimhjcpeifegaaGreatDoor
open Go Go.RowKit

section
variable {need : List (Tmp × FD)} {d : Option Tmp} {ty : TypeId} {pos : String} {af : Array Edge} {g : Option (Nat × Bool)} {x : Operand}
theorem ok_inv {o : One} {ts : Array TypeId} (k : Nat) {s : Tmp} (hk : need[k]? = some (s, .val EnvV)) (ho : o.isNone = false) (h : Opd need x (.val (IsOne o))) : OpOk Tryz.prog ⟨d, .call { callee := .invoke x "crucible/number.bits", args := #[], argTypes := ts }, ty, pos, af, g⟩ need (.val (Tup [Lit (.int .u64 (bitsO o).1), IsB (bitsO o).2])) false := by
  intro Q K a w B hB hF hK
  have hv := h a w B hF
  have hE : EnvP w B := hF.get k hk
  suffices fin : ∃ (f : FuncId) (u : Value), (execOp a.eval ⟨d, .call { callee := .invoke x "crucible/number.bits", args := #[], argTypes := ts }, ty, pos, af, g⟩).run Tryz.prog w = .ok (.enter f #[u]) w ∧
      Calls Tryz.prog f #[u] w (fun e w' => ∃ v, e = .returned v ∧ (Tup [Lit (.int .u64 (bitsO o).1), IsB (bitsO o).2]).p v w' B ∧ Below w.heap.size w w') by
    obtain ⟨f, u, hr, hc⟩ := fin
    unfold Oper.wp
    rw [hr]
    refine hc.mono ?_
    rintro e w' ⟨v, rfl, h1, h2⟩
    exact hK v w' B h1 (Bl.of_below B h2) h2 (fun k hk => Nat.lt_of_lt_of_le (hB k hk) h2.size) (by simp)
  cases o with
  | none => cases ho
  | exact X =>
    obtain ⟨p, q, e, hI⟩ := hv
    refine ⟨245, (.agg #[p, q]), ?_, (con_bitsEx X).calls [.agg #[p, q]] w B hB hE ⟨⟨p, q, rfl, hI⟩, trivial⟩⟩
    unfold execOp
    simp only [e, resolve, List.map_toArray, List.map_nil]
    have hm : ∀ (n : Nat), n = Tryz.prog.types.size + Made.depth → ∀ w : World, (method n 166 (.agg #[p, q]) "crucible/number.bits").run Tryz.prog w = .ok (245, (.agg #[p, q])) w := by
      rintro n rfl w
      kernel_rfl
    go_simp
  | broken b =>
    have e : a.eval x = .iface 167 (.agg #[.int .u64 b]) := hv
    refine ⟨247, (.agg #[.int .u64 b]), ?_, (con_bitsB b).calls [.agg #[.int .u64 b]] w B hB ⟨rfl, trivial⟩⟩
    unfold execOp
    simp only [e, resolve, List.map_toArray, List.map_nil]
    have hm : ∀ (n : Nat), n = Tryz.prog.types.size + Made.depth → ∀ w : World, (method n 167 (.agg #[.int .u64 b]) "crucible/number.bits").run Tryz.prog w = .ok (247, (.agg #[.int .u64 b])) w := by
      rintro n rfl w
      kernel_rfl
    go_simp
  | endless b =>
    have e : a.eval x = .iface 124 (.agg #[.int .u64 b]) := hv
    refine ⟨243, (.agg #[.int .u64 b]), ?_, (con_bitsE b).calls [.agg #[.int .u64 b]] w B hB ⟨rfl, trivial⟩⟩
    unfold execOp
    simp only [e, resolve, List.map_toArray, List.map_nil]
    have hm : ∀ (n : Nat), n = Tryz.prog.types.size + Made.depth → ∀ w : World, (method n 124 (.agg #[.int .u64 b]) "crucible/number.bits").run Tryz.prog w = .ok (243, (.agg #[.int .u64 b])) w := by
      rintro n rfl w
      kernel_rfl
    go_simp
  | nothing b =>
    have e : a.eval x = .iface 123 (.agg #[.int .u64 b]) := hv
    refine ⟨242, (.agg #[.int .u64 b]), ?_, (con_bitsN b).calls [.agg #[.int .u64 b]] w B hB ⟨rfl, trivial⟩⟩
    unfold execOp
    simp only [e, resolve, List.map_toArray, List.map_nil]
    have hm : ∀ (n : Nat), n = Tryz.prog.types.size + Made.depth → ∀ w : World, (method n 123 (.agg #[.int .u64 b]) "crucible/number.bits").run Tryz.prog w = .ok (242, (.agg #[.int .u64 b])) w := by
      rintro n rfl w
      kernel_rfl
    go_simp
end
theorem con_nfrom (x : Int) (h : 0 ≤ x ∧ x < 18446744073709551616) : Con Tryz.prog 63 [Lit (.int .u64 x)] (IsC x) := by
  refine ⟨fun _ _ => by go_simp, fun vs w B hB hV => ?_⟩
  match vs, hV with
  | [v], ⟨h1, _⟩ =>
    obtain rfl := h1
    exact (from_calls x w h.1 h.2).mono fun e w' h2 => h2.can.con h.1 ⟨2, by have := lim_eq; omega, by unfold FitK; rw [show (4294967296 : Int) ^ 2 = 18446744073709551616 from by decide]; omega⟩
theorem con_nlen (V : Int) : Con Tryz.prog 86 [IsM V] (Lit (.int .i64 (bitsOf V))) := by
  refine ⟨fun _ _ => by go_simp, fun vs w B hB hV => ?_⟩
  match vs, hV with
  | [v], ⟨h1, _⟩ =>
    obtain ⟨ad, n, c, rfl, k, l⟩ := h1
    refine (num_len ad n c V w k (by have := lim_eq; omega)).mono ?_
    rintro e w' ⟨rfl, rfl⟩
    exact ⟨_, rfl, rfl, Below.refl _ _⟩
theorem con_nshl (V r : Int) (hV : 0 ≤ V) (hr : -9223372036854775808 ≤ r ∧ r < 9223372036854775808) (hf : Fits (shlNum V r)) : Con Tryz.prog 112 [IsM V, Lit (.int .i64 r)] (Tup [IsC (shlNum V r), IsB (shlOk V r)]) := by
  refine ⟨fun _ _ => by go_simp, fun vs w B hB hV2 => ?_⟩
  match vs, hV2 with
  | [v, u], ⟨h1, h2, _⟩ =>
    obtain ⟨ad, n, c, rfl, k, l⟩ := h1
    obtain rfl := h2
    refine (num_shl ad n c V r w k (by have := lim_eq; omega) hr).mono ?_
    rintro e w' ⟨ad2, n2, c2, rfl, k2, hb⟩
    have h0 : 0 ≤ shlNum V r := by
      unfold shlNum
      split
      · exact Int.mul_nonneg hV (Int.pow_nonneg (by omega))
      · omega
    obtain ⟨q, hq, hf⟩ := hf
    exact ⟨_, rfl, ⟨[_, _], rfl, ⟨ad2, n2, c2, rfl, k2, Nat.le_trans (k2.len_le q (by unfold FitK at hf; omega)) hq, h0⟩, rfl, trivial⟩, hb⟩
end Go.Proofs.YtoimhjcpeifegaaGreatDoor


/- package value: the walk through a value of which the first node already may not be. -/
set_option maxRecDepth 50000
set_option maxHeartbeats 4000000
namespace Go.Proofs.YtoimhjcpeifegaaGreatDoor
open Go Go.RowKit

/-- One visit: the node is wrong. -/
theorem visit_bad (f : FuncId) (c0 c1 c4 c5 : Value) (c2 c3 c6 : Value) (kd : Value) (bf : Nat) (p3 p4 : Value) (w : World)
    (hent : ∀ (vs : Array Value) (w : World), (callFunc f vs).run Tryz.prog w = .ok (.enter f vs) w) (hf : w.cell? ⟨bf, 0, none⟩ = some (.func (.func f) #[] #[]))
    (HW : ∀ w', Below w.heap.size w w' → Calls Tryz.prog f #[.agg #[c0, c1, c2, c3, c4, c5, c6, kd], .int .i64 0] w' (fun e w2 => e = .returned (.bool true) ∧ Below w'.heap.size w' w2)) :
    Calls Tryz.prog 146 #[.agg #[c0, c1, c2, c3, c4, c5, c6, kd], .int .i64 0, .pointer (some ⟨bf, 0, none⟩), p3, p4] w (fun e w' => e = .returned (.bool true) ∧ Below w.heap.size w w') := by
  have b0 : Below w.heap.size w (w.alloc (.cells #[c0, c1, c2, c3, c4, c5, c6, kd] 37)) := (Below.refl _ _).alloc (Nat.le_refl _) _
  have hfl : bf < w.heap.size := World.block_lt_of_cell? w _ hf
  have k0 : Cel (w.alloc (.cells #[c0, c1, c2, c3, c4, c5, c6, kd] 37)) w.heap.size 37 [c0, c1, c2, c3, c4, c5, c6, kd] := Cel.made _ _ _ _ rfl
  have hf0 : (w.alloc (.cells #[c0, c1, c2, c3, c4, c5, c6, kd] 37)).cell? ⟨bf, 0, none⟩ = some (.func (.func f) #[] #[]) := (World.cell?_alloc_lt _ _ _ hfl).trans hf
  have G1 := Lib.hid (HW _ b0)
  clear HW
  go_enter Tryz.func146, Tryz.ntmps146
  go_wp2_with fail
  refine (G1.out).mono ?_
  rintro e w1 ⟨rfl, b1⟩
  have b2 := below_trans b0 b1
  clear G1 k0 b0 b1 hf0
  go_wp2_with fail
  go_ret
  exact ⟨rfl, b2⟩
theorem walk_bad (f : FuncId) (c0 c1 c4 c5 : Value) (c2 c3 c6 : Value) (kd : Value) (w : World)
    (hent : ∀ (vs : Array Value) (w : World), (callFunc f vs).run Tryz.prog w = .ok (.enter f vs) w)
    (HW : ∀ w', Below w.heap.size w w' → Calls Tryz.prog f #[.agg #[c0, c1, c2, c3, c4, c5, c6, kd], .int .i64 0] w' (fun e w2 => e = .returned (.bool true) ∧ Below w'.heap.size w' w2)) :
    Calls Tryz.prog 99 #[.agg #[c0, c1, c2, c3, c4, c5, c6, kd], .func (.func f) #[] #[]] w (fun e w' => e = .returned (.tuple #[.string ⟨#[]⟩, .bool true]) ∧ Below w.heap.size w w') := by
  have hmf : ∀ (fn : Fn) (first cap : Array Value) (w : World), (Instr.makeFunc fn first cap).run Tryz.prog w = .ok (.func fn first cap) w := fun _ _ _ _ => rfl
  have b1 : Below w.heap.size w (w.alloc (.cells #[c0, c1, c2, c3, c4, c5, c6, kd] 37)) := (Below.refl _ _).alloc (Nat.le_refl _) _
  have b2 : Below w.heap.size w ((w.alloc (.cells #[c0, c1, c2, c3, c4, c5, c6, kd] 37)).alloc (.cells #[.func (.func f) #[] #[]] 140)) := b1.alloc (by simp) _
  have b3 : Below w.heap.size w (((w.alloc (.cells #[c0, c1, c2, c3, c4, c5, c6, kd] 37)).alloc (.cells #[.func (.func f) #[] #[]] 140)).alloc (.cells #[.slice none 0 0] 182)) := b2.alloc (by simp; omega) _
  have b5 : Below w.heap.size w ((((w.alloc (.cells #[c0, c1, c2, c3, c4, c5, c6, kd] 37)).alloc (.cells #[.func (.func f) #[] #[]] 140)).alloc (.cells #[.slice none 0 0] 182)).alloc (.cells #[.func (.func 146) #[] #[.pointer (some ⟨w.heap.size + 1, 0, none⟩), .pointer (some ⟨w.heap.size + 1 + 1, 0, none⟩), .pointer (some ⟨w.heap.size + 1 + 1 + 1, 0, none⟩)]] 140)) := b3.alloc (by simp; omega) _
  have k1 : Cel (w.alloc (.cells #[c0, c1, c2, c3, c4, c5, c6, kd] 37)) w.heap.size 37 [c0, c1, c2, c3, c4, c5, c6, kd] := Cel.made _ _ _ _ rfl
  have k2 : Cel ((w.alloc (.cells #[c0, c1, c2, c3, c4, c5, c6, kd] 37)).alloc (.cells #[.func (.func f) #[] #[]] 140)) (w.heap.size + 1) 140 [.func (.func f) #[] #[]] := Cel.made _ _ _ _ (by simp)
  have k4 : Cel ((((w.alloc (.cells #[c0, c1, c2, c3, c4, c5, c6, kd] 37)).alloc (.cells #[.func (.func f) #[] #[]] 140)).alloc (.cells #[.slice none 0 0] 182)).alloc (.cells #[.nilFunc] 140)) (w.heap.size + 1 + 1 + 1) 140 [.nilFunc] := Cel.made _ _ _ _ (by simp)
  have k5 : Cel ((((w.alloc (.cells #[c0, c1, c2, c3, c4, c5, c6, kd] 37)).alloc (.cells #[.func (.func f) #[] #[]] 140)).alloc (.cells #[.slice none 0 0] 182)).alloc (.cells #[.func (.func 146) #[] #[.pointer (some ⟨w.heap.size + 1, 0, none⟩), .pointer (some ⟨w.heap.size + 1 + 1, 0, none⟩), .pointer (some ⟨w.heap.size + 1 + 1 + 1, 0, none⟩)]] 140)) (w.heap.size + 1 + 1 + 1) 140 [.func (.func 146) #[] #[.pointer (some ⟨w.heap.size + 1, 0, none⟩), .pointer (some ⟨w.heap.size + 1 + 1, 0, none⟩), .pointer (some ⟨w.heap.size + 1 + 1 + 1, 0, none⟩)]] := Cel.made _ _ _ _ (by simp)
  have a1 : Cel ((((w.alloc (.cells #[c0, c1, c2, c3, c4, c5, c6, kd] 37)).alloc (.cells #[.func (.func f) #[] #[]] 140)).alloc (.cells #[.slice none 0 0] 182)).alloc (.cells #[.func (.func 146) #[] #[.pointer (some ⟨w.heap.size + 1, 0, none⟩), .pointer (some ⟨w.heap.size + 1 + 1, 0, none⟩), .pointer (some ⟨w.heap.size + 1 + 1 + 1, 0, none⟩)]] 140)) w.heap.size 37 [c0, c1, c2, c3, c4, c5, c6, kd] := ((k1.next ((Below.refl _ _).alloc (Nat.le_refl _) _)).next ((Below.refl _ _).alloc (Nat.le_refl _) _)).next ((Below.refl _ _).alloc (Nat.le_refl _) _)
  have a2 : Cel ((((w.alloc (.cells #[c0, c1, c2, c3, c4, c5, c6, kd] 37)).alloc (.cells #[.func (.func f) #[] #[]] 140)).alloc (.cells #[.slice none 0 0] 182)).alloc (.cells #[.func (.func 146) #[] #[.pointer (some ⟨w.heap.size + 1, 0, none⟩), .pointer (some ⟨w.heap.size + 1 + 1, 0, none⟩), .pointer (some ⟨w.heap.size + 1 + 1 + 1, 0, none⟩)]] 140)) (w.heap.size + 1) 140 [.func (.func f) #[] #[]] := (k2.next ((Below.refl _ _).alloc (Nat.le_refl _) _)).next ((Below.refl _ _).alloc (Nat.le_refl _) _)
  have k3 : Cel (((w.alloc (.cells #[c0, c1, c2, c3, c4, c5, c6, kd] 37)).alloc (.cells #[.func (.func f) #[] #[]] 140)).alloc (.cells #[.slice none 0 0] 182)) (w.heap.size + 1 + 1) 182 [.slice none 0 0] := Cel.made _ _ _ _ (by simp)
  have a3 : Cel ((((w.alloc (.cells #[c0, c1, c2, c3, c4, c5, c6, kd] 37)).alloc (.cells #[.func (.func f) #[] #[]] 140)).alloc (.cells #[.slice none 0 0] 182)).alloc (.cells #[.func (.func 146) #[] #[.pointer (some ⟨w.heap.size + 1, 0, none⟩), .pointer (some ⟨w.heap.size + 1 + 1, 0, none⟩), .pointer (some ⟨w.heap.size + 1 + 1 + 1, 0, none⟩)]] 140)) (w.heap.size + 1 + 1) 182 [.slice none 0 0] := k3.next ((Below.refl _ _).alloc (Nat.le_refl _) _)
  have g4 := k4.free 0
  have e4 := k4.cell 0 _ rfl
  have hst : (store ⟨w.heap.size + 1 + 1 + 1, 0, none⟩ (.func (.func 146) #[] #[.pointer (some ⟨w.heap.size + 1, 0, none⟩), .pointer (some ⟨w.heap.size + 1 + 1, 0, none⟩), .pointer (some ⟨w.heap.size + 1 + 1 + 1, 0, none⟩)]) .plain).run Tryz.prog ((((w.alloc (.cells #[c0, c1, c2, c3, c4, c5, c6, kd] 37)).alloc (.cells #[.func (.func f) #[] #[]] 140)).alloc (.cells #[.slice none 0 0] 182)).alloc (.cells #[.nilFunc] 140)) = .ok () (((((w.alloc (.cells #[c0, c1, c2, c3, c4, c5, c6, kd] 37)).alloc (.cells #[.func (.func f) #[] #[]] 140)).alloc (.cells #[.slice none 0 0] 182)).alloc (.cells #[.nilFunc] 140)).setCell ⟨w.heap.size + 1 + 1 + 1, 0, none⟩ (.func (.func 146) #[] #[.pointer (some ⟨w.heap.size + 1, 0, none⟩), .pointer (some ⟨w.heap.size + 1 + 1, 0, none⟩), .pointer (some ⟨w.heap.size + 1 + 1 + 1, 0, none⟩)])) := by
    rw [run_store _ _ _ _ .plain rfl, e4]
    simp [g4]
  have d1 := a1.cell 0 _ rfl
  have d2 := a1.cell 1 _ rfl
  have d3 := a1.cell 2 _ rfl
  have d4 := a1.cell 3 _ rfl
  have d5 := a1.cell 4 _ rfl
  have d6 := a1.cell 5 _ rfl
  have d7 := a1.cell 6 _ rfl
  have d8 := a1.cell 7 _ rfl
  have df := a2.cell 0 _ rfl
  have dc := k5.cell 0 _ rfl
  have G := Lib.hid (visit_bad f c0 c1 c4 c5 c2 c3 c6 kd (w.heap.size + 1) (.pointer (some ⟨w.heap.size + 1 + 1, 0, none⟩)) (.pointer (some ⟨w.heap.size + 1 + 1 + 1, 0, none⟩)) _ hent df (fun w' hb => HW w' (below_trans b5 hb)))
  have B5 := Lib.hid b5
  have A3 := Lib.hid a3
  clear b1 b2 b3 b5 k1 k2 k3 k4 a1 a2 a3 k5 HW df
  have hcl : ∀ (vs : Array Value) (w : World), (callFunc 146 vs).run Tryz.prog w = .ok (.enter 146 vs) w := fun _ _ => by go_simp
  go_enter Tryz.func99, Tryz.ntmps99
  go_wp2_with fail
  refine (G.out).mono ?_
  rintro e w1 ⟨rfl, b6⟩
  have b7 := below_trans B5.out b6
  have ds := (A3.out.next b6).cell 0 _ rfl
  have hlt : w.heap.size + 1 + 1 < w1.heap.size := World.block_lt_of_cell? w1 _ ds
  have ds2 : ∀ o, (w1.alloc o).cell? ⟨w.heap.size + 1 + 1, 0, none⟩ = some (.slice none 0 0) := fun o => (World.cell?_alloc_lt _ _ _ hlt).trans ds
  have GB := Lib.hid (con_bstr.calls [.pointer (some ⟨w1.heap.size, 0, none⟩)] (w1.alloc (.cells #[.pointer none, .slice none 0 0] 186)) (fun _ => False) (fun _ h => h.elim) ⟨⟨_, rfl, fun h => h, heap_alloc_new w1 _⟩, trivial⟩)
  clear A3 G B5 ds hlt d1 d2 d3 d4 d5 d6 d7 d8 dc g4 e4 hst
  go_wp2_with fail
  refine wp_loop_rounds 1 ?_
  rw [rounds_succ]
  go_wp2_with fail
  refine (GB.out).mono ?_
  rintro e w2 ⟨v, rfl, hv, b8⟩
  obtain rfl : v = .string ⟨#[]⟩ := hv
  have b9 := below_trans (b7.alloc (by have := b7.size; omega) _) b8
  clear GB ds2
  go_wp2_with fail
  go_ret2
  exact ⟨rfl, b9⟩
theorem check_bad (c0 c1 c4 c5 : Value) (c2 c3 c6 : Value) (kd ue : Value) (te : TypeId) (w : World) (hA : w.cell? ⟨0, 0, none⟩ = some (.iface te ue))
    (HW : ∀ w', Below w.heap.size w w' → Calls Tryz.prog 100 #[.agg #[c0, c1, c2, c3, c4, c5, c6, kd], .int .i64 0] w' (fun e w2 => e = .returned (.bool true) ∧ Below w'.heap.size w' w2)) :
    Calls Tryz.prog 39 #[.agg #[c0, c1, c2, c3, c4, c5, c6, kd]] w (fun e w' => (∃ t u, e = .returned (.iface t u)) ∧ Below w.heap.size w w') := by
  have b1 : Below w.heap.size w (w.alloc (.cells #[c0, c1, c2, c3, c4, c5, c6, kd] 37)) := (Below.refl _ _).alloc (Nat.le_refl _) _
  have k1 : Cel (w.alloc (.cells #[c0, c1, c2, c3, c4, c5, c6, kd] 37)) w.heap.size 37 [c0, c1, c2, c3, c4, c5, c6, kd] := Cel.made _ _ _ _ rfl
  have G1 := Lib.hid (walk_bad 100 c0 c1 c4 c5 c2 c3 c6 kd _ (fun _ _ => by go_simp) (fun w' hb => HW w' (below_trans b1 hb)))
  have HA := Lib.hid hA
  have K1 := Lib.hid k1
  clear k1 HW hA
  go_enter Tryz.func39, Tryz.ntmps39
  go_wp2_with fail
  refine (G1.out).mono ?_
  rintro e w1 ⟨rfl, b2⟩
  have b3 := below_trans b1 b2
  have hA2 : w1.cell? ⟨0, 0, none⟩ = some (.iface te ue) := (World.cell?_of_block (b3.block _ (World.block_lt_of_cell? w _ HA.out))).trans HA.out
  clear G1 K1 HA b1 b2
  go_wp2_with fail
  go_ret
  exact ⟨⟨_, _, rfl⟩, by first | exact b3 | exact b3.alloc (by have := b3.size; omega) _⟩
end Go.Proofs.YtoimhjcpeifegaaGreatDoor

