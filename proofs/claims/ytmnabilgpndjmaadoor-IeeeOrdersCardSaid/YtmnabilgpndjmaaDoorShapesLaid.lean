/- The table of shapes out of a row's list. -/
import Derived.Test.YtmnabilgpndjmaaDoorShapes
import Derived.Test.YtmnabilgpndjmaaDoorCards
import Derived.Lib.LaidTab
set_option linter.unusedVariables false
set_option linter.unusedSimpArgs false
namespace Go.Proofs.YtmnabilgpndjmaaDoor
open Go.RowKit

theorem trod_int {H : Type} {enc : TypeId × Value → H} {P : Program} {w : World} {base : Nat} {sp : Nat → Bool} {held : Bool} {fuel : Nat} {t : TypeId} {k : IntKind} {c : Value} {v : Int} {p : List MemPlace}
    (ht : P.underlying t = some (.int k)) (h : DataW.trod enc P w base sp held fuel t [c] = some (.lit (.int k v), p)) : c = .int k v := by
  cases fuel with
  | zero => simp [DataW.trod] at h
  | succ fuel =>
    simp only [DataW.trod, ht] at h
    split at h <;> simp_all

theorem trod_struct3 {H : Type} {enc : TypeId × Value → H} {P : Program} {w : World} {base : Nat} {sp : Nat → Bool} {held : Bool} {fuel : Nat} {t i : TypeId} {fs : Array Field} {k : IntKind} {cs : List Value} {a b c : Int} {p : List MemPlace}
    (ht : P.underlying t = some (.struct fs)) (hf : fs.toList.map (fun f => (f.type, f.offset)) = [(i, 0), (i, 1), (i, 2)]) (hi : P.underlying i = some (.int k)) (hc : P.cellsOf i = 1) (hct : P.cellsOf t = 3)
    (h : DataW.trod enc P w base sp held fuel t cs = some (.agg [.lit (.int k a), .lit (.int k b), .lit (.int k c)], p)) : cs = [.int k a, .int k b, .int k c] := by
  cases fuel with
  | zero => simp [DataW.trod] at h
  | succ fuel =>
    simp only [DataW.trod, ht, hct] at h
    split at h
    · rename_i hl
      rcases cs with _ | ⟨x, _ | ⟨y, _ | ⟨z, _ | ⟨u, cs⟩⟩⟩⟩ <;> simp at hl
      obtain ⟨f0, f1, f2, hfs⟩ : ∃ f0 f1 f2, fs.toList = [f0, f1, f2] := by
        have hl := congrArg List.length hf
        simp only [List.length_map, List.length_cons, List.length_nil] at hl
        rcases hh : fs.toList with _ | ⟨f0, _ | ⟨f1, _ | ⟨f2, _ | ⟨f3, r⟩⟩⟩⟩ <;> rw [hh] at hl <;> simp at hl
        exact ⟨f0, f1, f2, rfl⟩
      rw [hfs] at h hf
      simp only [List.map_cons, List.map_nil, List.cons.injEq, Prod.mk.injEq, and_true] at hf
      obtain ⟨⟨t0, o0⟩, ⟨t1, o1⟩, ⟨t2, o2⟩⟩ := hf
      simp only [List.mapM_cons, List.mapM_nil, t0, t1, t2, o0, o1, o2, hc] at h
      simp only [List.drop_zero, List.drop_succ_cons, List.take_succ_cons, List.take_zero, Option.bind_eq_bind, Option.pure_def, Option.map_eq_some_iff, Option.bind_eq_some_iff, Option.some.injEq] at h
      obtain ⟨xs, ⟨d0, e0, r0, ⟨d1, e1, r1, ⟨d2, e2, r2, rfl, rfl⟩, rfl⟩, rfl⟩, hx⟩ := h
      simp only [List.map_cons, List.map_nil, Prod.mk.injEq, DataW.agg.injEq, List.cons.injEq, and_true] at hx
      obtain ⟨⟨q0, q1, q2⟩, -⟩ := hx
      obtain ⟨d0, p0⟩ := d0
      obtain ⟨d1, p1⟩ := d1
      obtain ⟨d2, p2⟩ := d2
      simp only at q0 q1 q2
      subst q0 q1 q2
      rw [trod_int hi e0, trod_int hi e1, trod_int hi e2]
    · cases h
theorem trod_array3 {H : Type} {enc : TypeId × Value → H} {P : Program} {w : World} {base : Nat} {sp : Nat → Bool} {held : Bool} {fuel : Nat} {t e : TypeId} {cs : List Value} {d0 d1 d2 : DataW H} {p : List MemPlace}
    (ht : P.underlying t = some (.array 3 e)) (hc : P.cellsOf e = 3) (hct : P.cellsOf t = 9)
    (h : DataW.trod enc P w base sp held fuel t cs = some (.agg [d0, d1, d2], p)) :
    ∃ fuel c0 c1 c2 p0 p1 p2, cs = c0 ++ (c1 ++ c2) ∧ DataW.trod enc P w base sp held fuel e c0 = some (d0, p0) ∧ DataW.trod enc P w base sp held fuel e c1 = some (d1, p1) ∧ DataW.trod enc P w base sp held fuel e c2 = some (d2, p2) := by
  cases fuel with
  | zero => simp [DataW.trod] at h
  | succ fuel =>
    simp only [DataW.trod, ht, hct] at h
    split at h
    · rename_i hl
      simp only [show List.range 3 = [0, 1, 2] from rfl, List.mapM_cons, List.mapM_nil, hc] at h
      simp only [Option.bind_eq_bind, Option.pure_def, Option.map_eq_some_iff, Option.bind_eq_some_iff, Option.some.injEq] at h
      obtain ⟨xs, ⟨x0, e0, r0, ⟨x1, e1, r1, ⟨x2, e2, r2, rfl, rfl⟩, rfl⟩, rfl⟩, hx⟩ := h
      simp only [List.map_cons, List.map_nil, Prod.mk.injEq, DataW.agg.injEq, List.cons.injEq, and_true] at hx
      obtain ⟨⟨q0, q1, q2⟩, -⟩ := hx
      obtain ⟨x0, p0⟩ := x0
      obtain ⟨x1, p1⟩ := x1
      obtain ⟨x2, p2⟩ := x2
      simp only at q0 q1 q2
      subst q0 q1 q2
      refine ⟨fuel, _, _, _, _, _, _, ?_, e0, e1, e2⟩
      rcases cs with _ | ⟨a0, _ | ⟨a1, _ | ⟨a2, _ | ⟨a3, _ | ⟨a4, _ | ⟨a5, _ | ⟨a6, _ | ⟨a7, _ | ⟨a8, _ | ⟨a9, cs⟩⟩⟩⟩⟩⟩⟩⟩⟩⟩ <;> simp at hl
      rfl
    · cases h

theorem gShapes : Tryd.prog.globalNamed "crucible/ieee.shapes" = some 0 := by kernel_rfl
theorem gShapesType : (Tryd.prog.globals[0]?).map (·.type) = some 176 := by kernel_rfl
theorem cellsShapes : Tryd.prog.cellsOf 176 = 9 := by kernel_rfl
theorem cellsShape : Tryd.prog.cellsOf 142 = 3 := by kernel_rfl
theorem cellsInt : Tryd.prog.cellsOf 3 = 1 := by kernel_rfl

theorem shapes_of_laid {W : World} {r : List (String × DataW Unit)} {q : List MemPlace} (h : DataW.LaidVars Tryd.prog W (("crucible/ieee.shapes", Rows.laid_crucible_ieee_shapes) :: r) q) : Shapes W := by
  obtain ⟨g, t, cs, fuel, p, q1, hg, ht, hcs, htr, -, -⟩ := h
  rw [gShapes] at hg
  injection hg with hg
  subst hg
  rw [gShapesType] at ht
  injection ht with ht
  subst ht
  obtain ⟨f, c0, c1, c2, p0, p1, p2, hc, e0, e1, e2⟩ := trod_array3 Tryd.underlying176 cellsShape cellsShapes htr
  have k0 := trod_struct3 Tryd.underlying142 rfl Tryd.underlying3 cellsInt cellsShape e0
  have k1 := trod_struct3 Tryd.underlying142 rfl Tryd.underlying3 cellsInt cellsShape e1
  have k2 := trod_struct3 Tryd.underlying142 rfl Tryd.underlying3 cellsInt cellsShape e2
  rw [k0, k1, k2] at hc
  have hcs2 : cs = #[.int .i64 10, .int .i64 (-24), .int .i64 5, .int .i64 23, .int .i64 (-149), .int .i64 8, .int .i64 52, .int .i64 (-1074), .int .i64 11] := by
    apply Array.toList_inj.1
    rw [hc]
    rfl
  subst hcs2
  have c := World.var?_cell gShapes hcs
  exact ⟨by rw [c]; rfl, by rw [c]; rfl, by rw [c]; rfl, by rw [c]; rfl, by rw [c]; rfl, by rw [c]; rfl, by rw [c]; rfl, by rw [c]; rfl, by rw [c]; rfl⟩
end Go.Proofs.YtmnabilgpndjmaaDoor
