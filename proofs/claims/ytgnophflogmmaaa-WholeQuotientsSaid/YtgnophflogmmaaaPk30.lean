/- Contracts of functions, and plain facts, part 30. -/
import Derived.Test.YtgnophflogmmaaaPk25
import Derived.Test.YtgnophflogmmaaaPk28
import Derived.Test.YtgnophflogmmaaaPk29
set_option linter.unusedVariables false
set_option linter.unusedSimpArgs false
/- The structs of layer 3's laws: Three, Bytes. -/
namespace Go.Proofs.Ytgnophflogmmaaa
open Go Go.RowKit

theorem Arg.mv {w w' : World} {B B' : Bx} (h : Mv w B w' B') {ad : Option Addr} {n c : Nat} {xs : List Int} (k : Arg w ad n c xs) : Arg w' ad n c xs := ⟨k.le, k.rds.mv h (.inl rfl), k.dig⟩
section three
variable (gx gy gz : Bool) (nx ny nz : Nat) (xx xy xz : List Int) (m n : Int)
def PThree (v : Value) (w : World) (B : Bx) : Prop := ∃ ax cx ay cy az cz, v = .agg #[.bool gx, .slice ax nx cx, .bool gy, .slice ay ny cy, .bool gz, .slice az nz cz, .int .i64 m, .int .i64 n] ∧ Arg w ax nx cx xx ∧ Arg w ay ny cy xy ∧ Arg w az nz cz xz
def IsThree : VP := ⟨PThree gx gy gz nx ny nz xx xy xz m n, fun v w B w' B' h ⟨ax, cx, ay, cy, az, cz, e, k1, k2, k3⟩ => ⟨ax, cx, ay, cy, az, cz, e, k1.mv h, k2.mv h, k3.mv h⟩⟩
variable {gx gy gz nx ny nz xx xy xz m n}
theorem two_Three (v : Value) (w : World) (B : Bx) (h : (IsThree gx gy gz nx ny nz xx xy xz m n).p v w B) : ∃ cs, v = .agg cs ∧ cs.size = 8 := by
  obtain ⟨ax, cx, ay, cy, az, cz, e, _⟩ := h
  exact ⟨_, e, rfl⟩
variable {need : List (Tmp × FD)} {d : Option Tmp} {ty : TypeId} {pos : String} {af : Array Edge} {g : Option (Nat × Bool)} {x : Operand} {D : VP}
set_option maxRecDepth 50000 in
theorem ok_addr3_0 (h : Opd need x (.box 58 8 D)) : OpOk Try.prog ⟨d, .fieldAddr 58 x 0, ty, pos, af, g⟩ need (.ptr 58 8 D 0) false :=
  ok_fieldAddr 0 0 Try.underlying58 rfl rfl (fun w => ⟨2, by go_simp, by decide⟩) h
set_option maxRecDepth 50000 in
theorem ok_addr3_1 (h : Opd need x (.box 58 8 D)) : OpOk Try.prog ⟨d, .fieldAddr 58 x 1, ty, pos, af, g⟩ need (.ptr 58 8 D 2) false :=
  ok_fieldAddr 1 2 Try.underlying58 rfl rfl (fun w => ⟨2, by go_simp, by decide⟩) h
set_option maxRecDepth 50000 in
theorem ok_addr3_2 (h : Opd need x (.box 58 8 D)) : OpOk Try.prog ⟨d, .fieldAddr 58 x 2, ty, pos, af, g⟩ need (.ptr 58 8 D 4) false :=
  ok_fieldAddr 2 4 Try.underlying58 rfl rfl (fun w => ⟨2, by go_simp, by decide⟩) h
set_option maxRecDepth 50000 in
theorem ok_addr3_3 (h : Opd need x (.box 58 8 D)) : OpOk Try.prog ⟨d, .fieldAddr 58 x 3, ty, pos, af, g⟩ need (.ptr 58 8 D 6) false :=
  ok_fieldAddr 3 6 Try.underlying58 rfl rfl (fun w => ⟨1, by go_simp, by decide⟩) h
set_option maxRecDepth 50000 in
theorem ok_addr3_4 (h : Opd need x (.box 58 8 D)) : OpOk Try.prog ⟨d, .fieldAddr 58 x 4, ty, pos, af, g⟩ need (.ptr 58 8 D 7) false :=
  ok_fieldAddr 4 7 Try.underlying58 rfl rfl (fun w => ⟨1, by go_simp, by decide⟩) h
theorem ok_load3_0 (h : Opd need x (.ptr 58 8 (IsThree gx gy gz nx ny nz xx xy xz m n) 0)) : OpOk Try.prog ⟨d, .load 25 x, ty, pos, af, g⟩ need (.val (IsArg gx nx xx)) false :=
  ok_loadPtrA tyI h (by decide) fun cs w B ⟨ax, cx, ay, cy, az, cz, e, k1, k2, k3⟩ => by
    injection e with e
    subst e
    exact ⟨ax, cx, rfl, k1⟩
theorem ok_load3_1 (h : Opd need x (.ptr 58 8 (IsThree gx gy gz nx ny nz xx xy xz m n) 2)) : OpOk Try.prog ⟨d, .load 25 x, ty, pos, af, g⟩ need (.val (IsArg gy ny xy)) false :=
  ok_loadPtrA tyI h (by decide) fun cs w B ⟨ax, cx, ay, cy, az, cz, e, k1, k2, k3⟩ => by
    injection e with e
    subst e
    exact ⟨ay, cy, rfl, k2⟩
theorem ok_load3_2 (h : Opd need x (.ptr 58 8 (IsThree gx gy gz nx ny nz xx xy xz m n) 4)) : OpOk Try.prog ⟨d, .load 25 x, ty, pos, af, g⟩ need (.val (IsArg gz nz xz)) false :=
  ok_loadPtrA tyI h (by decide) fun cs w B ⟨ax, cx, ay, cy, az, cz, e, k1, k2, k3⟩ => by
    injection e with e
    subst e
    exact ⟨az, cz, rfl, k3⟩
theorem aggI64 (w : World) : (isAgg 2).run Try.prog w = .ok false w := by go_simp
theorem ok_load3_3 (h : Opd need x (.ptr 58 8 (IsThree gx gy gz nx ny nz xx xy xz m n) 6)) : OpOk Try.prog ⟨d, .load 2 x, ty, pos, af, g⟩ need (.val (Lit (.int .i64 m))) false :=
  ok_loadPtr1 aggI64 h (by decide) fun cs v w B ⟨ax, cx, ay, cy, az, cz, e, _⟩ hv => by
    injection e with e
    subst e
    simp at hv
    exact hv.symm
theorem ok_load3_4 (h : Opd need x (.ptr 58 8 (IsThree gx gy gz nx ny nz xx xy xz m n) 7)) : OpOk Try.prog ⟨d, .load 2 x, ty, pos, af, g⟩ need (.val (Lit (.int .i64 n))) false :=
  ok_loadPtr1 aggI64 h (by decide) fun cs v w B ⟨ax, cx, ay, cy, az, cz, e, _⟩ hv => by
    injection e with e
    subst e
    simp at hv
    exact hv.symm
theorem arg_fit {w : World} {ng : Bool} {ad : Option Addr} {n c : Nat} {xs : List Int} {X : Int} (hX : sI ng (val 4294967296 xs) = X) (k : Arg w ad n c xs) : FitK n X := by
  unfold FitK
  rw [← hX, sI_abs ng _ k.nonneg]
  exact k.lt
theorem PThree.fits {v : Value} {w : World} {B : Bx} {X Y Z : Int} (hX : sI gx (val 4294967296 xx) = X) (hY : sI gy (val 4294967296 xy) = Y) (hZ : sI gz (val 4294967296 xz) = Z) (h : (IsThree gx gy gz nx ny nz xx xy xz m n).p v w B) : FitK nx X ∧ FitK ny Y ∧ FitK nz Z := by
  obtain ⟨ax, cx, ay, cy, az, cz, e, k1, k2, k3⟩ := h
  exact ⟨arg_fit hX k1, arg_fit hY k2, arg_fit hZ k3⟩
end three
end Go.Proofs.Ytgnophflogmmaaa
