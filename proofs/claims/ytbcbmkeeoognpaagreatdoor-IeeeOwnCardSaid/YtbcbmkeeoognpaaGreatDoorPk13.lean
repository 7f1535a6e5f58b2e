/- Contracts of functions, and plain facts, part 13. -/
import Derived.Test.YtbcbmkeeoognpaaGreatDoorProg
import Derived.BigRegion
import Derived.BigQuiet
import Derived.Deep.QuietTactic
import Derived.Deep.LoopGhost
import Derived.Deep.DeepCutAuto
import Derived.Deep.RegionWith
import Derived.Deep.RegionHeld3
import Derived.Test.YtbcbmkeeoognpaaGreatDoorPk4
import Derived.Test.YtbcbmkeeoognpaaGreatDoorPk6
import Derived.Test.YtbcbmkeeoognpaaGreatDoorPk7
import Derived.Test.YtbcbmkeeoognpaaGreatDoorPk8
import Derived.Test.YtbcbmkeeoognpaaGreatDoorPk9
import Derived.Test.YtbcbmkeeoognpaaGreatDoorPk10
import Derived.Test.YtbcbmkeeoognpaaGreatDoorPk11
import Derived.Test.YtbcbmkeeoognpaaGreatDoorPk12
set_option linter.unusedVariables false
set_option linter.unusedSimpArgs false
/- A number's bytes, and the number of bytes: plain. -/
namespace Go.Proofs.YtbcbmkeeoognpaaGreatDoor

end Go.Proofs.YtbcbmkeeoognpaaGreatDoor


/- whole.flip: each byte turned about, and one more. -/
namespace Go.Proofs.YtbcbmkeeoognpaaGreatDoor
open Go.RowKit

/-- The lowest byte first, with what is still to be added. -/
def flipL : List Int → Int → List Int
  | [], _ => []
  | x :: l, c => (255 - x + c) % 256 :: flipL l (if (255 - x + c) % 256 = 0 then c else 0)
def cyL : List Int → Int → Int
  | [], c => c
  | x :: l, c => cyL l (if (255 - x + c) % 256 = 0 then c else 0)
theorem flipL_length (l : List Int) (c : Int) : (flipL l c).length = l.length := by
  induction l generalizing c with
  | nil => rfl
  | cons x l ih => simp [flipL, ih]
theorem flipL_snoc (l : List Int) (x c : Int) : flipL (l ++ [x]) c = flipL l c ++ [(255 - x + cyL l c) % 256] := by
  induction l generalizing c with
  | nil => rfl
  | cons y l ih => simp [flipL, cyL, ih]
theorem cyL_snoc (l : List Int) (x c : Int) : cyL (l ++ [x]) c = if (255 - x + cyL l c) % 256 = 0 then cyL l c else 0 := by
  induction l generalizing c with
  | nil => rfl
  | cons y l ih => exact ih _
theorem cyL_bd (l : List Int) (c : Int) (h : c = 0 ∨ c = 1) : cyL l c = 0 ∨ cyL l c = 1 := by
  induction l generalizing c with
  | nil => exact h
  | cons x l ih => exact ih _ (by split <;> omega)
/-- What flip makes of bytes, the highest first. -/
def flipB (xs : List Int) : List Int := (flipL xs.reverse 1).reverse
def FlipI (xs X : List Int) (k : Nat) (c : Int) : Prop := X = (flipL (xs.reverse.take k) 1 ++ xs.reverse.drop k).reverse ∧ c = cyL (xs.reverse.take k) 1
theorem FlipI.start (xs : List Int) : FlipI xs xs 0 1 := ⟨by simp [flipL], rfl⟩
theorem FlipI.length {xs X : List Int} {k : Nat} {c : Int} (h : FlipI xs X k c) (hk : k ≤ xs.length) : X.length = xs.length := by
  rw [h.1, List.length_reverse, List.length_append, flipL_length, List.length_take, List.length_drop, List.length_reverse]
  omega
theorem FlipI.end {xs X : List Int} {c : Int} (h : FlipI xs X xs.length c) : X = flipB xs := by
  rw [h.1, List.take_of_length_le (by simp), List.drop_of_length_le (by simp), List.append_nil]
  rfl
theorem FlipI.bd {xs X : List Int} {k : Nat} {c : Int} (h : FlipI xs X k c) : c = 0 ∨ c = 1 := by rw [h.2]; exact cyL_bd _ _ (.inr rfl)
theorem FlipI.step {xs X : List Int} {k r : Nat} {c : Int} (h : FlipI xs X k c) (hr : k + (r + 1) = xs.length) :
    X[r]?.getD 0 = xs[r]?.getD 0 ∧ FlipI xs (X.set r ((255 - xs[r]?.getD 0 + c) % 256)) (k + 1) (if (255 - xs[r]?.getD 0 + c) % 256 = 0 then c else 0) := by
  obtain ⟨h1, h2⟩ := h
  have hl : xs.reverse.length = xs.length := List.length_reverse
  have hk : k < xs.reverse.length := by omega
  have e1 : xs[r]?.getD 0 = xs.reverse[k] := by
    rw [List.getElem_reverse, List.getElem?_eq_getElem (by omega), Option.getD_some]
    congr 1
    omega
  have e2 : xs.reverse.drop k = xs.reverse[k] :: xs.reverse.drop (k + 1) := List.drop_eq_getElem_cons hk
  have e3 : xs.reverse.take (k + 1) = xs.reverse.take k ++ [xs.reverse[k]] := by rw [List.take_add_one, List.getElem?_eq_getElem hk]; rfl
  have e4 : (xs.reverse.drop (k + 1)).reverse.length = r := by rw [List.length_reverse, List.length_drop]; omega
  rw [e1]
  generalize xs.reverse[k] = x at *
  have e5 : X = (xs.reverse.drop (k + 1)).reverse ++ x :: (flipL (xs.reverse.take k) 1).reverse := by rw [h1, e2, List.reverse_append, List.reverse_cons, List.append_assoc]; rfl
  refine ⟨?_, ?_, ?_⟩
  · rw [e5, List.getElem?_append_right (by omega), e4, Nat.sub_self]; rfl
  · rw [e3, flipL_snoc, ← h2, e5, List.set_append_right _ _ (by omega), e4, Nat.sub_self, List.reverse_append, List.reverse_append]
    simp
  · rw [e3, cyL_snoc, ← h2]
end Go.Proofs.YtbcbmkeeoognpaaGreatDoor


/- Add by worth alone. -/
namespace Go.Proofs.YtbcbmkeeoognpaaGreatDoor
open Go.RowKit

theorem num_add (ad bd : Option Addr) (n m c d : Nat) (V U : Int) (w : World) (h : Num w ad n c V) (k : Num w bd m d U) (hn : n ≤ 70368744177663) (hm : m ≤ 70368744177663) :
    Calls Tryz.prog 55 #[.slice ad n c, .slice bd m d] w (RetC (V + U) w) := by
  obtain ⟨xs, h1, h2, rfl⟩ := h.row
  obtain ⟨zs, k1, k2, rfl⟩ := k.row
  exact (add_calls ad bd n m c d xs zs w (by omega) (by omega) h.le k.le h1 k1 h2 k2).mono fun e w' q => q.can
end Go.Proofs.YtbcbmkeeoognpaaGreatDoor


/- NSub by worth alone. -/
namespace Go.Proofs.YtbcbmkeeoognpaaGreatDoor
open Go.RowKit

end Go.Proofs.YtbcbmkeeoognpaaGreatDoor


/- RAdd by worth alone. -/
namespace Go.Proofs.YtbcbmkeeoognpaaGreatDoor
open Go.RowKit

end Go.Proofs.YtbcbmkeeoognpaaGreatDoor


/- crucibleref01.Sub: the difference, or that there is none. -/
namespace Go.Proofs.YtbcbmkeeoognpaaGreatDoor
open Go.RowKit

end Go.Proofs.YtbcbmkeeoognpaaGreatDoor


/- RLen by worth alone. -/
namespace Go.Proofs.YtbcbmkeeoognpaaGreatDoor
open Go.RowKit

end Go.Proofs.YtbcbmkeeoognpaaGreatDoor


/- crucibleref01.Shl: times 2 to the power of n. -/
namespace Go.Proofs.YtbcbmkeeoognpaaGreatDoor
open Go.RowKit

theorem Blk.app {w : World} {b : Nat} {t : TypeId} {k : IntKind} {ys : List Int} (h : Blk w b t k ys) (B : Nat) (hB : B ≤ b) (hbig : ys.length ≤ 281474976710656) : App B w t k (some ⟨b, 0, none⟩) ys.length ys.length ys :=
  ⟨by simp [nums], .inr ⟨b, ys.length, _, rfl, hB, h, Nat.le_refl _, by simp only [maxLen]; omega, by simp [nums], by simp [nums, List.take_of_length_le]⟩⟩

end Go.Proofs.YtbcbmkeeoognpaaGreatDoor


/- Decimal texts: told, read, a digit more. Plain. -/
namespace Go.Proofs.YtbcbmkeeoognpaaGreatDoor

end Go.Proofs.YtbcbmkeeoognpaaGreatDoor


/- crucibleref01.Small: divided by a small number. -/
namespace Go.Proofs.YtbcbmkeeoognpaaGreatDoor
open Go.RowKit

end Go.Proofs.YtbcbmkeeoognpaaGreatDoor


/- quot.Pow: a small number to a power. -/
namespace Go.Proofs.YtbcbmkeeoognpaaGreatDoor
open Go.RowKit

end Go.Proofs.YtbcbmkeeoognpaaGreatDoor


/- TwinInt, SameInt, LeftInt of the statements. -/
namespace Go.Proofs.YtbcbmkeeoognpaaGreatDoor
open Go.RowKit

/-- A bool is answered, nothing old has turned. -/
def RetBB (r : Bool) (w : World) (e : Ending) (w' : World) : Prop := e = .returned (.bool r) ∧ Below w.heap.size w w'

theorem sameInt_calls (ng mg : Bool) (ad bd : Option Addr) (n m c d : Nat) (V U : Int) (w : World) (ha : Can w ad n c V) (hb : Can w bd m d U) (hV : 0 ≤ V) (hU : 0 ≤ U) (hn : n ≤ 1000000000000) (hm : m ≤ 1000000000000) :
    Calls Tryz.prog 21 #[.agg #[.bool ng, .slice ad n c], .agg #[.bool mg, .slice bd m d]] w (RetBB (ng == mg && decide (V = U)) w) := by
  have b1 : Below w.heap.size w (w.alloc (.cells #[.bool ng, .slice ad n c] 52)) := (Below.refl _ _).alloc (Nat.le_refl _) _
  have b2 : Below w.heap.size w ((w.alloc (.cells #[.bool ng, .slice ad n c] 52)).alloc (.cells #[.bool mg, .slice bd m d] 52)) := below_alloc b1 _
  have k0 : Cel ((w.alloc (.cells #[.bool ng, .slice ad n c] 52)).alloc (.cells #[.bool mg, .slice bd m d] 52)) w.heap.size 52 [.bool ng, .slice ad n c] := (Cel.made _ _ _ _ rfl : Cel (w.alloc (.cells #[.bool ng, .slice ad n c] 52)) w.heap.size 52 [.bool ng, .slice ad n c]).next ((Below.refl _ _).alloc (Nat.le_refl _) _)
  have k1 : Cel ((w.alloc (.cells #[.bool ng, .slice ad n c] 52)).alloc (.cells #[.bool mg, .slice bd m d] 52)) (w.heap.size + 1) 52 [.bool mg, .slice bd m d] := Cel.made _ _ _ _ (by simp)
  have HS := Lib.hid (num_same ad bd n m c d V U _ (ha.below b2 (Nat.le_refl _)) (hb.below b2 (Nat.le_refl _)) hV hU hn hm)
  have c0 := k0.cell 0 _ rfl
  have c1 := k0.cell 1 _ rfl
  have d0 := k1.cell 0 _ rfl
  have d1 := k1.cell 1 _ rfl
  obtain ⟨r, hr⟩ : ∃ r, r = (ng == mg && decide (V = U)) := ⟨_, rfl⟩
  rw [← hr]
  have HR := Lib.hid hr
  clear ha hb b1 hr k0 k1
  generalize decide (V = U) = vu at *
  cases ng <;> cases mg
  · have HE := Lib.hid (show r = vu by rw [HR.out]; rfl)
    go_enter Tryz.func21, Tryz.ntmps21
    go_wp2_with fail
    refine (HS.out).mono ?_
    rintro e w' ⟨rfl, q, rfl⟩
    go_wp2
    go_ret
    rw [HE.out]
    exact ⟨rfl, below_drewN b2 _⟩
  · have HE := Lib.hid (show r = false by rw [HR.out]; rfl)
    go_enter Tryz.func21, Tryz.ntmps21
    go_wp2
    go_ret
    rw [HE.out]
    exact ⟨rfl, b2⟩
  · have HE := Lib.hid (show r = false by rw [HR.out]; rfl)
    go_enter Tryz.func21, Tryz.ntmps21
    go_wp2
    go_ret
    rw [HE.out]
    exact ⟨rfl, b2⟩
  · have HE := Lib.hid (show r = vu by rw [HR.out]; rfl)
    go_enter Tryz.func21, Tryz.ntmps21
    go_wp2_with fail
    refine (HS.out).mono ?_
    rintro e w' ⟨rfl, q, rfl⟩
    go_wp2
    go_ret
    rw [HE.out]
    exact ⟨rfl, below_drewN b2 _⟩

end Go.Proofs.YtbcbmkeeoognpaaGreatDoor


/- Whole numbers: Norm of the program. -/
namespace Go.Proofs.YtbcbmkeeoognpaaGreatDoor
open Go.RowKit

/-- As RetInt, sign and size by name. -/
def RetIntR (r : Bool) (A : Int) (w : World) (e : Ending) (w' : World) : Prop :=
  ∃ ad n c, e = .returned (.agg #[.bool r, .slice ad n c]) ∧ Can w' ad n c A ∧ Below w.heap.size w w'
theorem RetInt.named {N : Int} {r : Bool} {A : Int} (hr : decide (N < 0) = r) (hA : A = (N.natAbs : Int)) {w : World} {e : Ending} {w' : World} (h : RetInt N w e w') : RetIntR r A w e w' := by
  obtain ⟨ad, n, c, e1, h1, h2⟩ := h
  rw [hr] at e1
  rw [← hA] at h1
  exact ⟨ad, n, c, e1, h1, h2⟩
end Go.Proofs.YtbcbmkeeoognpaaGreatDoor


/- quot.moved: a number times 2 to the power of n, n below 32. -/
namespace Go.Proofs.YtbcbmkeeoognpaaGreatDoor
open Go.RowKit

end Go.Proofs.YtbcbmkeeoognpaaGreatDoor

