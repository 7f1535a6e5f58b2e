/-
  NARROWER THAN 'FOR EVERY INPUT', by the rows' own cells (each row's printed sentence says how): IeeeOrders: laid · IeeeRounds: laid · IeeeParts: laid · IeeeRises: laid · IeeeWidths: laid · IeeeMore: laid · IeeeNearest: laid · IeeeSteps: laid · IeeeSorted: laid · IeeeWhole: laid · IeeeBack: laid.
  DERIVED. THE GIVEN ROWS OF THIS SEAT. 11 by the template 'for every input the law returns true; each argument reads behind the call as it read before'; 0 by the template 'total and deterministic' (their statements: YtmnabilgpndjmaaDoorTotals.lean).
  GIVEN WITH THE SEED: the statements are not yours to turn. If you find one false, say at which input.
  Laid BY PROGRAM, IN A SANDBOX (cutbox-rows.mjs): the forced cells as the released guide's own fill.sh prints them over the translation a4cba017988ecb7d… (all of the seat's roots in one cut). By AI agents, Wed Nov 11 2026. No macro, syntax, notation, axiom, sorry.
-/
import Derived.Test.YtmnabilgpndjmaaDoorChecked
import GoSem.Claim
import GoSem.ClaimJoined
import GoSem.ClaimMapViews
import Derived.JoinedTies
import Derived.KernelRfl
namespace Go.Proofs.YtmnabilgpndjmaaDoor
/- THE CELL 'sum', in the pinned program and in every row, IS THE sha256 OF THE DUMP (.gsa) THAT YtmnabilgpndjmaaDoorProg.lean LOADS. Nothing in Lean hashes anything: it is a label: what it is worth is what the hold of that sum in a sandbox is worth. -/
noncomputable def Tryd.pinned : Pinned := { name := "ytmnabilgpndjmaadoor", sum := "a4cba017988ecb7d001c028dc8b629f433a1a2b28cf1a0bbe6b3b6ed3309d7df", checked := Tryd.checked }
namespace Rows
def none {H : Type} : Left H := { results := [], args := [] }

/- WHAT THE LISTED PACKAGE-LEVEL VARIABLES READ AS WHEN THE CALL BEGINS. Each datum BY PROGRAM (the guide's laid-datum.mjs) off the statement by which the dump's own 'gosem.cut.vars' lays the variable. In a bare row this is a premise. The card (YtmnabilgpndjmaaDoorCards.lean) ties it to the program's text. -/
def laid_crucible_ieee_shapes {H : Type} : DataW H := .agg [.agg [.lit (.int .i64 10), .lit (.int .i64 (-24)), .lit (.int .i64 5)], .agg [.lit (.int .i64 23), .lit (.int .i64 (-149)), .lit (.int .i64 8)], .agg [.lit (.int .i64 52), .lit (.int .i64 (-1074)), .lit (.int .i64 11)]]
def laid_math_bits_deBruijn64tab {H : Type} : DataW H := .agg [.lit (.int .u8 0), .lit (.int .u8 1), .lit (.int .u8 56), .lit (.int .u8 2), .lit (.int .u8 57), .lit (.int .u8 49), .lit (.int .u8 28), .lit (.int .u8 3), .lit (.int .u8 61), .lit (.int .u8 58), .lit (.int .u8 42), .lit (.int .u8 50), .lit (.int .u8 38), .lit (.int .u8 29), .lit (.int .u8 17), .lit (.int .u8 4), .lit (.int .u8 62), .lit (.int .u8 47), .lit (.int .u8 59), .lit (.int .u8 36), .lit (.int .u8 45), .lit (.int .u8 43), .lit (.int .u8 51), .lit (.int .u8 22), .lit (.int .u8 53), .lit (.int .u8 39), .lit (.int .u8 33), .lit (.int .u8 30), .lit (.int .u8 24), .lit (.int .u8 18), .lit (.int .u8 12), .lit (.int .u8 5), .lit (.int .u8 63), .lit (.int .u8 55), .lit (.int .u8 48), .lit (.int .u8 27), .lit (.int .u8 60), .lit (.int .u8 41), .lit (.int .u8 37), .lit (.int .u8 16), .lit (.int .u8 46), .lit (.int .u8 35), .lit (.int .u8 44), .lit (.int .u8 21), .lit (.int .u8 52), .lit (.int .u8 32), .lit (.int .u8 23), .lit (.int .u8 11), .lit (.int .u8 54), .lit (.int .u8 26), .lit (.int .u8 40), .lit (.int .u8 15), .lit (.int .u8 34), .lit (.int .u8 20), .lit (.int .u8 31), .lit (.int .u8 10), .lit (.int .u8 25), .lit (.int .u8 14), .lit (.int .u8 19), .lit (.int .u8 9), .lit (.int .u8 13), .lit (.int .u8 8), .lit (.int .u8 7), .lit (.int .u8 6)]

/-- 'cruciblelaw04.IeeeOrders': WHATEVER THE INPUT: true; the input reads as it did. -/
def ieeeOrdersSpec : ChangeSpec := { name := "ieeeOrders", fn := fun _ => fun
  | [d1, d2, d3] => { results := [.lit (.bool true)], args := [d1, d2, d3] }
  | _ => none }
def ieeeOrdersRow : OpenClaim := { program := "ytmnabilgpndjmaadoor", sum := "a4cba017988ecb7d001c028dc8b629f433a1a2b28cf1a0bbe6b3b6ed3309d7df", func := "crucible/cruciblelaw04.IeeeOrders", spec := "ieeeOrders", named := ["crucible/ieee.shapes"], apart := false, laid := [("crucible/ieee.shapes", laid_crucible_ieee_shapes)] }
def IeeeOrdersSaid : Prop := ieeeOrdersRow.holds Tryd.pinned (OpenSpec.ofChange ieeeOrdersSpec)

/-- ITS FALSE NEIGHBOUR: 'it returns false'. Refute it at one input. -/
def ieeeOrdersWrong : ChangeSpec := { name := "ieeeOrders", fn := fun _ => fun
  | [d1, d2, d3] => { results := [.lit (.bool false)], args := [d1, d2, d3] }
  | _ => none }
def IeeeOrdersWrongFalsely : Prop := ieeeOrdersRow.holds Tryd.pinned (OpenSpec.ofChange ieeeOrdersWrong)

/-- 'cruciblelaw04.IeeeRounds': WHATEVER THE INPUT: true; the input reads as it did. -/
def ieeeRoundsSpec : ChangeSpec := { name := "ieeeRounds", fn := fun _ => fun
  | [d1, d2, d3, d4] => { results := [.lit (.bool true)], args := [d1, d2, d3, d4] }
  | _ => none }
def ieeeRoundsRow : OpenClaim := { program := "ytmnabilgpndjmaadoor", sum := "a4cba017988ecb7d001c028dc8b629f433a1a2b28cf1a0bbe6b3b6ed3309d7df", func := "crucible/cruciblelaw04.IeeeRounds", spec := "ieeeRounds", named := ["crucible/ieee.shapes"], apart := false, laid := [("crucible/ieee.shapes", laid_crucible_ieee_shapes)] }
def IeeeRoundsSaid : Prop := ieeeRoundsRow.holds Tryd.pinned (OpenSpec.ofChange ieeeRoundsSpec)

/-- ITS FALSE NEIGHBOUR: 'it returns false'. Refute it at one input. -/
def ieeeRoundsWrong : ChangeSpec := { name := "ieeeRounds", fn := fun _ => fun
  | [d1, d2, d3, d4] => { results := [.lit (.bool false)], args := [d1, d2, d3, d4] }
  | _ => none }
def IeeeRoundsWrongFalsely : Prop := ieeeRoundsRow.holds Tryd.pinned (OpenSpec.ofChange ieeeRoundsWrong)

/-- 'cruciblelaw04.IeeeParts': WHATEVER THE INPUT: true; the input reads as it did. -/
def ieeePartsSpec : ChangeSpec := { name := "ieeeParts", fn := fun _ => fun
  | [d1, d2] => { results := [.lit (.bool true)], args := [d1, d2] }
  | _ => none }
def ieeePartsRow : OpenClaim := { program := "ytmnabilgpndjmaadoor", sum := "a4cba017988ecb7d001c028dc8b629f433a1a2b28cf1a0bbe6b3b6ed3309d7df", func := "crucible/cruciblelaw04.IeeeParts", spec := "ieeeParts", named := ["crucible/ieee.shapes", "math/bits.deBruijn64tab"], apart := false, laid := [("math/bits.deBruijn64tab", laid_math_bits_deBruijn64tab), ("crucible/ieee.shapes", laid_crucible_ieee_shapes)] }
def IeeePartsSaid : Prop := ieeePartsRow.holds Tryd.pinned (OpenSpec.ofChange ieeePartsSpec)

/-- ITS FALSE NEIGHBOUR: 'it returns false'. Refute it at one input. -/
def ieeePartsWrong : ChangeSpec := { name := "ieeeParts", fn := fun _ => fun
  | [d1, d2] => { results := [.lit (.bool false)], args := [d1, d2] }
  | _ => none }
def IeeePartsWrongFalsely : Prop := ieeePartsRow.holds Tryd.pinned (OpenSpec.ofChange ieeePartsWrong)

/-- 'cruciblelaw04.IeeeRises': WHATEVER THE INPUT: true; the input reads as it did. -/
def ieeeRisesSpec : ChangeSpec := { name := "ieeeRises", fn := fun _ => fun
  | [d1, d2, d3, d4, d5] => { results := [.lit (.bool true)], args := [d1, d2, d3, d4, d5] }
  | _ => none }
def ieeeRisesRow : OpenClaim := { program := "ytmnabilgpndjmaadoor", sum := "a4cba017988ecb7d001c028dc8b629f433a1a2b28cf1a0bbe6b3b6ed3309d7df", func := "crucible/cruciblelaw04.IeeeRises", spec := "ieeeRises", named := ["crucible/ieee.shapes", "math/bits.deBruijn64tab"], apart := false, laid := [("math/bits.deBruijn64tab", laid_math_bits_deBruijn64tab), ("crucible/ieee.shapes", laid_crucible_ieee_shapes)] }
def IeeeRisesSaid : Prop := ieeeRisesRow.holds Tryd.pinned (OpenSpec.ofChange ieeeRisesSpec)

/-- ITS FALSE NEIGHBOUR: 'it returns false'. Refute it at one input. -/
def ieeeRisesWrong : ChangeSpec := { name := "ieeeRises", fn := fun _ => fun
  | [d1, d2, d3, d4, d5] => { results := [.lit (.bool false)], args := [d1, d2, d3, d4, d5] }
  | _ => none }
def IeeeRisesWrongFalsely : Prop := ieeeRisesRow.holds Tryd.pinned (OpenSpec.ofChange ieeeRisesWrong)

/-- 'cruciblelaw04.IeeeWidths': WHATEVER THE INPUT: true; the input reads as it did. -/
def ieeeWidthsSpec : ChangeSpec := { name := "ieeeWidths", fn := fun _ => fun
  | [d1, d2, d3] => { results := [.lit (.bool true)], args := [d1, d2, d3] }
  | _ => none }
def ieeeWidthsRow : OpenClaim := { program := "ytmnabilgpndjmaadoor", sum := "a4cba017988ecb7d001c028dc8b629f433a1a2b28cf1a0bbe6b3b6ed3309d7df", func := "crucible/cruciblelaw04.IeeeWidths", spec := "ieeeWidths", named := ["crucible/ieee.shapes", "math/bits.deBruijn64tab"], apart := false, laid := [("math/bits.deBruijn64tab", laid_math_bits_deBruijn64tab), ("crucible/ieee.shapes", laid_crucible_ieee_shapes)] }
def IeeeWidthsSaid : Prop := ieeeWidthsRow.holds Tryd.pinned (OpenSpec.ofChange ieeeWidthsSpec)

/-- ITS FALSE NEIGHBOUR: 'it returns false'. Refute it at one input. -/
def ieeeWidthsWrong : ChangeSpec := { name := "ieeeWidths", fn := fun _ => fun
  | [d1, d2, d3] => { results := [.lit (.bool false)], args := [d1, d2, d3] }
  | _ => none }
def IeeeWidthsWrongFalsely : Prop := ieeeWidthsRow.holds Tryd.pinned (OpenSpec.ofChange ieeeWidthsWrong)

/-- 'cruciblelaw04.IeeeMore': WHATEVER THE INPUT: true; the input reads as it did. -/
def ieeeMoreSpec : ChangeSpec := { name := "ieeeMore", fn := fun _ => fun
  | [d1, d2, d3, d4] => { results := [.lit (.bool true)], args := [d1, d2, d3, d4] }
  | _ => none }
def ieeeMoreRow : OpenClaim := { program := "ytmnabilgpndjmaadoor", sum := "a4cba017988ecb7d001c028dc8b629f433a1a2b28cf1a0bbe6b3b6ed3309d7df", func := "crucible/cruciblelaw04.IeeeMore", spec := "ieeeMore", named := ["crucible/ieee.shapes", "math/bits.deBruijn64tab"], apart := false, laid := [("math/bits.deBruijn64tab", laid_math_bits_deBruijn64tab), ("crucible/ieee.shapes", laid_crucible_ieee_shapes)] }
def IeeeMoreSaid : Prop := ieeeMoreRow.holds Tryd.pinned (OpenSpec.ofChange ieeeMoreSpec)

/-- ITS FALSE NEIGHBOUR: 'it returns false'. Refute it at one input. -/
def ieeeMoreWrong : ChangeSpec := { name := "ieeeMore", fn := fun _ => fun
  | [d1, d2, d3, d4] => { results := [.lit (.bool false)], args := [d1, d2, d3, d4] }
  | _ => none }
def IeeeMoreWrongFalsely : Prop := ieeeMoreRow.holds Tryd.pinned (OpenSpec.ofChange ieeeMoreWrong)

/-- 'cruciblelaw04.IeeeNearest': WHATEVER THE INPUT: true; the input reads as it did. -/
def ieeeNearestSpec : ChangeSpec := { name := "ieeeNearest", fn := fun _ => fun
  | [d1, d2, d3, d4] => { results := [.lit (.bool true)], args := [d1, d2, d3, d4] }
  | _ => none }
def ieeeNearestRow : OpenClaim := { program := "ytmnabilgpndjmaadoor", sum := "a4cba017988ecb7d001c028dc8b629f433a1a2b28cf1a0bbe6b3b6ed3309d7df", func := "crucible/cruciblelaw04.IeeeNearest", spec := "ieeeNearest", named := ["crucible/ieee.shapes", "math/bits.deBruijn64tab"], apart := false, laid := [("math/bits.deBruijn64tab", laid_math_bits_deBruijn64tab), ("crucible/ieee.shapes", laid_crucible_ieee_shapes)] }
def IeeeNearestSaid : Prop := ieeeNearestRow.holds Tryd.pinned (OpenSpec.ofChange ieeeNearestSpec)

/-- ITS FALSE NEIGHBOUR: 'it returns false'. Refute it at one input. -/
def ieeeNearestWrong : ChangeSpec := { name := "ieeeNearest", fn := fun _ => fun
  | [d1, d2, d3, d4] => { results := [.lit (.bool false)], args := [d1, d2, d3, d4] }
  | _ => none }
def IeeeNearestWrongFalsely : Prop := ieeeNearestRow.holds Tryd.pinned (OpenSpec.ofChange ieeeNearestWrong)

/-- 'cruciblelaw04.IeeeSteps': WHATEVER THE INPUT: true; the input reads as it did. -/
def ieeeStepsSpec : ChangeSpec := { name := "ieeeSteps", fn := fun _ => fun
  | [d1, d2, d3] => { results := [.lit (.bool true)], args := [d1, d2, d3] }
  | _ => none }
def ieeeStepsRow : OpenClaim := { program := "ytmnabilgpndjmaadoor", sum := "a4cba017988ecb7d001c028dc8b629f433a1a2b28cf1a0bbe6b3b6ed3309d7df", func := "crucible/cruciblelaw04.IeeeSteps", spec := "ieeeSteps", named := ["crucible/ieee.shapes", "math/bits.deBruijn64tab"], apart := false, laid := [("math/bits.deBruijn64tab", laid_math_bits_deBruijn64tab), ("crucible/ieee.shapes", laid_crucible_ieee_shapes)] }
def IeeeStepsSaid : Prop := ieeeStepsRow.holds Tryd.pinned (OpenSpec.ofChange ieeeStepsSpec)

/-- ITS FALSE NEIGHBOUR: 'it returns false'. Refute it at one input. -/
def ieeeStepsWrong : ChangeSpec := { name := "ieeeSteps", fn := fun _ => fun
  | [d1, d2, d3] => { results := [.lit (.bool false)], args := [d1, d2, d3] }
  | _ => none }
def IeeeStepsWrongFalsely : Prop := ieeeStepsRow.holds Tryd.pinned (OpenSpec.ofChange ieeeStepsWrong)

/-- 'cruciblelaw04.IeeeSorted': WHATEVER THE INPUT: true; the input reads as it did. -/
def ieeeSortedSpec : ChangeSpec := { name := "ieeeSorted", fn := fun _ => fun
  | [d1, d2, d3, d4] => { results := [.lit (.bool true)], args := [d1, d2, d3, d4] }
  | _ => none }
def ieeeSortedRow : OpenClaim := { program := "ytmnabilgpndjmaadoor", sum := "a4cba017988ecb7d001c028dc8b629f433a1a2b28cf1a0bbe6b3b6ed3309d7df", func := "crucible/cruciblelaw04.IeeeSorted", spec := "ieeeSorted", named := ["crucible/ieee.shapes", "math/bits.deBruijn64tab"], apart := false, laid := [("math/bits.deBruijn64tab", laid_math_bits_deBruijn64tab), ("crucible/ieee.shapes", laid_crucible_ieee_shapes)] }
def IeeeSortedSaid : Prop := ieeeSortedRow.holds Tryd.pinned (OpenSpec.ofChange ieeeSortedSpec)

/-- ITS FALSE NEIGHBOUR: 'it returns false'. Refute it at one input. -/
def ieeeSortedWrong : ChangeSpec := { name := "ieeeSorted", fn := fun _ => fun
  | [d1, d2, d3, d4] => { results := [.lit (.bool false)], args := [d1, d2, d3, d4] }
  | _ => none }
def IeeeSortedWrongFalsely : Prop := ieeeSortedRow.holds Tryd.pinned (OpenSpec.ofChange ieeeSortedWrong)

/-- 'cruciblelaw04.IeeeWhole': WHATEVER THE INPUT: true; the input reads as it did. -/
def ieeeWholeSpec : ChangeSpec := { name := "ieeeWhole", fn := fun _ => fun
  | [d1, d2] => { results := [.lit (.bool true)], args := [d1, d2] }
  | _ => none }
def ieeeWholeRow : OpenClaim := { program := "ytmnabilgpndjmaadoor", sum := "a4cba017988ecb7d001c028dc8b629f433a1a2b28cf1a0bbe6b3b6ed3309d7df", func := "crucible/cruciblelaw04.IeeeWhole", spec := "ieeeWhole", named := ["crucible/ieee.shapes", "math/bits.deBruijn64tab"], apart := false, laid := [("math/bits.deBruijn64tab", laid_math_bits_deBruijn64tab), ("crucible/ieee.shapes", laid_crucible_ieee_shapes)] }
def IeeeWholeSaid : Prop := ieeeWholeRow.holds Tryd.pinned (OpenSpec.ofChange ieeeWholeSpec)

/-- ITS FALSE NEIGHBOUR: 'it returns false'. Refute it at one input. -/
def ieeeWholeWrong : ChangeSpec := { name := "ieeeWhole", fn := fun _ => fun
  | [d1, d2] => { results := [.lit (.bool false)], args := [d1, d2] }
  | _ => none }
def IeeeWholeWrongFalsely : Prop := ieeeWholeRow.holds Tryd.pinned (OpenSpec.ofChange ieeeWholeWrong)

/-- 'cruciblelaw04.IeeeBack': WHATEVER THE INPUT: true; the input reads as it did. -/
def ieeeBackSpec : ChangeSpec := { name := "ieeeBack", fn := fun _ => fun
  | [d1, d2, d3] => { results := [.lit (.bool true)], args := [d1, d2, d3] }
  | _ => none }
def ieeeBackRow : OpenClaim := { program := "ytmnabilgpndjmaadoor", sum := "a4cba017988ecb7d001c028dc8b629f433a1a2b28cf1a0bbe6b3b6ed3309d7df", func := "crucible/cruciblelaw04.IeeeBack", spec := "ieeeBack", named := ["crucible/ieee.shapes", "math/bits.deBruijn64tab"], apart := false, laid := [("math/bits.deBruijn64tab", laid_math_bits_deBruijn64tab), ("crucible/ieee.shapes", laid_crucible_ieee_shapes)] }
def IeeeBackSaid : Prop := ieeeBackRow.holds Tryd.pinned (OpenSpec.ofChange ieeeBackSpec)

/-- ITS FALSE NEIGHBOUR: 'it returns false'. Refute it at one input. -/
def ieeeBackWrong : ChangeSpec := { name := "ieeeBack", fn := fun _ => fun
  | [d1, d2, d3] => { results := [.lit (.bool false)], args := [d1, d2, d3] }
  | _ => none }
def IeeeBackWrongFalsely : Prop := ieeeBackRow.holds Tryd.pinned (OpenSpec.ofChange ieeeBackWrong)

/- THE SECOND FORM. 'bulk': how many values and letters a reading holds, each counted each time it is reached (what is shared counts as often as it is met; a slice's spare places count too). A statement '..UptoSaid' is the law's where the arguments, and the package variables that the reading takes, are together of bulk at most 1048576: NARROWER than '..Said'. Prove '..Said' where nothing that the law and all that it calls make is longer than what came in: it says more and counts as full. Else prove '..UptoSaid'. A law counts once. -/
mutual
def uptoBulk {H : Type} : DataW H → Nat
  | .lit (.string bytes) => bytes.length + 1
  | .lit _ => 1
  | .nil => 1
  | .ptr d => uptoBulk d + 1
  | .slice elems spare => uptoBulkAll elems + uptoBulkAll spare + 1
  | .agg parts => uptoBulkAll parts + 1
  | .iface _ d => uptoBulk d + 1
  | .map entries => uptoBulkEntries entries + 1
  | .held _ => 1
def uptoBulkAll {H : Type} : List (DataW H) → Nat
  | [] => 0
  | d :: r => uptoBulk d + uptoBulkAll r
def uptoBulkEntries {H : Type} : List (Lit × DataW H) → Nat
  | [] => 0
  | x :: r => uptoBulkEntry x + uptoBulkEntries r
def uptoBulkEntry {H : Type} : Lit × DataW H → Nat
  | (.string bytes, d) => bytes.length + uptoBulk d + 1
  | (_, d) => uptoBulk d + 1
 end
def uptoSmall : (H : Type) → List (DataW H) → Bool := fun _ ds => decide (uptoBulkAll ds ≤ 1048576)
def OpenSpec.upto (s : _root_.Go.ChangeSpec) : _root_.Go.OpenSpec := { _root_.Go.OpenSpec.ofChange s with cond := some uptoSmall }

/-- 'cruciblelaw04.IeeeOrders', WHERE WHAT IT READS IS OF BULK AT MOST 1048576: true; the input reads as it did. -/
def ieeeOrdersUptoRow : OpenClaim := { program := "ytmnabilgpndjmaadoor", sum := "a4cba017988ecb7d001c028dc8b629f433a1a2b28cf1a0bbe6b3b6ed3309d7df", func := "crucible/cruciblelaw04.IeeeOrders", spec := "ieeeOrders", named := ["crucible/ieee.shapes"], apart := false, laid := [("crucible/ieee.shapes", laid_crucible_ieee_shapes)], narrowed := true }
def IeeeOrdersUptoSaid : Prop := ieeeOrdersUptoRow.holds Tryd.pinned (OpenSpec.upto ieeeOrdersSpec)

/-- 'cruciblelaw04.IeeeRounds', WHERE WHAT IT READS IS OF BULK AT MOST 1048576: true; the input reads as it did. -/
def ieeeRoundsUptoRow : OpenClaim := { program := "ytmnabilgpndjmaadoor", sum := "a4cba017988ecb7d001c028dc8b629f433a1a2b28cf1a0bbe6b3b6ed3309d7df", func := "crucible/cruciblelaw04.IeeeRounds", spec := "ieeeRounds", named := ["crucible/ieee.shapes"], apart := false, laid := [("crucible/ieee.shapes", laid_crucible_ieee_shapes)], narrowed := true }
def IeeeRoundsUptoSaid : Prop := ieeeRoundsUptoRow.holds Tryd.pinned (OpenSpec.upto ieeeRoundsSpec)

/-- 'cruciblelaw04.IeeeParts', WHERE WHAT IT READS IS OF BULK AT MOST 1048576: true; the input reads as it did. -/
def ieeePartsUptoRow : OpenClaim := { program := "ytmnabilgpndjmaadoor", sum := "a4cba017988ecb7d001c028dc8b629f433a1a2b28cf1a0bbe6b3b6ed3309d7df", func := "crucible/cruciblelaw04.IeeeParts", spec := "ieeeParts", named := ["crucible/ieee.shapes", "math/bits.deBruijn64tab"], apart := false, laid := [("math/bits.deBruijn64tab", laid_math_bits_deBruijn64tab), ("crucible/ieee.shapes", laid_crucible_ieee_shapes)], narrowed := true }
def IeeePartsUptoSaid : Prop := ieeePartsUptoRow.holds Tryd.pinned (OpenSpec.upto ieeePartsSpec)

/-- 'cruciblelaw04.IeeeRises', WHERE WHAT IT READS IS OF BULK AT MOST 1048576: true; the input reads as it did. -/
def ieeeRisesUptoRow : OpenClaim := { program := "ytmnabilgpndjmaadoor", sum := "a4cba017988ecb7d001c028dc8b629f433a1a2b28cf1a0bbe6b3b6ed3309d7df", func := "crucible/cruciblelaw04.IeeeRises", spec := "ieeeRises", named := ["crucible/ieee.shapes", "math/bits.deBruijn64tab"], apart := false, laid := [("math/bits.deBruijn64tab", laid_math_bits_deBruijn64tab), ("crucible/ieee.shapes", laid_crucible_ieee_shapes)], narrowed := true }
def IeeeRisesUptoSaid : Prop := ieeeRisesUptoRow.holds Tryd.pinned (OpenSpec.upto ieeeRisesSpec)

/-- 'cruciblelaw04.IeeeWidths', WHERE WHAT IT READS IS OF BULK AT MOST 1048576: true; the input reads as it did. -/
def ieeeWidthsUptoRow : OpenClaim := { program := "ytmnabilgpndjmaadoor", sum := "a4cba017988ecb7d001c028dc8b629f433a1a2b28cf1a0bbe6b3b6ed3309d7df", func := "crucible/cruciblelaw04.IeeeWidths", spec := "ieeeWidths", named := ["crucible/ieee.shapes", "math/bits.deBruijn64tab"], apart := false, laid := [("math/bits.deBruijn64tab", laid_math_bits_deBruijn64tab), ("crucible/ieee.shapes", laid_crucible_ieee_shapes)], narrowed := true }
def IeeeWidthsUptoSaid : Prop := ieeeWidthsUptoRow.holds Tryd.pinned (OpenSpec.upto ieeeWidthsSpec)

/-- 'cruciblelaw04.IeeeMore', WHERE WHAT IT READS IS OF BULK AT MOST 1048576: true; the input reads as it did. -/
def ieeeMoreUptoRow : OpenClaim := { program := "ytmnabilgpndjmaadoor", sum := "a4cba017988ecb7d001c028dc8b629f433a1a2b28cf1a0bbe6b3b6ed3309d7df", func := "crucible/cruciblelaw04.IeeeMore", spec := "ieeeMore", named := ["crucible/ieee.shapes", "math/bits.deBruijn64tab"], apart := false, laid := [("math/bits.deBruijn64tab", laid_math_bits_deBruijn64tab), ("crucible/ieee.shapes", laid_crucible_ieee_shapes)], narrowed := true }
def IeeeMoreUptoSaid : Prop := ieeeMoreUptoRow.holds Tryd.pinned (OpenSpec.upto ieeeMoreSpec)

/-- 'cruciblelaw04.IeeeNearest', WHERE WHAT IT READS IS OF BULK AT MOST 1048576: true; the input reads as it did. -/
def ieeeNearestUptoRow : OpenClaim := { program := "ytmnabilgpndjmaadoor", sum := "a4cba017988ecb7d001c028dc8b629f433a1a2b28cf1a0bbe6b3b6ed3309d7df", func := "crucible/cruciblelaw04.IeeeNearest", spec := "ieeeNearest", named := ["crucible/ieee.shapes", "math/bits.deBruijn64tab"], apart := false, laid := [("math/bits.deBruijn64tab", laid_math_bits_deBruijn64tab), ("crucible/ieee.shapes", laid_crucible_ieee_shapes)], narrowed := true }
def IeeeNearestUptoSaid : Prop := ieeeNearestUptoRow.holds Tryd.pinned (OpenSpec.upto ieeeNearestSpec)

/-- 'cruciblelaw04.IeeeSteps', WHERE WHAT IT READS IS OF BULK AT MOST 1048576: true; the input reads as it did. -/
def ieeeStepsUptoRow : OpenClaim := { program := "ytmnabilgpndjmaadoor", sum := "a4cba017988ecb7d001c028dc8b629f433a1a2b28cf1a0bbe6b3b6ed3309d7df", func := "crucible/cruciblelaw04.IeeeSteps", spec := "ieeeSteps", named := ["crucible/ieee.shapes", "math/bits.deBruijn64tab"], apart := false, laid := [("math/bits.deBruijn64tab", laid_math_bits_deBruijn64tab), ("crucible/ieee.shapes", laid_crucible_ieee_shapes)], narrowed := true }
def IeeeStepsUptoSaid : Prop := ieeeStepsUptoRow.holds Tryd.pinned (OpenSpec.upto ieeeStepsSpec)

/-- 'cruciblelaw04.IeeeSorted', WHERE WHAT IT READS IS OF BULK AT MOST 1048576: true; the input reads as it did. -/
def ieeeSortedUptoRow : OpenClaim := { program := "ytmnabilgpndjmaadoor", sum := "a4cba017988ecb7d001c028dc8b629f433a1a2b28cf1a0bbe6b3b6ed3309d7df", func := "crucible/cruciblelaw04.IeeeSorted", spec := "ieeeSorted", named := ["crucible/ieee.shapes", "math/bits.deBruijn64tab"], apart := false, laid := [("math/bits.deBruijn64tab", laid_math_bits_deBruijn64tab), ("crucible/ieee.shapes", laid_crucible_ieee_shapes)], narrowed := true }
def IeeeSortedUptoSaid : Prop := ieeeSortedUptoRow.holds Tryd.pinned (OpenSpec.upto ieeeSortedSpec)

/-- 'cruciblelaw04.IeeeWhole', WHERE WHAT IT READS IS OF BULK AT MOST 1048576: true; the input reads as it did. -/
def ieeeWholeUptoRow : OpenClaim := { program := "ytmnabilgpndjmaadoor", sum := "a4cba017988ecb7d001c028dc8b629f433a1a2b28cf1a0bbe6b3b6ed3309d7df", func := "crucible/cruciblelaw04.IeeeWhole", spec := "ieeeWhole", named := ["crucible/ieee.shapes", "math/bits.deBruijn64tab"], apart := false, laid := [("math/bits.deBruijn64tab", laid_math_bits_deBruijn64tab), ("crucible/ieee.shapes", laid_crucible_ieee_shapes)], narrowed := true }
def IeeeWholeUptoSaid : Prop := ieeeWholeUptoRow.holds Tryd.pinned (OpenSpec.upto ieeeWholeSpec)

/-- 'cruciblelaw04.IeeeBack', WHERE WHAT IT READS IS OF BULK AT MOST 1048576: true; the input reads as it did. -/
def ieeeBackUptoRow : OpenClaim := { program := "ytmnabilgpndjmaadoor", sum := "a4cba017988ecb7d001c028dc8b629f433a1a2b28cf1a0bbe6b3b6ed3309d7df", func := "crucible/cruciblelaw04.IeeeBack", spec := "ieeeBack", named := ["crucible/ieee.shapes", "math/bits.deBruijn64tab"], apart := false, laid := [("math/bits.deBruijn64tab", laid_math_bits_deBruijn64tab), ("crucible/ieee.shapes", laid_crucible_ieee_shapes)], narrowed := true }
def IeeeBackUptoSaid : Prop := ieeeBackUptoRow.holds Tryd.pinned (OpenSpec.upto ieeeBackSpec)

end Rows
end Go.Proofs.YtmnabilgpndjmaaDoor
