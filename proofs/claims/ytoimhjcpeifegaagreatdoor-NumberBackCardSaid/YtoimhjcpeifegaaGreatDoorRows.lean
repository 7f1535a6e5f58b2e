/-
  NARROWER THAN 'FOR EVERY INPUT', by the rows' own cells (each row's printed sentence says how): TopWidths: laid · NumberBits: loops, laid · NumberCmp: loops, laid · NumberNarrow: laid · NumberNone: loops, laid · NumberOf: laid · NumberBack: loops, laid · NumberOne: laid · NumberOrder: laid.
  DERIVED. THE GIVEN ROWS OF THIS SEAT. 9 by the template 'for every input the law returns true; each argument reads behind the call as it read before'; 0 by the template 'total and deterministic' (their statements: YtoimhjcpeifegaaGreatDoorTotals.lean).
  GIVEN WITH THE SEED: the statements are not yours to turn. If you find one false, say at which input.
  Laid BY PROGRAM, IN A SANDBOX (cutbox-rows.mjs): the forced cells as the released guide's own fill.sh prints them over the translation b062ee79e882acbd… (all of the seat's roots in one cut). By AI agents, Wed Nov 11 2026. No macro, syntax, notation, axiom, sorry.
-/
import Derived.Test.YtoimhjcpeifegaaGreatDoorChecked
import GoSem.Claim
import GoSem.ClaimJoined
import GoSem.ClaimMapViews
import Derived.JoinedTies
import Derived.KernelRfl
namespace Go.Proofs.YtoimhjcpeifegaaGreatDoor
/- THE CELL 'sum', in the pinned program and in every row, IS THE sha256 OF THE DUMP (.gsa) THAT YtoimhjcpeifegaaGreatDoorProg.lean LOADS. Nothing in Lean hashes anything: it is a label: what it is worth is what the hold of that sum in a sandbox is worth. -/
noncomputable def Tryz.pinned : Pinned := { name := "ytoimhjcpeifegaagreatdoor", sum := "b062ee79e882acbd55d8ff95ffa37d6094786cbb1e8ce7839b70a0c8c4ba3ccc", checked := Tryz.checked }
namespace Rows
def none {H : Type} : Left H := { results := [], args := [] }

/- WHAT THE LISTED PACKAGE-LEVEL VARIABLES READ AS WHEN THE CALL BEGINS. Each datum BY PROGRAM (the guide's laid-datum.mjs) off the statement by which the dump's own 'gosem.cut.vars' lays the variable. In a bare row this is a premise. The card (YtoimhjcpeifegaaGreatDoorCards.lean) ties it to the program's text. -/
def laid_math_bits_deBruijn32tab {H : Type} : DataW H := .agg [.lit (.int .u8 0), .lit (.int .u8 1), .lit (.int .u8 28), .lit (.int .u8 2), .lit (.int .u8 29), .lit (.int .u8 14), .lit (.int .u8 24), .lit (.int .u8 3), .lit (.int .u8 30), .lit (.int .u8 22), .lit (.int .u8 20), .lit (.int .u8 15), .lit (.int .u8 25), .lit (.int .u8 17), .lit (.int .u8 4), .lit (.int .u8 8), .lit (.int .u8 31), .lit (.int .u8 27), .lit (.int .u8 13), .lit (.int .u8 23), .lit (.int .u8 21), .lit (.int .u8 19), .lit (.int .u8 16), .lit (.int .u8 7), .lit (.int .u8 26), .lit (.int .u8 12), .lit (.int .u8 18), .lit (.int .u8 6), .lit (.int .u8 11), .lit (.int .u8 5), .lit (.int .u8 10), .lit (.int .u8 9)]
def laid_math_bits_deBruijn64tab {H : Type} : DataW H := .agg [.lit (.int .u8 0), .lit (.int .u8 1), .lit (.int .u8 56), .lit (.int .u8 2), .lit (.int .u8 57), .lit (.int .u8 49), .lit (.int .u8 28), .lit (.int .u8 3), .lit (.int .u8 61), .lit (.int .u8 58), .lit (.int .u8 42), .lit (.int .u8 50), .lit (.int .u8 38), .lit (.int .u8 29), .lit (.int .u8 17), .lit (.int .u8 4), .lit (.int .u8 62), .lit (.int .u8 47), .lit (.int .u8 59), .lit (.int .u8 36), .lit (.int .u8 45), .lit (.int .u8 43), .lit (.int .u8 51), .lit (.int .u8 22), .lit (.int .u8 53), .lit (.int .u8 39), .lit (.int .u8 33), .lit (.int .u8 30), .lit (.int .u8 24), .lit (.int .u8 18), .lit (.int .u8 12), .lit (.int .u8 5), .lit (.int .u8 63), .lit (.int .u8 55), .lit (.int .u8 48), .lit (.int .u8 27), .lit (.int .u8 60), .lit (.int .u8 41), .lit (.int .u8 37), .lit (.int .u8 16), .lit (.int .u8 46), .lit (.int .u8 35), .lit (.int .u8 44), .lit (.int .u8 21), .lit (.int .u8 52), .lit (.int .u8 32), .lit (.int .u8 23), .lit (.int .u8 11), .lit (.int .u8 54), .lit (.int .u8 26), .lit (.int .u8 40), .lit (.int .u8 15), .lit (.int .u8 34), .lit (.int .u8 20), .lit (.int .u8 31), .lit (.int .u8 10), .lit (.int .u8 25), .lit (.int .u8 14), .lit (.int .u8 19), .lit (.int .u8 9), .lit (.int .u8 13), .lit (.int .u8 8), .lit (.int .u8 7), .lit (.int .u8 6)]
def laid_internal_strconv_uint64pow10 {H : Type} : DataW H := .agg [.lit (.int .u64 1), .lit (.int .u64 10), .lit (.int .u64 100), .lit (.int .u64 1000), .lit (.int .u64 10000), .lit (.int .u64 100000), .lit (.int .u64 1000000), .lit (.int .u64 10000000), .lit (.int .u64 100000000), .lit (.int .u64 1000000000), .lit (.int .u64 10000000000), .lit (.int .u64 100000000000), .lit (.int .u64 1000000000000), .lit (.int .u64 10000000000000), .lit (.int .u64 100000000000000), .lit (.int .u64 1000000000000000), .lit (.int .u64 10000000000000000), .lit (.int .u64 100000000000000000), .lit (.int .u64 1000000000000000000), .lit (.int .u64 10000000000000000000)]
def laid_crucible_api_ErrArg {H : Type} : DataW H := .iface "*errors.errorString" (.ptr (.agg [.lit (.string [97, 110, 32, 97, 114, 103, 117, 109, 101, 110, 116, 32, 116, 104, 97, 116, 32, 109, 97, 121, 32, 110, 111, 116, 32, 98, 101])]))
def laid_crucible_api_ErrLimit {H : Type} : DataW H := .iface "*errors.errorString" (.ptr (.agg [.lit (.string [97, 32, 108, 105, 109, 105, 116])]))
def laid_crucible_ieee_shapes {H : Type} : DataW H := .agg [.agg [.lit (.int .i64 10), .lit (.int .i64 (-24)), .lit (.int .i64 5)], .agg [.lit (.int .i64 23), .lit (.int .i64 (-149)), .lit (.int .i64 8)], .agg [.lit (.int .i64 52), .lit (.int .i64 (-1074)), .lit (.int .i64 11)]]

/-- 'crucibletop.TopWidths': WHATEVER THE INPUT: true; the input reads as it did. -/
def topWidthsSpec : ChangeSpec := { name := "topWidths", fn := fun _ => fun
  | [d1, d2, d3] => { results := [.lit (.bool true)], args := [d1, d2, d3] }
  | _ => none }
def topWidthsRow : OpenClaim := { program := "ytoimhjcpeifegaagreatdoor", sum := "b062ee79e882acbd55d8ff95ffa37d6094786cbb1e8ce7839b70a0c8c4ba3ccc", func := "crucible/crucibletop.TopWidths", spec := "topWidths", inPlace := ["internal/abi.NoEscape", "math.Float64frombits", "math.Float64bits", "math.Float32frombits", "math.Float32bits"], unfollowed := true, recurses := true, named := ["crucible/ieee.shapes", "math/bits.deBruijn64tab", "crucible/api.ErrArg", "crucible/api.ErrLimit", "internal/strconv.uint64pow10", "math/bits.deBruijn32tab"], apart := false, laid := [("math/bits.deBruijn32tab", laid_math_bits_deBruijn32tab), ("math/bits.deBruijn64tab", laid_math_bits_deBruijn64tab), ("internal/strconv.uint64pow10", laid_internal_strconv_uint64pow10), ("crucible/api.ErrArg", laid_crucible_api_ErrArg), ("crucible/api.ErrLimit", laid_crucible_api_ErrLimit), ("crucible/ieee.shapes", laid_crucible_ieee_shapes)] }
def TopWidthsSaid : Prop := topWidthsRow.holds Tryz.pinned (OpenSpec.ofChange topWidthsSpec)

/-- ITS FALSE NEIGHBOUR: 'it returns false'. Refute it at one input. -/
def topWidthsWrong : ChangeSpec := { name := "topWidths", fn := fun _ => fun
  | [d1, d2, d3] => { results := [.lit (.bool false)], args := [d1, d2, d3] }
  | _ => none }
def TopWidthsWrongFalsely : Prop := topWidthsRow.holds Tryz.pinned (OpenSpec.ofChange topWidthsWrong)

/-- 'cruciblelaw15.NumberBits': WHATEVER THE INPUT: true; the input reads as it did. -/
def numberBitsSpec : ChangeSpec := { name := "numberBits", fn := fun _ => fun
  | [d] => { results := [.lit (.bool true)], args := [d] }
  | _ => none }
def numberBitsRow : OpenClaim := { program := "ytoimhjcpeifegaagreatdoor", sum := "b062ee79e882acbd55d8ff95ffa37d6094786cbb1e8ce7839b70a0c8c4ba3ccc", func := "crucible/cruciblelaw15.NumberBits", spec := "numberBits", inPlace := ["internal/abi.NoEscape"], unfollowed := true, recurses := true, named := ["crucible/api.ErrArg", "crucible/api.ErrLimit", "internal/strconv.uint64pow10", "math/bits.deBruijn32tab", "math/bits.deBruijn64tab", "crucible/ieee.shapes"], loops := true, apart := false, laid := [("math/bits.deBruijn32tab", laid_math_bits_deBruijn32tab), ("math/bits.deBruijn64tab", laid_math_bits_deBruijn64tab), ("internal/strconv.uint64pow10", laid_internal_strconv_uint64pow10), ("crucible/api.ErrArg", laid_crucible_api_ErrArg), ("crucible/api.ErrLimit", laid_crucible_api_ErrLimit), ("crucible/ieee.shapes", laid_crucible_ieee_shapes)] }
def NumberBitsSaid : Prop := numberBitsRow.holds Tryz.pinned (OpenSpec.ofChange numberBitsSpec)

/-- ITS FALSE NEIGHBOUR: 'it returns false'. Refute it at one input. -/
def numberBitsWrong : ChangeSpec := { name := "numberBits", fn := fun _ => fun
  | [d] => { results := [.lit (.bool false)], args := [d] }
  | _ => none }
def NumberBitsWrongFalsely : Prop := numberBitsRow.holds Tryz.pinned (OpenSpec.ofChange numberBitsWrong)

/-- 'cruciblelaw15.NumberCmp': WHATEVER THE INPUT: true; the input reads as it did. -/
def numberCmpSpec : ChangeSpec := { name := "numberCmp", fn := fun _ => fun
  | [d1, d2] => { results := [.lit (.bool true)], args := [d1, d2] }
  | _ => none }
def numberCmpRow : OpenClaim := { program := "ytoimhjcpeifegaagreatdoor", sum := "b062ee79e882acbd55d8ff95ffa37d6094786cbb1e8ce7839b70a0c8c4ba3ccc", func := "crucible/cruciblelaw15.NumberCmp", spec := "numberCmp", inPlace := ["internal/abi.NoEscape"], unfollowed := true, recurses := true, named := ["crucible/api.ErrArg", "crucible/api.ErrLimit", "internal/strconv.uint64pow10", "math/bits.deBruijn32tab", "math/bits.deBruijn64tab", "crucible/ieee.shapes"], loops := true, apart := false, laid := [("math/bits.deBruijn32tab", laid_math_bits_deBruijn32tab), ("math/bits.deBruijn64tab", laid_math_bits_deBruijn64tab), ("internal/strconv.uint64pow10", laid_internal_strconv_uint64pow10), ("crucible/api.ErrArg", laid_crucible_api_ErrArg), ("crucible/api.ErrLimit", laid_crucible_api_ErrLimit), ("crucible/ieee.shapes", laid_crucible_ieee_shapes)] }
def NumberCmpSaid : Prop := numberCmpRow.holds Tryz.pinned (OpenSpec.ofChange numberCmpSpec)

/-- ITS FALSE NEIGHBOUR: 'it returns false'. Refute it at one input. -/
def numberCmpWrong : ChangeSpec := { name := "numberCmp", fn := fun _ => fun
  | [d1, d2] => { results := [.lit (.bool false)], args := [d1, d2] }
  | _ => none }
def NumberCmpWrongFalsely : Prop := numberCmpRow.holds Tryz.pinned (OpenSpec.ofChange numberCmpWrong)

/-- 'cruciblelaw15.NumberNarrow': WHATEVER THE INPUT: true; the input reads as it did. -/
def numberNarrowSpec : ChangeSpec := { name := "numberNarrow", fn := fun _ => fun
  | [d] => { results := [.lit (.bool true)], args := [d] }
  | _ => none }
def numberNarrowRow : OpenClaim := { program := "ytoimhjcpeifegaagreatdoor", sum := "b062ee79e882acbd55d8ff95ffa37d6094786cbb1e8ce7839b70a0c8c4ba3ccc", func := "crucible/cruciblelaw15.NumberNarrow", spec := "numberNarrow", inPlace := ["internal/abi.NoEscape"], unfollowed := true, recurses := true, named := ["crucible/ieee.shapes", "math/bits.deBruijn64tab", "crucible/api.ErrArg", "crucible/api.ErrLimit", "internal/strconv.uint64pow10", "math/bits.deBruijn32tab"], apart := false, laid := [("math/bits.deBruijn32tab", laid_math_bits_deBruijn32tab), ("math/bits.deBruijn64tab", laid_math_bits_deBruijn64tab), ("internal/strconv.uint64pow10", laid_internal_strconv_uint64pow10), ("crucible/api.ErrArg", laid_crucible_api_ErrArg), ("crucible/api.ErrLimit", laid_crucible_api_ErrLimit), ("crucible/ieee.shapes", laid_crucible_ieee_shapes)] }
def NumberNarrowSaid : Prop := numberNarrowRow.holds Tryz.pinned (OpenSpec.ofChange numberNarrowSpec)

/-- ITS FALSE NEIGHBOUR: 'it returns false'. Refute it at one input. -/
def numberNarrowWrong : ChangeSpec := { name := "numberNarrow", fn := fun _ => fun
  | [d] => { results := [.lit (.bool false)], args := [d] }
  | _ => none }
def NumberNarrowWrongFalsely : Prop := numberNarrowRow.holds Tryz.pinned (OpenSpec.ofChange numberNarrowWrong)

/-- 'cruciblelaw15.NumberNone': WHATEVER THE INPUT: true; the input reads as it did. -/
def numberNoneSpec : ChangeSpec := { name := "numberNone", fn := fun _ => fun
  | [d1, d2] => { results := [.lit (.bool true)], args := [d1, d2] }
  | _ => none }
def numberNoneRow : OpenClaim := { program := "ytoimhjcpeifegaagreatdoor", sum := "b062ee79e882acbd55d8ff95ffa37d6094786cbb1e8ce7839b70a0c8c4ba3ccc", func := "crucible/cruciblelaw15.NumberNone", spec := "numberNone", inPlace := ["internal/abi.NoEscape"], unfollowed := true, recurses := true, named := ["crucible/api.ErrArg", "crucible/api.ErrLimit", "internal/strconv.uint64pow10", "math/bits.deBruijn32tab", "math/bits.deBruijn64tab", "crucible/ieee.shapes"], loops := true, apart := false, laid := [("math/bits.deBruijn32tab", laid_math_bits_deBruijn32tab), ("math/bits.deBruijn64tab", laid_math_bits_deBruijn64tab), ("internal/strconv.uint64pow10", laid_internal_strconv_uint64pow10), ("crucible/api.ErrArg", laid_crucible_api_ErrArg), ("crucible/api.ErrLimit", laid_crucible_api_ErrLimit), ("crucible/ieee.shapes", laid_crucible_ieee_shapes)] }
def NumberNoneSaid : Prop := numberNoneRow.holds Tryz.pinned (OpenSpec.ofChange numberNoneSpec)

/-- ITS FALSE NEIGHBOUR: 'it returns false'. Refute it at one input. -/
def numberNoneWrong : ChangeSpec := { name := "numberNone", fn := fun _ => fun
  | [d1, d2] => { results := [.lit (.bool false)], args := [d1, d2] }
  | _ => none }
def NumberNoneWrongFalsely : Prop := numberNoneRow.holds Tryz.pinned (OpenSpec.ofChange numberNoneWrong)

/-- 'cruciblelaw15.NumberOf': WHATEVER THE INPUT: true; the input reads as it did. -/
def numberOfSpec : ChangeSpec := { name := "numberOf", fn := fun _ => fun
  | [d1, d2] => { results := [.lit (.bool true)], args := [d1, d2] }
  | _ => none }
def numberOfRow : OpenClaim := { program := "ytoimhjcpeifegaagreatdoor", sum := "b062ee79e882acbd55d8ff95ffa37d6094786cbb1e8ce7839b70a0c8c4ba3ccc", func := "crucible/cruciblelaw15.NumberOf", spec := "numberOf", inPlace := ["internal/abi.NoEscape"], unfollowed := true, recurses := true, named := ["crucible/ieee.shapes", "math/bits.deBruijn64tab", "crucible/api.ErrArg", "crucible/api.ErrLimit", "internal/strconv.uint64pow10", "math/bits.deBruijn32tab"], apart := false, laid := [("math/bits.deBruijn32tab", laid_math_bits_deBruijn32tab), ("math/bits.deBruijn64tab", laid_math_bits_deBruijn64tab), ("internal/strconv.uint64pow10", laid_internal_strconv_uint64pow10), ("crucible/api.ErrArg", laid_crucible_api_ErrArg), ("crucible/api.ErrLimit", laid_crucible_api_ErrLimit), ("crucible/ieee.shapes", laid_crucible_ieee_shapes)] }
def NumberOfSaid : Prop := numberOfRow.holds Tryz.pinned (OpenSpec.ofChange numberOfSpec)

/-- ITS FALSE NEIGHBOUR: 'it returns false'. Refute it at one input. -/
def numberOfWrong : ChangeSpec := { name := "numberOf", fn := fun _ => fun
  | [d1, d2] => { results := [.lit (.bool false)], args := [d1, d2] }
  | _ => none }
def NumberOfWrongFalsely : Prop := numberOfRow.holds Tryz.pinned (OpenSpec.ofChange numberOfWrong)

/-- 'cruciblelaw15.NumberBack': WHATEVER THE INPUT: true; the input reads as it did. -/
def numberBackSpec : ChangeSpec := { name := "numberBack", fn := fun _ => fun
  | [d1, d2] => { results := [.lit (.bool true)], args := [d1, d2] }
  | _ => none }
def numberBackRow : OpenClaim := { program := "ytoimhjcpeifegaagreatdoor", sum := "b062ee79e882acbd55d8ff95ffa37d6094786cbb1e8ce7839b70a0c8c4ba3ccc", func := "crucible/cruciblelaw15.NumberBack", spec := "numberBack", inPlace := ["internal/abi.NoEscape"], unfollowed := true, recurses := true, named := ["crucible/api.ErrArg", "crucible/api.ErrLimit", "internal/strconv.uint64pow10", "math/bits.deBruijn32tab", "math/bits.deBruijn64tab", "crucible/ieee.shapes"], loops := true, apart := false, laid := [("math/bits.deBruijn32tab", laid_math_bits_deBruijn32tab), ("math/bits.deBruijn64tab", laid_math_bits_deBruijn64tab), ("internal/strconv.uint64pow10", laid_internal_strconv_uint64pow10), ("crucible/api.ErrArg", laid_crucible_api_ErrArg), ("crucible/api.ErrLimit", laid_crucible_api_ErrLimit), ("crucible/ieee.shapes", laid_crucible_ieee_shapes)] }
def NumberBackSaid : Prop := numberBackRow.holds Tryz.pinned (OpenSpec.ofChange numberBackSpec)

/-- ITS FALSE NEIGHBOUR: 'it returns false'. Refute it at one input. -/
def numberBackWrong : ChangeSpec := { name := "numberBack", fn := fun _ => fun
  | [d1, d2] => { results := [.lit (.bool false)], args := [d1, d2] }
  | _ => none }
def NumberBackWrongFalsely : Prop := numberBackRow.holds Tryz.pinned (OpenSpec.ofChange numberBackWrong)

/-- 'cruciblelaw15.NumberOne': WHATEVER THE INPUT: true; the input reads as it did. -/
def numberOneSpec : ChangeSpec := { name := "numberOne", fn := fun _ => fun
  | [d1, d2, d3] => { results := [.lit (.bool true)], args := [d1, d2, d3] }
  | _ => none }
def numberOneRow : OpenClaim := { program := "ytoimhjcpeifegaagreatdoor", sum := "b062ee79e882acbd55d8ff95ffa37d6094786cbb1e8ce7839b70a0c8c4ba3ccc", func := "crucible/cruciblelaw15.NumberOne", spec := "numberOne", inPlace := ["internal/abi.NoEscape"], unfollowed := true, recurses := true, named := ["crucible/ieee.shapes", "math/bits.deBruijn64tab", "crucible/api.ErrArg", "crucible/api.ErrLimit", "internal/strconv.uint64pow10", "math/bits.deBruijn32tab"], apart := false, laid := [("math/bits.deBruijn32tab", laid_math_bits_deBruijn32tab), ("math/bits.deBruijn64tab", laid_math_bits_deBruijn64tab), ("internal/strconv.uint64pow10", laid_internal_strconv_uint64pow10), ("crucible/api.ErrArg", laid_crucible_api_ErrArg), ("crucible/api.ErrLimit", laid_crucible_api_ErrLimit), ("crucible/ieee.shapes", laid_crucible_ieee_shapes)] }
def NumberOneSaid : Prop := numberOneRow.holds Tryz.pinned (OpenSpec.ofChange numberOneSpec)

/-- ITS FALSE NEIGHBOUR: 'it returns false'. Refute it at one input. -/
def numberOneWrong : ChangeSpec := { name := "numberOne", fn := fun _ => fun
  | [d1, d2, d3] => { results := [.lit (.bool false)], args := [d1, d2, d3] }
  | _ => none }
def NumberOneWrongFalsely : Prop := numberOneRow.holds Tryz.pinned (OpenSpec.ofChange numberOneWrong)

/-- 'cruciblelaw15.NumberOrder': WHATEVER THE INPUT: true; the input reads as it did. -/
def numberOrderSpec : ChangeSpec := { name := "numberOrder", fn := fun _ => fun
  | [d1, d2, d3] => { results := [.lit (.bool true)], args := [d1, d2, d3] }
  | _ => none }
def numberOrderRow : OpenClaim := { program := "ytoimhjcpeifegaagreatdoor", sum := "b062ee79e882acbd55d8ff95ffa37d6094786cbb1e8ce7839b70a0c8c4ba3ccc", func := "crucible/cruciblelaw15.NumberOrder", spec := "numberOrder", inPlace := ["internal/abi.NoEscape"], unfollowed := true, recurses := true, named := ["crucible/ieee.shapes", "math/bits.deBruijn64tab", "crucible/api.ErrArg", "crucible/api.ErrLimit", "internal/strconv.uint64pow10", "math/bits.deBruijn32tab"], apart := false, laid := [("math/bits.deBruijn32tab", laid_math_bits_deBruijn32tab), ("math/bits.deBruijn64tab", laid_math_bits_deBruijn64tab), ("internal/strconv.uint64pow10", laid_internal_strconv_uint64pow10), ("crucible/api.ErrArg", laid_crucible_api_ErrArg), ("crucible/api.ErrLimit", laid_crucible_api_ErrLimit), ("crucible/ieee.shapes", laid_crucible_ieee_shapes)] }
def NumberOrderSaid : Prop := numberOrderRow.holds Tryz.pinned (OpenSpec.ofChange numberOrderSpec)

/-- ITS FALSE NEIGHBOUR: 'it returns false'. Refute it at one input. -/
def numberOrderWrong : ChangeSpec := { name := "numberOrder", fn := fun _ => fun
  | [d1, d2, d3] => { results := [.lit (.bool false)], args := [d1, d2, d3] }
  | _ => none }
def NumberOrderWrongFalsely : Prop := numberOrderRow.holds Tryz.pinned (OpenSpec.ofChange numberOrderWrong)

/- THE SECOND FORM. 'bulk': how many values and letters a reading holds, each counted each time it is reached (what is shared counts as often as it is met; a slice's spare places count too). A statement '..UptoSaid' is the law's where the arguments, and the package variables that the reading takes, are together of bulk at most 1048576: NARROWER than '..Said'. Prove '..Said' where nothing that the law and all that it calls make is longer than what came in: it says more and counts as full. Else prove '..UptoSaid'. A law counts once. -/
mutual
def uptoBulk {H : Type} : DataW H → Nat
  | .lit (.string bytes) => bytes.length + 1
  | .lit _ => 1
  | .nil => 1
  | .ptr d => uptoBulk d + 1
  | .slice elems spare => uptoBulkAll elems + uptoBulkAll spare + 1
  | .agg parts => uptoBulkAll parts + 1
  | .iface _ d => uptoBulk d + 1
  | .map entries => uptoBulkEntries entries + 1
  | .held _ => 1
def uptoBulkAll {H : Type} : List (DataW H) → Nat
  | [] => 0
  | d :: r => uptoBulk d + uptoBulkAll r
def uptoBulkEntries {H : Type} : List (Lit × DataW H) → Nat
  | [] => 0
  | x :: r => uptoBulkEntry x + uptoBulkEntries r
def uptoBulkEntry {H : Type} : Lit × DataW H → Nat
  | (.string bytes, d) => bytes.length + uptoBulk d + 1
  | (_, d) => uptoBulk d + 1
 end
def uptoSmall : (H : Type) → List (DataW H) → Bool := fun _ ds => decide (uptoBulkAll ds ≤ 1048576)
def OpenSpec.upto (s : _root_.Go.ChangeSpec) : _root_.Go.OpenSpec := { _root_.Go.OpenSpec.ofChange s with cond := some uptoSmall }

/-- 'crucibletop.TopWidths', WHERE WHAT IT READS IS OF BULK AT MOST 1048576: true; the input reads as it did. -/
def topWidthsUptoRow : OpenClaim := { program := "ytoimhjcpeifegaagreatdoor", sum := "b062ee79e882acbd55d8ff95ffa37d6094786cbb1e8ce7839b70a0c8c4ba3ccc", func := "crucible/crucibletop.TopWidths", spec := "topWidths", inPlace := ["internal/abi.NoEscape", "math.Float64frombits", "math.Float64bits", "math.Float32frombits", "math.Float32bits"], unfollowed := true, recurses := true, named := ["crucible/ieee.shapes", "math/bits.deBruijn64tab", "crucible/api.ErrArg", "crucible/api.ErrLimit", "internal/strconv.uint64pow10", "math/bits.deBruijn32tab"], apart := false, laid := [("math/bits.deBruijn32tab", laid_math_bits_deBruijn32tab), ("math/bits.deBruijn64tab", laid_math_bits_deBruijn64tab), ("internal/strconv.uint64pow10", laid_internal_strconv_uint64pow10), ("crucible/api.ErrArg", laid_crucible_api_ErrArg), ("crucible/api.ErrLimit", laid_crucible_api_ErrLimit), ("crucible/ieee.shapes", laid_crucible_ieee_shapes)], narrowed := true }
def TopWidthsUptoSaid : Prop := topWidthsUptoRow.holds Tryz.pinned (OpenSpec.upto topWidthsSpec)

/-- 'cruciblelaw15.NumberBits', WHERE WHAT IT READS IS OF BULK AT MOST 1048576: true; the input reads as it did. -/
def numberBitsUptoRow : OpenClaim := { program := "ytoimhjcpeifegaagreatdoor", sum := "b062ee79e882acbd55d8ff95ffa37d6094786cbb1e8ce7839b70a0c8c4ba3ccc", func := "crucible/cruciblelaw15.NumberBits", spec := "numberBits", inPlace := ["internal/abi.NoEscape"], unfollowed := true, recurses := true, named := ["crucible/api.ErrArg", "crucible/api.ErrLimit", "internal/strconv.uint64pow10", "math/bits.deBruijn32tab", "math/bits.deBruijn64tab", "crucible/ieee.shapes"], loops := true, apart := false, laid := [("math/bits.deBruijn32tab", laid_math_bits_deBruijn32tab), ("math/bits.deBruijn64tab", laid_math_bits_deBruijn64tab), ("internal/strconv.uint64pow10", laid_internal_strconv_uint64pow10), ("crucible/api.ErrArg", laid_crucible_api_ErrArg), ("crucible/api.ErrLimit", laid_crucible_api_ErrLimit), ("crucible/ieee.shapes", laid_crucible_ieee_shapes)], narrowed := true }
def NumberBitsUptoSaid : Prop := numberBitsUptoRow.holds Tryz.pinned (OpenSpec.upto numberBitsSpec)

/-- 'cruciblelaw15.NumberCmp', WHERE WHAT IT READS IS OF BULK AT MOST 1048576: true; the input reads as it did. -/
def numberCmpUptoRow : OpenClaim := { program := "ytoimhjcpeifegaagreatdoor", sum := "b062ee79e882acbd55d8ff95ffa37d6094786cbb1e8ce7839b70a0c8c4ba3ccc", func := "crucible/cruciblelaw15.NumberCmp", spec := "numberCmp", inPlace := ["internal/abi.NoEscape"], unfollowed := true, recurses := true, named := ["crucible/api.ErrArg", "crucible/api.ErrLimit", "internal/strconv.uint64pow10", "math/bits.deBruijn32tab", "math/bits.deBruijn64tab", "crucible/ieee.shapes"], loops := true, apart := false, laid := [("math/bits.deBruijn32tab", laid_math_bits_deBruijn32tab), ("math/bits.deBruijn64tab", laid_math_bits_deBruijn64tab), ("internal/strconv.uint64pow10", laid_internal_strconv_uint64pow10), ("crucible/api.ErrArg", laid_crucible_api_ErrArg), ("crucible/api.ErrLimit", laid_crucible_api_ErrLimit), ("crucible/ieee.shapes", laid_crucible_ieee_shapes)], narrowed := true }
def NumberCmpUptoSaid : Prop := numberCmpUptoRow.holds Tryz.pinned (OpenSpec.upto numberCmpSpec)

/-- 'cruciblelaw15.NumberNarrow', WHERE WHAT IT READS IS OF BULK AT MOST 1048576: true; the input reads as it did. -/
def numberNarrowUptoRow : OpenClaim := { program := "ytoimhjcpeifegaagreatdoor", sum := "b062ee79e882acbd55d8ff95ffa37d6094786cbb1e8ce7839b70a0c8c4ba3ccc", func := "crucible/cruciblelaw15.NumberNarrow", spec := "numberNarrow", inPlace := ["internal/abi.NoEscape"], unfollowed := true, recurses := true, named := ["crucible/ieee.shapes", "math/bits.deBruijn64tab", "crucible/api.ErrArg", "crucible/api.ErrLimit", "internal/strconv.uint64pow10", "math/bits.deBruijn32tab"], apart := false, laid := [("math/bits.deBruijn32tab", laid_math_bits_deBruijn32tab), ("math/bits.deBruijn64tab", laid_math_bits_deBruijn64tab), ("internal/strconv.uint64pow10", laid_internal_strconv_uint64pow10), ("crucible/api.ErrArg", laid_crucible_api_ErrArg), ("crucible/api.ErrLimit", laid_crucible_api_ErrLimit), ("crucible/ieee.shapes", laid_crucible_ieee_shapes)], narrowed := true }
def NumberNarrowUptoSaid : Prop := numberNarrowUptoRow.holds Tryz.pinned (OpenSpec.upto numberNarrowSpec)

/-- 'cruciblelaw15.NumberNone', WHERE WHAT IT READS IS OF BULK AT MOST 1048576: true; the input reads as it did. -/
def numberNoneUptoRow : OpenClaim := { program := "ytoimhjcpeifegaagreatdoor", sum := "b062ee79e882acbd55d8ff95ffa37d6094786cbb1e8ce7839b70a0c8c4ba3ccc", func := "crucible/cruciblelaw15.NumberNone", spec := "numberNone", inPlace := ["internal/abi.NoEscape"], unfollowed := true, recurses := true, named := ["crucible/api.ErrArg", "crucible/api.ErrLimit", "internal/strconv.uint64pow10", "math/bits.deBruijn32tab", "math/bits.deBruijn64tab", "crucible/ieee.shapes"], loops := true, apart := false, laid := [("math/bits.deBruijn32tab", laid_math_bits_deBruijn32tab), ("math/bits.deBruijn64tab", laid_math_bits_deBruijn64tab), ("internal/strconv.uint64pow10", laid_internal_strconv_uint64pow10), ("crucible/api.ErrArg", laid_crucible_api_ErrArg), ("crucible/api.ErrLimit", laid_crucible_api_ErrLimit), ("crucible/ieee.shapes", laid_crucible_ieee_shapes)], narrowed := true }
def NumberNoneUptoSaid : Prop := numberNoneUptoRow.holds Tryz.pinned (OpenSpec.upto numberNoneSpec)

/-- 'cruciblelaw15.NumberOf', WHERE WHAT IT READS IS OF BULK AT MOST 1048576: true; the input reads as it did. -/
def numberOfUptoRow : OpenClaim := { program := "ytoimhjcpeifegaagreatdoor", sum := "b062ee79e882acbd55d8ff95ffa37d6094786cbb1e8ce7839b70a0c8c4ba3ccc", func := "crucible/cruciblelaw15.NumberOf", spec := "numberOf", inPlace := ["internal/abi.NoEscape"], unfollowed := true, recurses := true, named := ["crucible/ieee.shapes", "math/bits.deBruijn64tab", "crucible/api.ErrArg", "crucible/api.ErrLimit", "internal/strconv.uint64pow10", "math/bits.deBruijn32tab"], apart := false, laid := [("math/bits.deBruijn32tab", laid_math_bits_deBruijn32tab), ("math/bits.deBruijn64tab", laid_math_bits_deBruijn64tab), ("internal/strconv.uint64pow10", laid_internal_strconv_uint64pow10), ("crucible/api.ErrArg", laid_crucible_api_ErrArg), ("crucible/api.ErrLimit", laid_crucible_api_ErrLimit), ("crucible/ieee.shapes", laid_crucible_ieee_shapes)], narrowed := true }
def NumberOfUptoSaid : Prop := numberOfUptoRow.holds Tryz.pinned (OpenSpec.upto numberOfSpec)

/-- 'cruciblelaw15.NumberBack', WHERE WHAT IT READS IS OF BULK AT MOST 1048576: true; the input reads as it did. -/
def numberBackUptoRow : OpenClaim := { program := "ytoimhjcpeifegaagreatdoor", sum := "b062ee79e882acbd55d8ff95ffa37d6094786cbb1e8ce7839b70a0c8c4ba3ccc", func := "crucible/cruciblelaw15.NumberBack", spec := "numberBack", inPlace := ["internal/abi.NoEscape"], unfollowed := true, recurses := true, named := ["crucible/api.ErrArg", "crucible/api.ErrLimit", "internal/strconv.uint64pow10", "math/bits.deBruijn32tab", "math/bits.deBruijn64tab", "crucible/ieee.shapes"], loops := true, apart := false, laid := [("math/bits.deBruijn32tab", laid_math_bits_deBruijn32tab), ("math/bits.deBruijn64tab", laid_math_bits_deBruijn64tab), ("internal/strconv.uint64pow10", laid_internal_strconv_uint64pow10), ("crucible/api.ErrArg", laid_crucible_api_ErrArg), ("crucible/api.ErrLimit", laid_crucible_api_ErrLimit), ("crucible/ieee.shapes", laid_crucible_ieee_shapes)], narrowed := true }
def NumberBackUptoSaid : Prop := numberBackUptoRow.holds Tryz.pinned (OpenSpec.upto numberBackSpec)

/-- 'cruciblelaw15.NumberOne', WHERE WHAT IT READS IS OF BULK AT MOST 1048576: true; the input reads as it did. -/
def numberOneUptoRow : OpenClaim := { program := "ytoimhjcpeifegaagreatdoor", sum := "b062ee79e882acbd55d8ff95ffa37d6094786cbb1e8ce7839b70a0c8c4ba3ccc", func := "crucible/cruciblelaw15.NumberOne", spec := "numberOne", inPlace := ["internal/abi.NoEscape"], unfollowed := true, recurses := true, named := ["crucible/ieee.shapes", "math/bits.deBruijn64tab", "crucible/api.ErrArg", "crucible/api.ErrLimit", "internal/strconv.uint64pow10", "math/bits.deBruijn32tab"], apart := false, laid := [("math/bits.deBruijn32tab", laid_math_bits_deBruijn32tab), ("math/bits.deBruijn64tab", laid_math_bits_deBruijn64tab), ("internal/strconv.uint64pow10", laid_internal_strconv_uint64pow10), ("crucible/api.ErrArg", laid_crucible_api_ErrArg), ("crucible/api.ErrLimit", laid_crucible_api_ErrLimit), ("crucible/ieee.shapes", laid_crucible_ieee_shapes)], narrowed := true }
def NumberOneUptoSaid : Prop := numberOneUptoRow.holds Tryz.pinned (OpenSpec.upto numberOneSpec)

/-- 'cruciblelaw15.NumberOrder', WHERE WHAT IT READS IS OF BULK AT MOST 1048576: true; the input reads as it did. -/
def numberOrderUptoRow : OpenClaim := { program := "ytoimhjcpeifegaagreatdoor", sum := "b062ee79e882acbd55d8ff95ffa37d6094786cbb1e8ce7839b70a0c8c4ba3ccc", func := "crucible/cruciblelaw15.NumberOrder", spec := "numberOrder", inPlace := ["internal/abi.NoEscape"], unfollowed := true, recurses := true, named := ["crucible/ieee.shapes", "math/bits.deBruijn64tab", "crucible/api.ErrArg", "crucible/api.ErrLimit", "internal/strconv.uint64pow10", "math/bits.deBruijn32tab"], apart := false, laid := [("math/bits.deBruijn32tab", laid_math_bits_deBruijn32tab), ("math/bits.deBruijn64tab", laid_math_bits_deBruijn64tab), ("internal/strconv.uint64pow10", laid_internal_strconv_uint64pow10), ("crucible/api.ErrArg", laid_crucible_api_ErrArg), ("crucible/api.ErrLimit", laid_crucible_api_ErrLimit), ("crucible/ieee.shapes", laid_crucible_ieee_shapes)], narrowed := true }
def NumberOrderUptoSaid : Prop := numberOrderUptoRow.holds Tryz.pinned (OpenSpec.upto numberOrderSpec)

end Rows
end Go.Proofs.YtoimhjcpeifegaaGreatDoor
