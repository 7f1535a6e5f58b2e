/-
  NARROWER THAN 'FOR EVERY INPUT', by the rows' own cells (each row's printed sentence says how): NatOwn: laid · IeeeOwn: laid · QuotDivs: laid · QuotCommon: laid · QuotPowers: laid · QuotDigits: laid · QuotBytes: laid · WholeOwn: laid · NumberOwn: laid.
  DERIVED. THE GIVEN ROWS OF THIS SEAT. 9 by the template 'for every input the law returns true; each argument reads behind the call as it read before'; 0 by the template 'total and deterministic' (their statements: YtbcbmkeeoognpaaGreatDoorTotals.lean).
  GIVEN WITH THE SEED: the statements are not yours to turn. If you find one false, say at which input.
  Laid BY PROGRAM, IN A SANDBOX (cutbox-rows.mjs): the forced cells as the released guide's own fill.sh prints them over the translation 59a69381ab3cea05… (all of the seat's roots in one cut). By AI agents, Wed Nov 11 2026. No macro, syntax, notation, axiom, sorry.
-/
import Derived.Test.YtbcbmkeeoognpaaGreatDoorChecked
import GoSem.Claim
import GoSem.ClaimJoined
import GoSem.ClaimMapViews
import Derived.JoinedTies
import Derived.KernelRfl
namespace Go.Proofs.YtbcbmkeeoognpaaGreatDoor
/- THE CELL 'sum', in the pinned program and in every row, IS THE sha256 OF THE DUMP (.gsa) THAT YtbcbmkeeoognpaaGreatDoorProg.lean LOADS. Nothing in Lean hashes anything: it is a label: what it is worth is what the hold of that sum in a sandbox is worth. -/
noncomputable def Tryz.pinned : Pinned := { name := "ytbcbmkeeoognpaagreatdoor", sum := "59a69381ab3cea05678f80fd6e1092c13f27723ed257b5bea4f9867bac7d3829", checked := Tryz.checked }
namespace Rows
def none {H : Type} : Left H := { results := [], args := [] }

/- WHAT THE LISTED PACKAGE-LEVEL VARIABLES READ AS WHEN THE CALL BEGINS. Each datum BY PROGRAM (the guide's laid-datum.mjs) off the statement by which the dump's own 'gosem.cut.vars' lays the variable. In a bare row this is a premise. The card (YtbcbmkeeoognpaaGreatDoorCards.lean) ties it to the program's text. -/
def laid_math_bits_deBruijn32tab {H : Type} : DataW H := .agg [.lit (.int .u8 0), .lit (.int .u8 1), .lit (.int .u8 28), .lit (.int .u8 2), .lit (.int .u8 29), .lit (.int .u8 14), .lit (.int .u8 24), .lit (.int .u8 3), .lit (.int .u8 30), .lit (.int .u8 22), .lit (.int .u8 20), .lit (.int .u8 15), .lit (.int .u8 25), .lit (.int .u8 17), .lit (.int .u8 4), .lit (.int .u8 8), .lit (.int .u8 31), .lit (.int .u8 27), .lit (.int .u8 13), .lit (.int .u8 23), .lit (.int .u8 21), .lit (.int .u8 19), .lit (.int .u8 16), .lit (.int .u8 7), .lit (.int .u8 26), .lit (.int .u8 12), .lit (.int .u8 18), .lit (.int .u8 6), .lit (.int .u8 11), .lit (.int .u8 5), .lit (.int .u8 10), .lit (.int .u8 9)]
def laid_math_bits_deBruijn64tab {H : Type} : DataW H := .agg [.lit (.int .u8 0), .lit (.int .u8 1), .lit (.int .u8 56), .lit (.int .u8 2), .lit (.int .u8 57), .lit (.int .u8 49), .lit (.int .u8 28), .lit (.int .u8 3), .lit (.int .u8 61), .lit (.int .u8 58), .lit (.int .u8 42), .lit (.int .u8 50), .lit (.int .u8 38), .lit (.int .u8 29), .lit (.int .u8 17), .lit (.int .u8 4), .lit (.int .u8 62), .lit (.int .u8 47), .lit (.int .u8 59), .lit (.int .u8 36), .lit (.int .u8 45), .lit (.int .u8 43), .lit (.int .u8 51), .lit (.int .u8 22), .lit (.int .u8 53), .lit (.int .u8 39), .lit (.int .u8 33), .lit (.int .u8 30), .lit (.int .u8 24), .lit (.int .u8 18), .lit (.int .u8 12), .lit (.int .u8 5), .lit (.int .u8 63), .lit (.int .u8 55), .lit (.int .u8 48), .lit (.int .u8 27), .lit (.int .u8 60), .lit (.int .u8 41), .lit (.int .u8 37), .lit (.int .u8 16), .lit (.int .u8 46), .lit (.int .u8 35), .lit (.int .u8 44), .lit (.int .u8 21), .lit (.int .u8 52), .lit (.int .u8 32), .lit (.int .u8 23), .lit (.int .u8 11), .lit (.int .u8 54), .lit (.int .u8 26), .lit (.int .u8 40), .lit (.int .u8 15), .lit (.int .u8 34), .lit (.int .u8 20), .lit (.int .u8 31), .lit (.int .u8 10), .lit (.int .u8 25), .lit (.int .u8 14), .lit (.int .u8 19), .lit (.int .u8 9), .lit (.int .u8 13), .lit (.int .u8 8), .lit (.int .u8 7), .lit (.int .u8 6)]
def laid_internal_strconv_uint64pow10 {H : Type} : DataW H := .agg [.lit (.int .u64 1), .lit (.int .u64 10), .lit (.int .u64 100), .lit (.int .u64 1000), .lit (.int .u64 10000), .lit (.int .u64 100000), .lit (.int .u64 1000000), .lit (.int .u64 10000000), .lit (.int .u64 100000000), .lit (.int .u64 1000000000), .lit (.int .u64 10000000000), .lit (.int .u64 100000000000), .lit (.int .u64 1000000000000), .lit (.int .u64 10000000000000), .lit (.int .u64 100000000000000), .lit (.int .u64 1000000000000000), .lit (.int .u64 10000000000000000), .lit (.int .u64 100000000000000000), .lit (.int .u64 1000000000000000000), .lit (.int .u64 10000000000000000000)]
def laid_crucible_ieee_shapes {H : Type} : DataW H := .agg [.agg [.lit (.int .i64 10), .lit (.int .i64 (-24)), .lit (.int .i64 5)], .agg [.lit (.int .i64 23), .lit (.int .i64 (-149)), .lit (.int .i64 8)], .agg [.lit (.int .i64 52), .lit (.int .i64 (-1074)), .lit (.int .i64 11)]]
def laid_crucible_api_ErrArg {H : Type} : DataW H := .iface "*errors.errorString" (.ptr (.agg [.lit (.string [97, 110, 32, 97, 114, 103, 117, 109, 101, 110, 116, 32, 116, 104, 97, 116, 32, 109, 97, 121, 32, 110, 111, 116, 32, 98, 101])]))
def laid_crucible_api_ErrLimit {H : Type} : DataW H := .iface "*errors.errorString" (.ptr (.agg [.lit (.string [97, 32, 108, 105, 109, 105, 116])]))

/-- 'cruciblelaw01.NatOwn': WHATEVER THE INPUT: true; the input reads as it did. -/
def natOwnSpec : ChangeSpec := { name := "natOwn", fn := fun _ => fun
  | [d1, d2, d3] => { results := [.lit (.bool true)], args := [d1, d2, d3] }
  | _ => none }
def natOwnRow : OpenClaim := { program := "ytbcbmkeeoognpaagreatdoor", sum := "59a69381ab3cea05678f80fd6e1092c13f27723ed257b5bea4f9867bac7d3829", func := "crucible/cruciblelaw01.NatOwn", spec := "natOwn", named := ["math/bits.overflowError", "internal/strconv.uint64pow10", "math/bits.deBruijn32tab", "math/bits.deBruijn64tab"], apart := false, laid := [("math/bits.deBruijn32tab", laid_math_bits_deBruijn32tab), ("math/bits.deBruijn64tab", laid_math_bits_deBruijn64tab), ("internal/strconv.uint64pow10", laid_internal_strconv_uint64pow10)] }
def NatOwnSaid : Prop := natOwnRow.holds Tryz.pinned (OpenSpec.ofChange natOwnSpec)

/-- ITS FALSE NEIGHBOUR: 'it returns false'. Refute it at one input. -/
def natOwnWrong : ChangeSpec := { name := "natOwn", fn := fun _ => fun
  | [d1, d2, d3] => { results := [.lit (.bool false)], args := [d1, d2, d3] }
  | _ => none }
def NatOwnWrongFalsely : Prop := natOwnRow.holds Tryz.pinned (OpenSpec.ofChange natOwnWrong)

/-- 'cruciblelaw04.IeeeOwn': WHATEVER THE INPUT: true; the input reads as it did. -/
def ieeeOwnSpec : ChangeSpec := { name := "ieeeOwn", fn := fun _ => fun
  | [d1, d2, d3] => { results := [.lit (.bool true)], args := [d1, d2, d3] }
  | _ => none }
def ieeeOwnRow : OpenClaim := { program := "ytbcbmkeeoognpaagreatdoor", sum := "59a69381ab3cea05678f80fd6e1092c13f27723ed257b5bea4f9867bac7d3829", func := "crucible/cruciblelaw04.IeeeOwn", spec := "ieeeOwn", named := ["crucible/ieee.shapes", "math/bits.deBruijn64tab", "internal/strconv.uint64pow10", "math/bits.deBruijn32tab"], apart := false, laid := [("math/bits.deBruijn32tab", laid_math_bits_deBruijn32tab), ("math/bits.deBruijn64tab", laid_math_bits_deBruijn64tab), ("internal/strconv.uint64pow10", laid_internal_strconv_uint64pow10), ("crucible/ieee.shapes", laid_crucible_ieee_shapes)] }
def IeeeOwnSaid : Prop := ieeeOwnRow.holds Tryz.pinned (OpenSpec.ofChange ieeeOwnSpec)

/-- ITS FALSE NEIGHBOUR: 'it returns false'. Refute it at one input. -/
def ieeeOwnWrong : ChangeSpec := { name := "ieeeOwn", fn := fun _ => fun
  | [d1, d2, d3] => { results := [.lit (.bool false)], args := [d1, d2, d3] }
  | _ => none }
def IeeeOwnWrongFalsely : Prop := ieeeOwnRow.holds Tryz.pinned (OpenSpec.ofChange ieeeOwnWrong)

/-- 'cruciblelaw02.QuotDivs': WHATEVER THE INPUT: true; the input reads as it did. -/
def quotDivsSpec : ChangeSpec := { name := "quotDivs", fn := fun _ => fun
  | [d1, d2] => { results := [.lit (.bool true)], args := [d1, d2] }
  | _ => none }
def quotDivsRow : OpenClaim := { program := "ytbcbmkeeoognpaagreatdoor", sum := "59a69381ab3cea05678f80fd6e1092c13f27723ed257b5bea4f9867bac7d3829", func := "crucible/cruciblelaw02.QuotDivs", spec := "quotDivs", unfollowed := true, recurses := true, named := ["math/bits.overflowError", "internal/strconv.uint64pow10", "math/bits.deBruijn32tab", "math/bits.deBruijn64tab"], apart := false, laid := [("math/bits.deBruijn32tab", laid_math_bits_deBruijn32tab), ("math/bits.deBruijn64tab", laid_math_bits_deBruijn64tab), ("internal/strconv.uint64pow10", laid_internal_strconv_uint64pow10)] }
def QuotDivsSaid : Prop := quotDivsRow.holds Tryz.pinned (OpenSpec.ofChange quotDivsSpec)

/-- ITS FALSE NEIGHBOUR: 'it returns false'. Refute it at one input. -/
def quotDivsWrong : ChangeSpec := { name := "quotDivs", fn := fun _ => fun
  | [d1, d2] => { results := [.lit (.bool false)], args := [d1, d2] }
  | _ => none }
def QuotDivsWrongFalsely : Prop := quotDivsRow.holds Tryz.pinned (OpenSpec.ofChange quotDivsWrong)

/-- 'cruciblelaw02.QuotCommon': WHATEVER THE INPUT: true; the input reads as it did. -/
def quotCommonSpec : ChangeSpec := { name := "quotCommon", fn := fun _ => fun
  | [d1, d2] => { results := [.lit (.bool true)], args := [d1, d2] }
  | _ => none }
def quotCommonRow : OpenClaim := { program := "ytbcbmkeeoognpaagreatdoor", sum := "59a69381ab3cea05678f80fd6e1092c13f27723ed257b5bea4f9867bac7d3829", func := "crucible/cruciblelaw02.QuotCommon", spec := "quotCommon", unfollowed := true, recurses := true, named := ["math/bits.overflowError", "internal/strconv.uint64pow10", "math/bits.deBruijn32tab", "math/bits.deBruijn64tab"], apart := false, laid := [("math/bits.deBruijn32tab", laid_math_bits_deBruijn32tab), ("math/bits.deBruijn64tab", laid_math_bits_deBruijn64tab), ("internal/strconv.uint64pow10", laid_internal_strconv_uint64pow10)] }
def QuotCommonSaid : Prop := quotCommonRow.holds Tryz.pinned (OpenSpec.ofChange quotCommonSpec)

/-- ITS FALSE NEIGHBOUR: 'it returns false'. Refute it at one input. -/
def quotCommonWrong : ChangeSpec := { name := "quotCommon", fn := fun _ => fun
  | [d1, d2] => { results := [.lit (.bool false)], args := [d1, d2] }
  | _ => none }
def QuotCommonWrongFalsely : Prop := quotCommonRow.holds Tryz.pinned (OpenSpec.ofChange quotCommonWrong)

/-- 'cruciblelaw02.QuotPowers': WHATEVER THE INPUT: true; the input reads as it did. -/
def quotPowersSpec : ChangeSpec := { name := "quotPowers", fn := fun _ => fun
  | [d1, d2, d3, d4] => { results := [.lit (.bool true)], args := [d1, d2, d3, d4] }
  | _ => none }
def quotPowersRow : OpenClaim := { program := "ytbcbmkeeoognpaagreatdoor", sum := "59a69381ab3cea05678f80fd6e1092c13f27723ed257b5bea4f9867bac7d3829", func := "crucible/cruciblelaw02.QuotPowers", spec := "quotPowers", unfollowed := true, recurses := true, named := ["math/bits.deBruijn32tab", "internal/strconv.uint64pow10", "math/bits.deBruijn64tab", "math/bits.overflowError"], apart := false, laid := [("math/bits.deBruijn32tab", laid_math_bits_deBruijn32tab), ("math/bits.deBruijn64tab", laid_math_bits_deBruijn64tab), ("internal/strconv.uint64pow10", laid_internal_strconv_uint64pow10)] }
def QuotPowersSaid : Prop := quotPowersRow.holds Tryz.pinned (OpenSpec.ofChange quotPowersSpec)

/-- ITS FALSE NEIGHBOUR: 'it returns false'. Refute it at one input. -/
def quotPowersWrong : ChangeSpec := { name := "quotPowers", fn := fun _ => fun
  | [d1, d2, d3, d4] => { results := [.lit (.bool false)], args := [d1, d2, d3, d4] }
  | _ => none }
def QuotPowersWrongFalsely : Prop := quotPowersRow.holds Tryz.pinned (OpenSpec.ofChange quotPowersWrong)

/-- 'cruciblelaw02.QuotDigits': WHATEVER THE INPUT: true; the input reads as it did. -/
def quotDigitsSpec : ChangeSpec := { name := "quotDigits", fn := fun _ => fun
  | [d1, d2, d3, d4] => { results := [.lit (.bool true)], args := [d1, d2, d3, d4] }
  | _ => none }
def quotDigitsRow : OpenClaim := { program := "ytbcbmkeeoognpaagreatdoor", sum := "59a69381ab3cea05678f80fd6e1092c13f27723ed257b5bea4f9867bac7d3829", func := "crucible/cruciblelaw02.QuotDigits", spec := "quotDigits", unfollowed := true, recurses := true, named := ["math/bits.overflowError", "internal/strconv.uint64pow10", "math/bits.deBruijn32tab", "math/bits.deBruijn64tab"], apart := false, laid := [("math/bits.deBruijn32tab", laid_math_bits_deBruijn32tab), ("math/bits.deBruijn64tab", laid_math_bits_deBruijn64tab), ("internal/strconv.uint64pow10", laid_internal_strconv_uint64pow10)] }
def QuotDigitsSaid : Prop := quotDigitsRow.holds Tryz.pinned (OpenSpec.ofChange quotDigitsSpec)

/-- ITS FALSE NEIGHBOUR: 'it returns false'. Refute it at one input. -/
def quotDigitsWrong : ChangeSpec := { name := "quotDigits", fn := fun _ => fun
  | [d1, d2, d3, d4] => { results := [.lit (.bool false)], args := [d1, d2, d3, d4] }
  | _ => none }
def QuotDigitsWrongFalsely : Prop := quotDigitsRow.holds Tryz.pinned (OpenSpec.ofChange quotDigitsWrong)

/-- 'cruciblelaw02.QuotBytes': WHATEVER THE INPUT: true; the input reads as it did. -/
def quotBytesSpec : ChangeSpec := { name := "quotBytes", fn := fun _ => fun
  | [d1, d2, d3, d4] => { results := [.lit (.bool true)], args := [d1, d2, d3, d4] }
  | _ => none }
def quotBytesRow : OpenClaim := { program := "ytbcbmkeeoognpaagreatdoor", sum := "59a69381ab3cea05678f80fd6e1092c13f27723ed257b5bea4f9867bac7d3829", func := "crucible/cruciblelaw02.QuotBytes", spec := "quotBytes", unfollowed := true, recurses := true, named := ["internal/strconv.uint64pow10", "math/bits.deBruijn32tab", "math/bits.deBruijn64tab", "math/bits.overflowError"], apart := false, laid := [("math/bits.deBruijn32tab", laid_math_bits_deBruijn32tab), ("math/bits.deBruijn64tab", laid_math_bits_deBruijn64tab), ("internal/strconv.uint64pow10", laid_internal_strconv_uint64pow10)] }
def QuotBytesSaid : Prop := quotBytesRow.holds Tryz.pinned (OpenSpec.ofChange quotBytesSpec)

/-- ITS FALSE NEIGHBOUR: 'it returns false'. Refute it at one input. -/
def quotBytesWrong : ChangeSpec := { name := "quotBytes", fn := fun _ => fun
  | [d1, d2, d3, d4] => { results := [.lit (.bool false)], args := [d1, d2, d3, d4] }
  | _ => none }
def QuotBytesWrongFalsely : Prop := quotBytesRow.holds Tryz.pinned (OpenSpec.ofChange quotBytesWrong)

/-- 'cruciblelaw03.WholeOwn': WHATEVER THE INPUT: true; the input reads as it did. -/
def wholeOwnSpec : ChangeSpec := { name := "wholeOwn", fn := fun _ => fun
  | [d] => { results := [.lit (.bool true)], args := [d] }
  | _ => none }
def wholeOwnRow : OpenClaim := { program := "ytbcbmkeeoognpaagreatdoor", sum := "59a69381ab3cea05678f80fd6e1092c13f27723ed257b5bea4f9867bac7d3829", func := "crucible/cruciblelaw03.WholeOwn", spec := "wholeOwn", unfollowed := true, recurses := true, named := ["math/bits.overflowError", "internal/strconv.uint64pow10", "math/bits.deBruijn32tab", "math/bits.deBruijn64tab"], apart := false, laid := [("math/bits.deBruijn32tab", laid_math_bits_deBruijn32tab), ("math/bits.deBruijn64tab", laid_math_bits_deBruijn64tab), ("internal/strconv.uint64pow10", laid_internal_strconv_uint64pow10)] }
def WholeOwnSaid : Prop := wholeOwnRow.holds Tryz.pinned (OpenSpec.ofChange wholeOwnSpec)

/-- ITS FALSE NEIGHBOUR: 'it returns false'. Refute it at one input. -/
def wholeOwnWrong : ChangeSpec := { name := "wholeOwn", fn := fun _ => fun
  | [d] => { results := [.lit (.bool false)], args := [d] }
  | _ => none }
def WholeOwnWrongFalsely : Prop := wholeOwnRow.holds Tryz.pinned (OpenSpec.ofChange wholeOwnWrong)

/-- 'cruciblelaw15.NumberOwn': WHATEVER THE INPUT: true; the input reads as it did. -/
def numberOwnSpec : ChangeSpec := { name := "numberOwn", fn := fun _ => fun
  | [d1, d2, d3] => { results := [.lit (.bool true)], args := [d1, d2, d3] }
  | _ => none }
def numberOwnRow : OpenClaim := { program := "ytbcbmkeeoognpaagreatdoor", sum := "59a69381ab3cea05678f80fd6e1092c13f27723ed257b5bea4f9867bac7d3829", func := "crucible/cruciblelaw15.NumberOwn", spec := "numberOwn", inPlace := ["internal/abi.NoEscape"], unfollowed := true, recurses := true, named := ["crucible/ieee.shapes", "math/bits.deBruijn64tab", "internal/strconv.uint64pow10", "math/bits.deBruijn32tab", "crucible/api.ErrArg", "crucible/api.ErrLimit"], apart := false, laid := [("math/bits.deBruijn32tab", laid_math_bits_deBruijn32tab), ("math/bits.deBruijn64tab", laid_math_bits_deBruijn64tab), ("internal/strconv.uint64pow10", laid_internal_strconv_uint64pow10), ("crucible/api.ErrArg", laid_crucible_api_ErrArg), ("crucible/api.ErrLimit", laid_crucible_api_ErrLimit), ("crucible/ieee.shapes", laid_crucible_ieee_shapes)] }
def NumberOwnSaid : Prop := numberOwnRow.holds Tryz.pinned (OpenSpec.ofChange numberOwnSpec)

/-- ITS FALSE NEIGHBOUR: 'it returns false'. Refute it at one input. -/
def numberOwnWrong : ChangeSpec := { name := "numberOwn", fn := fun _ => fun
  | [d1, d2, d3] => { results := [.lit (.bool false)], args := [d1, d2, d3] }
  | _ => none }
def NumberOwnWrongFalsely : Prop := numberOwnRow.holds Tryz.pinned (OpenSpec.ofChange numberOwnWrong)

/- THE SECOND FORM. 'bulk': how many values and letters a reading holds, each counted each time it is reached (what is shared counts as often as it is met; a slice's spare places count too). A statement '..UptoSaid' is the law's where the arguments, and the package variables that the reading takes, are together of bulk at most 1048576: NARROWER than '..Said'. Prove '..Said' where nothing that the law and all that it calls make is longer than what came in: it says more and counts as full. Else prove '..UptoSaid'. A law counts once. -/
mutual
def uptoBulk {H : Type} : DataW H → Nat
  | .lit (.string bytes) => bytes.length + 1
  | .lit _ => 1
  | .nil => 1
  | .ptr d => uptoBulk d + 1
  | .slice elems spare => uptoBulkAll elems + uptoBulkAll spare + 1
  | .agg parts => uptoBulkAll parts + 1
  | .iface _ d => uptoBulk d + 1
  | .map entries => uptoBulkEntries entries + 1
  | .held _ => 1
def uptoBulkAll {H : Type} : List (DataW H) → Nat
  | [] => 0
  | d :: r => uptoBulk d + uptoBulkAll r
def uptoBulkEntries {H : Type} : List (Lit × DataW H) → Nat
  | [] => 0
  | x :: r => uptoBulkEntry x + uptoBulkEntries r
def uptoBulkEntry {H : Type} : Lit × DataW H → Nat
  | (.string bytes, d) => bytes.length + uptoBulk d + 1
  | (_, d) => uptoBulk d + 1
 end
def uptoSmall : (H : Type) → List (DataW H) → Bool := fun _ ds => decide (uptoBulkAll ds ≤ 1048576)
def OpenSpec.upto (s : _root_.Go.ChangeSpec) : _root_.Go.OpenSpec := { _root_.Go.OpenSpec.ofChange s with cond := some uptoSmall }

/-- 'cruciblelaw01.NatOwn', WHERE WHAT IT READS IS OF BULK AT MOST 1048576: true; the input reads as it did. -/
def natOwnUptoRow : OpenClaim := { program := "ytbcbmkeeoognpaagreatdoor", sum := "59a69381ab3cea05678f80fd6e1092c13f27723ed257b5bea4f9867bac7d3829", func := "crucible/cruciblelaw01.NatOwn", spec := "natOwn", named := ["math/bits.overflowError", "internal/strconv.uint64pow10", "math/bits.deBruijn32tab", "math/bits.deBruijn64tab"], apart := false, laid := [("math/bits.deBruijn32tab", laid_math_bits_deBruijn32tab), ("math/bits.deBruijn64tab", laid_math_bits_deBruijn64tab), ("internal/strconv.uint64pow10", laid_internal_strconv_uint64pow10)], narrowed := true }
def NatOwnUptoSaid : Prop := natOwnUptoRow.holds Tryz.pinned (OpenSpec.upto natOwnSpec)

/-- 'cruciblelaw04.IeeeOwn', WHERE WHAT IT READS IS OF BULK AT MOST 1048576: true; the input reads as it did. -/
def ieeeOwnUptoRow : OpenClaim := { program := "ytbcbmkeeoognpaagreatdoor", sum := "59a69381ab3cea05678f80fd6e1092c13f27723ed257b5bea4f9867bac7d3829", func := "crucible/cruciblelaw04.IeeeOwn", spec := "ieeeOwn", named := ["crucible/ieee.shapes", "math/bits.deBruijn64tab", "internal/strconv.uint64pow10", "math/bits.deBruijn32tab"], apart := false, laid := [("math/bits.deBruijn32tab", laid_math_bits_deBruijn32tab), ("math/bits.deBruijn64tab", laid_math_bits_deBruijn64tab), ("internal/strconv.uint64pow10", laid_internal_strconv_uint64pow10), ("crucible/ieee.shapes", laid_crucible_ieee_shapes)], narrowed := true }
def IeeeOwnUptoSaid : Prop := ieeeOwnUptoRow.holds Tryz.pinned (OpenSpec.upto ieeeOwnSpec)

/-- 'cruciblelaw02.QuotDivs', WHERE WHAT IT READS IS OF BULK AT MOST 1048576: true; the input reads as it did. -/
def quotDivsUptoRow : OpenClaim := { program := "ytbcbmkeeoognpaagreatdoor", sum := "59a69381ab3cea05678f80fd6e1092c13f27723ed257b5bea4f9867bac7d3829", func := "crucible/cruciblelaw02.QuotDivs", spec := "quotDivs", unfollowed := true, recurses := true, named := ["math/bits.overflowError", "internal/strconv.uint64pow10", "math/bits.deBruijn32tab", "math/bits.deBruijn64tab"], apart := false, laid := [("math/bits.deBruijn32tab", laid_math_bits_deBruijn32tab), ("math/bits.deBruijn64tab", laid_math_bits_deBruijn64tab), ("internal/strconv.uint64pow10", laid_internal_strconv_uint64pow10)], narrowed := true }
def QuotDivsUptoSaid : Prop := quotDivsUptoRow.holds Tryz.pinned (OpenSpec.upto quotDivsSpec)

/-- 'cruciblelaw02.QuotCommon', WHERE WHAT IT READS IS OF BULK AT MOST 1048576: true; the input reads as it did. -/
def quotCommonUptoRow : OpenClaim := { program := "ytbcbmkeeoognpaagreatdoor", sum := "59a69381ab3cea05678f80fd6e1092c13f27723ed257b5bea4f9867bac7d3829", func := "crucible/cruciblelaw02.QuotCommon", spec := "quotCommon", unfollowed := true, recurses := true, named := ["math/bits.overflowError", "internal/strconv.uint64pow10", "math/bits.deBruijn32tab", "math/bits.deBruijn64tab"], apart := false, laid := [("math/bits.deBruijn32tab", laid_math_bits_deBruijn32tab), ("math/bits.deBruijn64tab", laid_math_bits_deBruijn64tab), ("internal/strconv.uint64pow10", laid_internal_strconv_uint64pow10)], narrowed := true }
def QuotCommonUptoSaid : Prop := quotCommonUptoRow.holds Tryz.pinned (OpenSpec.upto quotCommonSpec)

/-- 'cruciblelaw02.QuotPowers', WHERE WHAT IT READS IS OF BULK AT MOST 1048576: true; the input reads as it did. -/
def quotPowersUptoRow : OpenClaim := { program := "ytbcbmkeeoognpaagreatdoor", sum := "59a69381ab3cea05678f80fd6e1092c13f27723ed257b5bea4f9867bac7d3829", func := "crucible/cruciblelaw02.QuotPowers", spec := "quotPowers", unfollowed := true, recurses := true, named := ["math/bits.deBruijn32tab", "internal/strconv.uint64pow10", "math/bits.deBruijn64tab", "math/bits.overflowError"], apart := false, laid := [("math/bits.deBruijn32tab", laid_math_bits_deBruijn32tab), ("math/bits.deBruijn64tab", laid_math_bits_deBruijn64tab), ("internal/strconv.uint64pow10", laid_internal_strconv_uint64pow10)], narrowed := true }
def QuotPowersUptoSaid : Prop := quotPowersUptoRow.holds Tryz.pinned (OpenSpec.upto quotPowersSpec)

/-- 'cruciblelaw02.QuotDigits', WHERE WHAT IT READS IS OF BULK AT MOST 1048576: true; the input reads as it did. -/
def quotDigitsUptoRow : OpenClaim := { program := "ytbcbmkeeoognpaagreatdoor", sum := "59a69381ab3cea05678f80fd6e1092c13f27723ed257b5bea4f9867bac7d3829", func := "crucible/cruciblelaw02.QuotDigits", spec := "quotDigits", unfollowed := true, recurses := true, named := ["math/bits.overflowError", "internal/strconv.uint64pow10", "math/bits.deBruijn32tab", "math/bits.deBruijn64tab"], apart := false, laid := [("math/bits.deBruijn32tab", laid_math_bits_deBruijn32tab), ("math/bits.deBruijn64tab", laid_math_bits_deBruijn64tab), ("internal/strconv.uint64pow10", laid_internal_strconv_uint64pow10)], narrowed := true }
def QuotDigitsUptoSaid : Prop := quotDigitsUptoRow.holds Tryz.pinned (OpenSpec.upto quotDigitsSpec)

/-- 'cruciblelaw02.QuotBytes', WHERE WHAT IT READS IS OF BULK AT MOST 1048576: true; the input reads as it did. -/
def quotBytesUptoRow : OpenClaim := { program := "ytbcbmkeeoognpaagreatdoor", sum := "59a69381ab3cea05678f80fd6e1092c13f27723ed257b5bea4f9867bac7d3829", func := "crucible/cruciblelaw02.QuotBytes", spec := "quotBytes", unfollowed := true, recurses := true, named := ["internal/strconv.uint64pow10", "math/bits.deBruijn32tab", "math/bits.deBruijn64tab", "math/bits.overflowError"], apart := false, laid := [("math/bits.deBruijn32tab", laid_math_bits_deBruijn32tab), ("math/bits.deBruijn64tab", laid_math_bits_deBruijn64tab), ("internal/strconv.uint64pow10", laid_internal_strconv_uint64pow10)], narrowed := true }
def QuotBytesUptoSaid : Prop := quotBytesUptoRow.holds Tryz.pinned (OpenSpec.upto quotBytesSpec)

/-- 'cruciblelaw03.WholeOwn', WHERE WHAT IT READS IS OF BULK AT MOST 1048576: true; the input reads as it did. -/
def wholeOwnUptoRow : OpenClaim := { program := "ytbcbmkeeoognpaagreatdoor", sum := "59a69381ab3cea05678f80fd6e1092c13f27723ed257b5bea4f9867bac7d3829", func := "crucible/cruciblelaw03.WholeOwn", spec := "wholeOwn", unfollowed := true, recurses := true, named := ["math/bits.overflowError", "internal/strconv.uint64pow10", "math/bits.deBruijn32tab", "math/bits.deBruijn64tab"], apart := false, laid := [("math/bits.deBruijn32tab", laid_math_bits_deBruijn32tab), ("math/bits.deBruijn64tab", laid_math_bits_deBruijn64tab), ("internal/strconv.uint64pow10", laid_internal_strconv_uint64pow10)], narrowed := true }
def WholeOwnUptoSaid : Prop := wholeOwnUptoRow.holds Tryz.pinned (OpenSpec.upto wholeOwnSpec)

/-- 'cruciblelaw15.NumberOwn', WHERE WHAT IT READS IS OF BULK AT MOST 1048576: true; the input reads as it did. -/
def numberOwnUptoRow : OpenClaim := { program := "ytbcbmkeeoognpaagreatdoor", sum := "59a69381ab3cea05678f80fd6e1092c13f27723ed257b5bea4f9867bac7d3829", func := "crucible/cruciblelaw15.NumberOwn", spec := "numberOwn", inPlace := ["internal/abi.NoEscape"], unfollowed := true, recurses := true, named := ["crucible/ieee.shapes", "math/bits.deBruijn64tab", "internal/strconv.uint64pow10", "math/bits.deBruijn32tab", "crucible/api.ErrArg", "crucible/api.ErrLimit"], apart := false, laid := [("math/bits.deBruijn32tab", laid_math_bits_deBruijn32tab), ("math/bits.deBruijn64tab", laid_math_bits_deBruijn64tab), ("internal/strconv.uint64pow10", laid_internal_strconv_uint64pow10), ("crucible/api.ErrArg", laid_crucible_api_ErrArg), ("crucible/api.ErrLimit", laid_crucible_api_ErrLimit), ("crucible/ieee.shapes", laid_crucible_ieee_shapes)], narrowed := true }
def NumberOwnUptoSaid : Prop := numberOwnUptoRow.holds Tryz.pinned (OpenSpec.upto numberOwnSpec)

end Rows
end Go.Proofs.YtbcbmkeeoognpaaGreatDoor
