/-
  NARROWER THAN 'FOR EVERY INPUT', by the rows' own cells (each row's printed sentence says how): QuotGreatest: laid · QuotProducts: laid · QuotBack: laid · QuotTens: laid · QuotHigh: laid.
  DERIVED. THE GIVEN ROWS OF THIS SEAT. 5 by the template 'for every input the law returns true; each argument reads behind the call as it read before'; 0 by the template 'total and deterministic' (their statements: YtgnophflogmmaaaDoorTotals.lean).
  GIVEN WITH THE SEED: the statements are not yours to turn. If you find one false, say at which input.
  Laid BY PROGRAM, IN A SANDBOX (cutbox-rows.mjs): the forced cells as the released guide's own fill.sh prints them over the translation a725f71cba3083c3… (all of the seat's roots in one cut). By AI agents, Wed Nov 11 2026. No macro, syntax, notation, axiom, sorry.
-/
import Derived.Test.YtgnophflogmmaaaDoorChecked
import GoSem.Claim
import GoSem.ClaimJoined
import GoSem.ClaimMapViews
import Derived.JoinedTies
import Derived.KernelRfl
namespace Go.Proofs.YtgnophflogmmaaaDoor
/- THE CELL 'sum', in the pinned program and in every row, IS THE sha256 OF THE DUMP (.gsa) THAT YtgnophflogmmaaaDoorProg.lean LOADS. Nothing in Lean hashes anything: it is a label: what it is worth is what the hold of that sum in a sandbox is worth. -/
noncomputable def Tryd.pinned : Pinned := { name := "ytgnophflogmmaaadoor", sum := "a725f71cba3083c3eb6471b02e062c1ead9f328f280a8c8bcb172edb0a385978", checked := Tryd.checked }
namespace Rows
def none {H : Type} : Left H := { results := [], args := [] }

/- WHAT THE LISTED PACKAGE-LEVEL VARIABLES READ AS WHEN THE CALL BEGINS. Each datum BY PROGRAM (the guide's laid-datum.mjs) off the statement by which the dump's own 'gosem.cut.vars' lays the variable. In a bare row this is a premise. The card (YtgnophflogmmaaaDoorCards.lean) ties it to the program's text. -/
def laid_math_bits_deBruijn32tab {H : Type} : DataW H := .agg [.lit (.int .u8 0), .lit (.int .u8 1), .lit (.int .u8 28), .lit (.int .u8 2), .lit (.int .u8 29), .lit (.int .u8 14), .lit (.int .u8 24), .lit (.int .u8 3), .lit (.int .u8 30), .lit (.int .u8 22), .lit (.int .u8 20), .lit (.int .u8 15), .lit (.int .u8 25), .lit (.int .u8 17), .lit (.int .u8 4), .lit (.int .u8 8), .lit (.int .u8 31), .lit (.int .u8 27), .lit (.int .u8 13), .lit (.int .u8 23), .lit (.int .u8 21), .lit (.int .u8 19), .lit (.int .u8 16), .lit (.int .u8 7), .lit (.int .u8 26), .lit (.int .u8 12), .lit (.int .u8 18), .lit (.int .u8 6), .lit (.int .u8 11), .lit (.int .u8 5), .lit (.int .u8 10), .lit (.int .u8 9)]

/-- 'cruciblelaw02.QuotGreatest': WHATEVER THE INPUT: true; the input reads as it did. -/
def quotGreatestSpec : ChangeSpec := { name := "quotGreatest", fn := fun _ => fun
  | [d1, d2, d3] => { results := [.lit (.bool true)], args := [d1, d2, d3] }
  | _ => none }
def quotGreatestRow : OpenClaim := { program := "ytgnophflogmmaaadoor", sum := "a725f71cba3083c3eb6471b02e062c1ead9f328f280a8c8bcb172edb0a385978", func := "crucible/cruciblelaw02.QuotGreatest", spec := "quotGreatest", unfollowed := true, recurses := true, named := ["math/bits.overflowError", "math/bits.deBruijn32tab"], apart := false, laid := [("math/bits.deBruijn32tab", laid_math_bits_deBruijn32tab)] }
def QuotGreatestSaid : Prop := quotGreatestRow.holds Tryd.pinned (OpenSpec.ofChange quotGreatestSpec)

/-- ITS FALSE NEIGHBOUR: 'it returns false'. Refute it at one input. -/
def quotGreatestWrong : ChangeSpec := { name := "quotGreatest", fn := fun _ => fun
  | [d1, d2, d3] => { results := [.lit (.bool false)], args := [d1, d2, d3] }
  | _ => none }
def QuotGreatestWrongFalsely : Prop := quotGreatestRow.holds Tryd.pinned (OpenSpec.ofChange quotGreatestWrong)

/-- 'cruciblelaw02.QuotProducts': WHATEVER THE INPUT: true; the input reads as it did. -/
def quotProductsSpec : ChangeSpec := { name := "quotProducts", fn := fun _ => fun
  | [d1, d2, d3] => { results := [.lit (.bool true)], args := [d1, d2, d3] }
  | _ => none }
def quotProductsRow : OpenClaim := { program := "ytgnophflogmmaaadoor", sum := "a725f71cba3083c3eb6471b02e062c1ead9f328f280a8c8bcb172edb0a385978", func := "crucible/cruciblelaw02.QuotProducts", spec := "quotProducts", unfollowed := true, recurses := true, named := ["math/bits.deBruijn32tab", "math/bits.overflowError"], apart := false, laid := [("math/bits.deBruijn32tab", laid_math_bits_deBruijn32tab)] }
def QuotProductsSaid : Prop := quotProductsRow.holds Tryd.pinned (OpenSpec.ofChange quotProductsSpec)

/-- ITS FALSE NEIGHBOUR: 'it returns false'. Refute it at one input. -/
def quotProductsWrong : ChangeSpec := { name := "quotProducts", fn := fun _ => fun
  | [d1, d2, d3] => { results := [.lit (.bool false)], args := [d1, d2, d3] }
  | _ => none }
def QuotProductsWrongFalsely : Prop := quotProductsRow.holds Tryd.pinned (OpenSpec.ofChange quotProductsWrong)

/-- 'cruciblelaw02.QuotBack': WHATEVER THE INPUT: true; the input reads as it did. -/
def quotBackSpec : ChangeSpec := { name := "quotBack", fn := fun _ => fun
  | [d1, d2, d3] => { results := [.lit (.bool true)], args := [d1, d2, d3] }
  | _ => none }
def quotBackRow : OpenClaim := { program := "ytgnophflogmmaaadoor", sum := "a725f71cba3083c3eb6471b02e062c1ead9f328f280a8c8bcb172edb0a385978", func := "crucible/cruciblelaw02.QuotBack", spec := "quotBack", unfollowed := true, recurses := true, named := ["math/bits.overflowError", "math/bits.deBruijn32tab"], apart := false, laid := [("math/bits.deBruijn32tab", laid_math_bits_deBruijn32tab)] }
def QuotBackSaid : Prop := quotBackRow.holds Tryd.pinned (OpenSpec.ofChange quotBackSpec)

/-- ITS FALSE NEIGHBOUR: 'it returns false'. Refute it at one input. -/
def quotBackWrong : ChangeSpec := { name := "quotBack", fn := fun _ => fun
  | [d1, d2, d3] => { results := [.lit (.bool false)], args := [d1, d2, d3] }
  | _ => none }
def QuotBackWrongFalsely : Prop := quotBackRow.holds Tryd.pinned (OpenSpec.ofChange quotBackWrong)

/-- 'cruciblelaw02.QuotTens': WHATEVER THE INPUT: true; the input reads as it did. -/
def quotTensSpec : ChangeSpec := { name := "quotTens", fn := fun _ => fun
  | [d1, d2, d3] => { results := [.lit (.bool true)], args := [d1, d2, d3] }
  | _ => none }
def quotTensRow : OpenClaim := { program := "ytgnophflogmmaaadoor", sum := "a725f71cba3083c3eb6471b02e062c1ead9f328f280a8c8bcb172edb0a385978", func := "crucible/cruciblelaw02.QuotTens", spec := "quotTens", unfollowed := true, recurses := true, named := ["math/bits.overflowError", "math/bits.deBruijn32tab"], apart := false, laid := [("math/bits.deBruijn32tab", laid_math_bits_deBruijn32tab)] }
def QuotTensSaid : Prop := quotTensRow.holds Tryd.pinned (OpenSpec.ofChange quotTensSpec)

/-- ITS FALSE NEIGHBOUR: 'it returns false'. Refute it at one input. -/
def quotTensWrong : ChangeSpec := { name := "quotTens", fn := fun _ => fun
  | [d1, d2, d3] => { results := [.lit (.bool false)], args := [d1, d2, d3] }
  | _ => none }
def QuotTensWrongFalsely : Prop := quotTensRow.holds Tryd.pinned (OpenSpec.ofChange quotTensWrong)

/-- 'cruciblelaw02.QuotHigh': WHATEVER THE INPUT: true; the input reads as it did. -/
def quotHighSpec : ChangeSpec := { name := "quotHigh", fn := fun _ => fun
  | [d1, d2, d3, d4] => { results := [.lit (.bool true)], args := [d1, d2, d3, d4] }
  | _ => none }
def quotHighRow : OpenClaim := { program := "ytgnophflogmmaaadoor", sum := "a725f71cba3083c3eb6471b02e062c1ead9f328f280a8c8bcb172edb0a385978", func := "crucible/cruciblelaw02.QuotHigh", spec := "quotHigh", unfollowed := true, recurses := true, named := ["math/bits.overflowError", "math/bits.deBruijn32tab"], apart := false, laid := [("math/bits.deBruijn32tab", laid_math_bits_deBruijn32tab)] }
def QuotHighSaid : Prop := quotHighRow.holds Tryd.pinned (OpenSpec.ofChange quotHighSpec)

/-- ITS FALSE NEIGHBOUR: 'it returns false'. Refute it at one input. -/
def quotHighWrong : ChangeSpec := { name := "quotHigh", fn := fun _ => fun
  | [d1, d2, d3, d4] => { results := [.lit (.bool false)], args := [d1, d2, d3, d4] }
  | _ => none }
def QuotHighWrongFalsely : Prop := quotHighRow.holds Tryd.pinned (OpenSpec.ofChange quotHighWrong)

/- THE SECOND FORM. 'bulk': how many values and letters a reading holds, each counted each time it is reached (what is shared counts as often as it is met; a slice's spare places count too). A statement '..UptoSaid' is the law's where the arguments, and the package variables that the reading takes, are together of bulk at most 1048576: NARROWER than '..Said'. Prove '..Said' where nothing that the law and all that it calls make is longer than what came in: it says more and counts as full. Else prove '..UptoSaid'. A law counts once. -/
mutual
def uptoBulk {H : Type} : DataW H → Nat
  | .lit (.string bytes) => bytes.length + 1
  | .lit _ => 1
  | .nil => 1
  | .ptr d => uptoBulk d + 1
  | .slice elems spare => uptoBulkAll elems + uptoBulkAll spare + 1
  | .agg parts => uptoBulkAll parts + 1
  | .iface _ d => uptoBulk d + 1
  | .map entries => uptoBulkEntries entries + 1
  | .held _ => 1
def uptoBulkAll {H : Type} : List (DataW H) → Nat
  | [] => 0
  | d :: r => uptoBulk d + uptoBulkAll r
def uptoBulkEntries {H : Type} : List (Lit × DataW H) → Nat
  | [] => 0
  | x :: r => uptoBulkEntry x + uptoBulkEntries r
def uptoBulkEntry {H : Type} : Lit × DataW H → Nat
  | (.string bytes, d) => bytes.length + uptoBulk d + 1
  | (_, d) => uptoBulk d + 1
 end
def uptoSmall : (H : Type) → List (DataW H) → Bool := fun _ ds => decide (uptoBulkAll ds ≤ 1048576)
def OpenSpec.upto (s : _root_.Go.ChangeSpec) : _root_.Go.OpenSpec := { _root_.Go.OpenSpec.ofChange s with cond := some uptoSmall }

/-- 'cruciblelaw02.QuotGreatest', WHERE WHAT IT READS IS OF BULK AT MOST 1048576: true; the input reads as it did. -/
def quotGreatestUptoRow : OpenClaim := { program := "ytgnophflogmmaaadoor", sum := "a725f71cba3083c3eb6471b02e062c1ead9f328f280a8c8bcb172edb0a385978", func := "crucible/cruciblelaw02.QuotGreatest", spec := "quotGreatest", unfollowed := true, recurses := true, named := ["math/bits.overflowError", "math/bits.deBruijn32tab"], apart := false, laid := [("math/bits.deBruijn32tab", laid_math_bits_deBruijn32tab)], narrowed := true }
def QuotGreatestUptoSaid : Prop := quotGreatestUptoRow.holds Tryd.pinned (OpenSpec.upto quotGreatestSpec)

/-- 'cruciblelaw02.QuotProducts', WHERE WHAT IT READS IS OF BULK AT MOST 1048576: true; the input reads as it did. -/
def quotProductsUptoRow : OpenClaim := { program := "ytgnophflogmmaaadoor", sum := "a725f71cba3083c3eb6471b02e062c1ead9f328f280a8c8bcb172edb0a385978", func := "crucible/cruciblelaw02.QuotProducts", spec := "quotProducts", unfollowed := true, recurses := true, named := ["math/bits.deBruijn32tab", "math/bits.overflowError"], apart := false, laid := [("math/bits.deBruijn32tab", laid_math_bits_deBruijn32tab)], narrowed := true }
def QuotProductsUptoSaid : Prop := quotProductsUptoRow.holds Tryd.pinned (OpenSpec.upto quotProductsSpec)

/-- 'cruciblelaw02.QuotBack', WHERE WHAT IT READS IS OF BULK AT MOST 1048576: true; the input reads as it did. -/
def quotBackUptoRow : OpenClaim := { program := "ytgnophflogmmaaadoor", sum := "a725f71cba3083c3eb6471b02e062c1ead9f328f280a8c8bcb172edb0a385978", func := "crucible/cruciblelaw02.QuotBack", spec := "quotBack", unfollowed := true, recurses := true, named := ["math/bits.overflowError", "math/bits.deBruijn32tab"], apart := false, laid := [("math/bits.deBruijn32tab", laid_math_bits_deBruijn32tab)], narrowed := true }
def QuotBackUptoSaid : Prop := quotBackUptoRow.holds Tryd.pinned (OpenSpec.upto quotBackSpec)

/-- 'cruciblelaw02.QuotTens', WHERE WHAT IT READS IS OF BULK AT MOST 1048576: true; the input reads as it did. -/
def quotTensUptoRow : OpenClaim := { program := "ytgnophflogmmaaadoor", sum := "a725f71cba3083c3eb6471b02e062c1ead9f328f280a8c8bcb172edb0a385978", func := "crucible/cruciblelaw02.QuotTens", spec := "quotTens", unfollowed := true, recurses := true, named := ["math/bits.overflowError", "math/bits.deBruijn32tab"], apart := false, laid := [("math/bits.deBruijn32tab", laid_math_bits_deBruijn32tab)], narrowed := true }
def QuotTensUptoSaid : Prop := quotTensUptoRow.holds Tryd.pinned (OpenSpec.upto quotTensSpec)

/-- 'cruciblelaw02.QuotHigh', WHERE WHAT IT READS IS OF BULK AT MOST 1048576: true; the input reads as it did. -/
def quotHighUptoRow : OpenClaim := { program := "ytgnophflogmmaaadoor", sum := "a725f71cba3083c3eb6471b02e062c1ead9f328f280a8c8bcb172edb0a385978", func := "crucible/cruciblelaw02.QuotHigh", spec := "quotHigh", unfollowed := true, recurses := true, named := ["math/bits.overflowError", "math/bits.deBruijn32tab"], apart := false, laid := [("math/bits.deBruijn32tab", laid_math_bits_deBruijn32tab)], narrowed := true }
def QuotHighUptoSaid : Prop := quotHighUptoRow.holds Tryd.pinned (OpenSpec.upto quotHighSpec)

end Rows
end Go.Proofs.YtgnophflogmmaaaDoor
