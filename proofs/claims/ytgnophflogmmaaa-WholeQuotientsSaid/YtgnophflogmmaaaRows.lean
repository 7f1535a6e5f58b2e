/-
  No cell of these rows narrows 'for every input' (looked for: loops, veiled, ifaces, maps, wideKeys, modest, calm, conditions, laid).
  DERIVED. THE GIVEN ROWS OF THIS SEAT. 11 by the template 'for every input the law returns true; each argument reads behind the call as it read before'; 0 by the template 'total and deterministic' (their statements: YtgnophflogmmaaaTotals.lean).
  GIVEN WITH THE SEED: the statements are not yours to turn. If you find one false, say at which input.
  Laid BY PROGRAM, IN A SANDBOX (cutbox-rows.mjs): the forced cells as the released guide's own fill.sh prints them over the translation 99db7352fc195954… (all of the seat's roots in one cut). By AI agents, Wed Nov 11 2026. No macro, syntax, notation, axiom, sorry.
-/
import Derived.Test.YtgnophflogmmaaaChecked
import GoSem.Claim
import GoSem.ClaimJoined
import GoSem.ClaimMapViews
import Derived.JoinedTies
import Derived.KernelRfl
namespace Go.Proofs.Ytgnophflogmmaaa
/- THE CELL 'sum', in the pinned program and in every row, IS THE sha256 OF THE DUMP (.gsa) THAT YtgnophflogmmaaaProg.lean LOADS. Nothing in Lean hashes anything: it is a label: what it is worth is what the hold of that sum in a sandbox is worth. -/
noncomputable def Try.pinned : Pinned := { name := "ytgnophflogmmaaa", sum := "99db7352fc195954f43fadce3d638de217aeaefed0184475851db46382999d8e", checked := Try.checked }
namespace Rows
def none {H : Type} : Left H := { results := [], args := [] }

/-- 'cruciblelaw03.WholeQuotients': WHATEVER THE INPUT: true; the input reads as it did. -/
def wholeQuotientsSpec : ChangeSpec := { name := "wholeQuotients", fn := fun _ => fun
  | [d1, d2] => { results := [.lit (.bool true)], args := [d1, d2] }
  | _ => none }
def wholeQuotientsRow : OpenClaim := { program := "ytgnophflogmmaaa", sum := "99db7352fc195954f43fadce3d638de217aeaefed0184475851db46382999d8e", func := "crucible/cruciblelaw03.WholeQuotients", spec := "wholeQuotients", unfollowed := true, recurses := true, named := ["math/bits.overflowError"], apart := false }
def WholeQuotientsSaid : Prop := wholeQuotientsRow.holds Try.pinned (OpenSpec.ofChange wholeQuotientsSpec)

/-- ITS FALSE NEIGHBOUR: 'it returns false'. Refute it at one input. -/
def wholeQuotientsWrong : ChangeSpec := { name := "wholeQuotients", fn := fun _ => fun
  | [d1, d2] => { results := [.lit (.bool false)], args := [d1, d2] }
  | _ => none }
def WholeQuotientsWrongFalsely : Prop := wholeQuotientsRow.holds Try.pinned (OpenSpec.ofChange wholeQuotientsWrong)

/-- 'cruciblelaw03.WholeTells': WHATEVER THE INPUT: true; the input reads as it did. -/
def wholeTellsSpec : ChangeSpec := { name := "wholeTells", fn := fun _ => fun
  | [d1, d2] => { results := [.lit (.bool true)], args := [d1, d2] }
  | _ => none }
def wholeTellsRow : OpenClaim := { program := "ytgnophflogmmaaa", sum := "99db7352fc195954f43fadce3d638de217aeaefed0184475851db46382999d8e", func := "crucible/cruciblelaw03.WholeTells", spec := "wholeTells", unfollowed := true, recurses := true, named := ["math/bits.overflowError"], apart := false }
def WholeTellsSaid : Prop := wholeTellsRow.holds Try.pinned (OpenSpec.ofChange wholeTellsSpec)

/-- ITS FALSE NEIGHBOUR: 'it returns false'. Refute it at one input. -/
def wholeTellsWrong : ChangeSpec := { name := "wholeTells", fn := fun _ => fun
  | [d1, d2] => { results := [.lit (.bool false)], args := [d1, d2] }
  | _ => none }
def WholeTellsWrongFalsely : Prop := wholeTellsRow.holds Try.pinned (OpenSpec.ofChange wholeTellsWrong)

/-- 'cruciblelaw03.WholeTwos': WHATEVER THE INPUT: true; the input reads as it did. -/
def wholeTwosSpec : ChangeSpec := { name := "wholeTwos", fn := fun _ => fun
  | [d1, d2, d3] => { results := [.lit (.bool true)], args := [d1, d2, d3] }
  | _ => none }
def wholeTwosRow : OpenClaim := { program := "ytgnophflogmmaaa", sum := "99db7352fc195954f43fadce3d638de217aeaefed0184475851db46382999d8e", func := "crucible/cruciblelaw03.WholeTwos", spec := "wholeTwos", unfollowed := true, recurses := true, named := ["math/bits.overflowError"], apart := false }
def WholeTwosSaid : Prop := wholeTwosRow.holds Try.pinned (OpenSpec.ofChange wholeTwosSpec)

/-- ITS FALSE NEIGHBOUR: 'it returns false'. Refute it at one input. -/
def wholeTwosWrong : ChangeSpec := { name := "wholeTwos", fn := fun _ => fun
  | [d1, d2, d3] => { results := [.lit (.bool false)], args := [d1, d2, d3] }
  | _ => none }
def WholeTwosWrongFalsely : Prop := wholeTwosRow.holds Try.pinned (OpenSpec.ofChange wholeTwosWrong)

/-- 'cruciblelaw03.WholeSmall': WHATEVER THE INPUT: true; the input reads as it did. -/
def wholeSmallSpec : ChangeSpec := { name := "wholeSmall", fn := fun _ => fun
  | [d1, d2] => { results := [.lit (.bool true)], args := [d1, d2] }
  | _ => none }
def wholeSmallRow : OpenClaim := { program := "ytgnophflogmmaaa", sum := "99db7352fc195954f43fadce3d638de217aeaefed0184475851db46382999d8e", func := "crucible/cruciblelaw03.WholeSmall", spec := "wholeSmall", unfollowed := true, recurses := true, named := ["math/bits.overflowError"], apart := false }
def WholeSmallSaid : Prop := wholeSmallRow.holds Try.pinned (OpenSpec.ofChange wholeSmallSpec)

/-- ITS FALSE NEIGHBOUR: 'it returns false'. Refute it at one input. -/
def wholeSmallWrong : ChangeSpec := { name := "wholeSmall", fn := fun _ => fun
  | [d1, d2] => { results := [.lit (.bool false)], args := [d1, d2] }
  | _ => none }
def WholeSmallWrongFalsely : Prop := wholeSmallRow.holds Try.pinned (OpenSpec.ofChange wholeSmallWrong)

/-- 'cruciblelaw03.WholeLeft': WHATEVER THE INPUT: true; the input reads as it did. -/
def wholeLeftSpec : ChangeSpec := { name := "wholeLeft", fn := fun _ => fun
  | [d1, d2] => { results := [.lit (.bool true)], args := [d1, d2] }
  | _ => none }
def wholeLeftRow : OpenClaim := { program := "ytgnophflogmmaaa", sum := "99db7352fc195954f43fadce3d638de217aeaefed0184475851db46382999d8e", func := "crucible/cruciblelaw03.WholeLeft", spec := "wholeLeft", unfollowed := true, recurses := true, named := ["math/bits.overflowError"], apart := false }
def WholeLeftSaid : Prop := wholeLeftRow.holds Try.pinned (OpenSpec.ofChange wholeLeftSpec)

/-- ITS FALSE NEIGHBOUR: 'it returns false'. Refute it at one input. -/
def wholeLeftWrong : ChangeSpec := { name := "wholeLeft", fn := fun _ => fun
  | [d1, d2] => { results := [.lit (.bool false)], args := [d1, d2] }
  | _ => none }
def WholeLeftWrongFalsely : Prop := wholeLeftRow.holds Try.pinned (OpenSpec.ofChange wholeLeftWrong)

/-- 'cruciblelaw03.WholeBack': WHATEVER THE INPUT: true; the input reads as it did. -/
def wholeBackSpec : ChangeSpec := { name := "wholeBack", fn := fun _ => fun
  | [d1, d2, d3] => { results := [.lit (.bool true)], args := [d1, d2, d3] }
  | _ => none }
def wholeBackRow : OpenClaim := { program := "ytgnophflogmmaaa", sum := "99db7352fc195954f43fadce3d638de217aeaefed0184475851db46382999d8e", func := "crucible/cruciblelaw03.WholeBack", spec := "wholeBack", unfollowed := true, recurses := true, named := ["math/bits.overflowError"], apart := false }
def WholeBackSaid : Prop := wholeBackRow.holds Try.pinned (OpenSpec.ofChange wholeBackSpec)

/-- ITS FALSE NEIGHBOUR: 'it returns false'. Refute it at one input. -/
def wholeBackWrong : ChangeSpec := { name := "wholeBack", fn := fun _ => fun
  | [d1, d2, d3] => { results := [.lit (.bool false)], args := [d1, d2, d3] }
  | _ => none }
def WholeBackWrongFalsely : Prop := wholeBackRow.holds Try.pinned (OpenSpec.ofChange wholeBackWrong)

/-- 'cruciblelaw03.WholeSums': WHATEVER THE INPUT: true; the input reads as it did. -/
def wholeSumsSpec : ChangeSpec := { name := "wholeSums", fn := fun _ => fun
  | [d1, d2] => { results := [.lit (.bool true)], args := [d1, d2] }
  | _ => none }
def wholeSumsRow : OpenClaim := { program := "ytgnophflogmmaaa", sum := "99db7352fc195954f43fadce3d638de217aeaefed0184475851db46382999d8e", func := "crucible/cruciblelaw03.WholeSums", spec := "wholeSums", unfollowed := true, recurses := true, named := ["math/bits.overflowError"], apart := false }
def WholeSumsSaid : Prop := wholeSumsRow.holds Try.pinned (OpenSpec.ofChange wholeSumsSpec)

/-- ITS FALSE NEIGHBOUR: 'it returns false'. Refute it at one input. -/
def wholeSumsWrong : ChangeSpec := { name := "wholeSums", fn := fun _ => fun
  | [d1, d2] => { results := [.lit (.bool false)], args := [d1, d2] }
  | _ => none }
def WholeSumsWrongFalsely : Prop := wholeSumsRow.holds Try.pinned (OpenSpec.ofChange wholeSumsWrong)

/-- 'cruciblelaw03.WholeRing': WHATEVER THE INPUT: true; the input reads as it did. -/
def wholeRingSpec : ChangeSpec := { name := "wholeRing", fn := fun _ => fun
  | [d1, d2, d3] => { results := [.lit (.bool true)], args := [d1, d2, d3] }
  | _ => none }
def wholeRingRow : OpenClaim := { program := "ytgnophflogmmaaa", sum := "99db7352fc195954f43fadce3d638de217aeaefed0184475851db46382999d8e", func := "crucible/cruciblelaw03.WholeRing", spec := "wholeRing", unfollowed := true, recurses := true, named := ["math/bits.overflowError"], apart := false }
def WholeRingSaid : Prop := wholeRingRow.holds Try.pinned (OpenSpec.ofChange wholeRingSpec)

/-- ITS FALSE NEIGHBOUR: 'it returns false'. Refute it at one input. -/
def wholeRingWrong : ChangeSpec := { name := "wholeRing", fn := fun _ => fun
  | [d1, d2, d3] => { results := [.lit (.bool false)], args := [d1, d2, d3] }
  | _ => none }
def WholeRingWrongFalsely : Prop := wholeRingRow.holds Try.pinned (OpenSpec.ofChange wholeRingWrong)

/-- 'cruciblelaw03.WholeBytes': WHATEVER THE INPUT: true; the input reads as it did. -/
def wholeBytesSpec : ChangeSpec := { name := "wholeBytes", fn := fun _ => fun
  | [d] => { results := [.lit (.bool true)], args := [d] }
  | _ => none }
def wholeBytesRow : OpenClaim := { program := "ytgnophflogmmaaa", sum := "99db7352fc195954f43fadce3d638de217aeaefed0184475851db46382999d8e", func := "crucible/cruciblelaw03.WholeBytes", spec := "wholeBytes", unfollowed := true, recurses := true, named := ["math/bits.overflowError"], apart := false }
def WholeBytesSaid : Prop := wholeBytesRow.holds Try.pinned (OpenSpec.ofChange wholeBytesSpec)

/-- ITS FALSE NEIGHBOUR: 'it returns false'. Refute it at one input. -/
def wholeBytesWrong : ChangeSpec := { name := "wholeBytes", fn := fun _ => fun
  | [d] => { results := [.lit (.bool false)], args := [d] }
  | _ => none }
def WholeBytesWrongFalsely : Prop := wholeBytesRow.holds Try.pinned (OpenSpec.ofChange wholeBytesWrong)

/-- 'cruciblelaw03.WholeLoose': WHATEVER THE INPUT: true; the input reads as it did. -/
def wholeLooseSpec : ChangeSpec := { name := "wholeLoose", fn := fun _ => fun
  | [d1, d2, d3] => { results := [.lit (.bool true)], args := [d1, d2, d3] }
  | _ => none }
def wholeLooseRow : OpenClaim := { program := "ytgnophflogmmaaa", sum := "99db7352fc195954f43fadce3d638de217aeaefed0184475851db46382999d8e", func := "crucible/cruciblelaw03.WholeLoose", spec := "wholeLoose", unfollowed := true, recurses := true, named := ["math/bits.overflowError"], apart := false }
def WholeLooseSaid : Prop := wholeLooseRow.holds Try.pinned (OpenSpec.ofChange wholeLooseSpec)

/-- ITS FALSE NEIGHBOUR: 'it returns false'. Refute it at one input. -/
def wholeLooseWrong : ChangeSpec := { name := "wholeLoose", fn := fun _ => fun
  | [d1, d2, d3] => { results := [.lit (.bool false)], args := [d1, d2, d3] }
  | _ => none }
def WholeLooseWrongFalsely : Prop := wholeLooseRow.holds Try.pinned (OpenSpec.ofChange wholeLooseWrong)

/-- 'cruciblelaw03.WholeOrder': WHATEVER THE INPUT: true; the input reads as it did. -/
def wholeOrderSpec : ChangeSpec := { name := "wholeOrder", fn := fun _ => fun
  | [d] => { results := [.lit (.bool true)], args := [d] }
  | _ => none }
def wholeOrderRow : OpenClaim := { program := "ytgnophflogmmaaa", sum := "99db7352fc195954f43fadce3d638de217aeaefed0184475851db46382999d8e", func := "crucible/cruciblelaw03.WholeOrder", spec := "wholeOrder", unfollowed := true, recurses := true, named := ["math/bits.overflowError"], apart := false }
def WholeOrderSaid : Prop := wholeOrderRow.holds Try.pinned (OpenSpec.ofChange wholeOrderSpec)

/-- ITS FALSE NEIGHBOUR: 'it returns false'. Refute it at one input. -/
def wholeOrderWrong : ChangeSpec := { name := "wholeOrder", fn := fun _ => fun
  | [d] => { results := [.lit (.bool false)], args := [d] }
  | _ => none }
def WholeOrderWrongFalsely : Prop := wholeOrderRow.holds Try.pinned (OpenSpec.ofChange wholeOrderWrong)

/- THE SECOND FORM. 'bulk': how many values and letters a reading holds, each counted each time it is reached (what is shared counts as often as it is met; a slice's spare places count too). A statement '..UptoSaid' is the law's where the arguments, and the package variables that the reading takes, are together of bulk at most 1048576: NARROWER than '..Said'. Prove '..Said' where nothing that the law and all that it calls make is longer than what came in: it says more and counts as full. Else prove '..UptoSaid'. A law counts once. -/
mutual
def uptoBulk {H : Type} : DataW H → Nat
  | .lit (.string bytes) => bytes.length + 1
  | .lit _ => 1
  | .nil => 1
  | .ptr d => uptoBulk d + 1
  | .slice elems spare => uptoBulkAll elems + uptoBulkAll spare + 1
  | .agg parts => uptoBulkAll parts + 1
  | .iface _ d => uptoBulk d + 1
  | .map entries => uptoBulkEntries entries + 1
  | .held _ => 1
def uptoBulkAll {H : Type} : List (DataW H) → Nat
  | [] => 0
  | d :: r => uptoBulk d + uptoBulkAll r
def uptoBulkEntries {H : Type} : List (Lit × DataW H) → Nat
  | [] => 0
  | x :: r => uptoBulkEntry x + uptoBulkEntries r
def uptoBulkEntry {H : Type} : Lit × DataW H → Nat
  | (.string bytes, d) => bytes.length + uptoBulk d + 1
  | (_, d) => uptoBulk d + 1
 end
def uptoSmall : (H : Type) → List (DataW H) → Bool := fun _ ds => decide (uptoBulkAll ds ≤ 1048576)
def OpenSpec.upto (s : _root_.Go.ChangeSpec) : _root_.Go.OpenSpec := { _root_.Go.OpenSpec.ofChange s with cond := some uptoSmall }

/-- 'cruciblelaw03.WholeQuotients', WHERE WHAT IT READS IS OF BULK AT MOST 1048576: true; the input reads as it did. -/
def wholeQuotientsUptoRow : OpenClaim := { program := "ytgnophflogmmaaa", sum := "99db7352fc195954f43fadce3d638de217aeaefed0184475851db46382999d8e", func := "crucible/cruciblelaw03.WholeQuotients", spec := "wholeQuotients", unfollowed := true, recurses := true, named := ["math/bits.overflowError"], apart := false, narrowed := true }
def WholeQuotientsUptoSaid : Prop := wholeQuotientsUptoRow.holds Try.pinned (OpenSpec.upto wholeQuotientsSpec)

/-- 'cruciblelaw03.WholeTells', WHERE WHAT IT READS IS OF BULK AT MOST 1048576: true; the input reads as it did. -/
def wholeTellsUptoRow : OpenClaim := { program := "ytgnophflogmmaaa", sum := "99db7352fc195954f43fadce3d638de217aeaefed0184475851db46382999d8e", func := "crucible/cruciblelaw03.WholeTells", spec := "wholeTells", unfollowed := true, recurses := true, named := ["math/bits.overflowError"], apart := false, narrowed := true }
def WholeTellsUptoSaid : Prop := wholeTellsUptoRow.holds Try.pinned (OpenSpec.upto wholeTellsSpec)

/-- 'cruciblelaw03.WholeTwos', WHERE WHAT IT READS IS OF BULK AT MOST 1048576: true; the input reads as it did. -/
def wholeTwosUptoRow : OpenClaim := { program := "ytgnophflogmmaaa", sum := "99db7352fc195954f43fadce3d638de217aeaefed0184475851db46382999d8e", func := "crucible/cruciblelaw03.WholeTwos", spec := "wholeTwos", unfollowed := true, recurses := true, named := ["math/bits.overflowError"], apart := false, narrowed := true }
def WholeTwosUptoSaid : Prop := wholeTwosUptoRow.holds Try.pinned (OpenSpec.upto wholeTwosSpec)

/-- 'cruciblelaw03.WholeSmall', WHERE WHAT IT READS IS OF BULK AT MOST 1048576: true; the input reads as it did. -/
def wholeSmallUptoRow : OpenClaim := { program := "ytgnophflogmmaaa", sum := "99db7352fc195954f43fadce3d638de217aeaefed0184475851db46382999d8e", func := "crucible/cruciblelaw03.WholeSmall", spec := "wholeSmall", unfollowed := true, recurses := true, named := ["math/bits.overflowError"], apart := false, narrowed := true }
def WholeSmallUptoSaid : Prop := wholeSmallUptoRow.holds Try.pinned (OpenSpec.upto wholeSmallSpec)

/-- 'cruciblelaw03.WholeLeft', WHERE WHAT IT READS IS OF BULK AT MOST 1048576: true; the input reads as it did. -/
def wholeLeftUptoRow : OpenClaim := { program := "ytgnophflogmmaaa", sum := "99db7352fc195954f43fadce3d638de217aeaefed0184475851db46382999d8e", func := "crucible/cruciblelaw03.WholeLeft", spec := "wholeLeft", unfollowed := true, recurses := true, named := ["math/bits.overflowError"], apart := false, narrowed := true }
def WholeLeftUptoSaid : Prop := wholeLeftUptoRow.holds Try.pinned (OpenSpec.upto wholeLeftSpec)

/-- 'cruciblelaw03.WholeBack', WHERE WHAT IT READS IS OF BULK AT MOST 1048576: true; the input reads as it did. -/
def wholeBackUptoRow : OpenClaim := { program := "ytgnophflogmmaaa", sum := "99db7352fc195954f43fadce3d638de217aeaefed0184475851db46382999d8e", func := "crucible/cruciblelaw03.WholeBack", spec := "wholeBack", unfollowed := true, recurses := true, named := ["math/bits.overflowError"], apart := false, narrowed := true }
def WholeBackUptoSaid : Prop := wholeBackUptoRow.holds Try.pinned (OpenSpec.upto wholeBackSpec)

/-- 'cruciblelaw03.WholeSums', WHERE WHAT IT READS IS OF BULK AT MOST 1048576: true; the input reads as it did. -/
def wholeSumsUptoRow : OpenClaim := { program := "ytgnophflogmmaaa", sum := "99db7352fc195954f43fadce3d638de217aeaefed0184475851db46382999d8e", func := "crucible/cruciblelaw03.WholeSums", spec := "wholeSums", unfollowed := true, recurses := true, named := ["math/bits.overflowError"], apart := false, narrowed := true }
def WholeSumsUptoSaid : Prop := wholeSumsUptoRow.holds Try.pinned (OpenSpec.upto wholeSumsSpec)

/-- 'cruciblelaw03.WholeRing', WHERE WHAT IT READS IS OF BULK AT MOST 1048576: true; the input reads as it did. -/
def wholeRingUptoRow : OpenClaim := { program := "ytgnophflogmmaaa", sum := "99db7352fc195954f43fadce3d638de217aeaefed0184475851db46382999d8e", func := "crucible/cruciblelaw03.WholeRing", spec := "wholeRing", unfollowed := true, recurses := true, named := ["math/bits.overflowError"], apart := false, narrowed := true }
def WholeRingUptoSaid : Prop := wholeRingUptoRow.holds Try.pinned (OpenSpec.upto wholeRingSpec)

/-- 'cruciblelaw03.WholeBytes', WHERE WHAT IT READS IS OF BULK AT MOST 1048576: true; the input reads as it did. -/
def wholeBytesUptoRow : OpenClaim := { program := "ytgnophflogmmaaa", sum := "99db7352fc195954f43fadce3d638de217aeaefed0184475851db46382999d8e", func := "crucible/cruciblelaw03.WholeBytes", spec := "wholeBytes", unfollowed := true, recurses := true, named := ["math/bits.overflowError"], apart := false, narrowed := true }
def WholeBytesUptoSaid : Prop := wholeBytesUptoRow.holds Try.pinned (OpenSpec.upto wholeBytesSpec)

/-- 'cruciblelaw03.WholeLoose', WHERE WHAT IT READS IS OF BULK AT MOST 1048576: true; the input reads as it did. -/
def wholeLooseUptoRow : OpenClaim := { program := "ytgnophflogmmaaa", sum := "99db7352fc195954f43fadce3d638de217aeaefed0184475851db46382999d8e", func := "crucible/cruciblelaw03.WholeLoose", spec := "wholeLoose", unfollowed := true, recurses := true, named := ["math/bits.overflowError"], apart := false, narrowed := true }
def WholeLooseUptoSaid : Prop := wholeLooseUptoRow.holds Try.pinned (OpenSpec.upto wholeLooseSpec)

/-- 'cruciblelaw03.WholeOrder', WHERE WHAT IT READS IS OF BULK AT MOST 1048576: true; the input reads as it did. -/
def wholeOrderUptoRow : OpenClaim := { program := "ytgnophflogmmaaa", sum := "99db7352fc195954f43fadce3d638de217aeaefed0184475851db46382999d8e", func := "crucible/cruciblelaw03.WholeOrder", spec := "wholeOrder", unfollowed := true, recurses := true, named := ["math/bits.overflowError"], apart := false, narrowed := true }
def WholeOrderUptoSaid : Prop := wholeOrderUptoRow.holds Try.pinned (OpenSpec.upto wholeOrderSpec)

end Rows
end Go.Proofs.Ytgnophflogmmaaa
