/-
  DERIVED. GIVEN WITH THE SEED: THE CARDS: each row of YtbcbmkeeoognpaaGreatDoorRows.lean that lists a variable, with what it lists TIED to the program's text (the seventh form; the later family's looks); each row that meets fmt, with fmt's text TOLD by the authors' own Lean function (tested against real Go, not proved from fmt's source: count such statements apart). THE CARD IS WHAT COUNTS. Prove the row's statement (the work); the ties are given (YtbcbmkeeoognpaaGreatDoorTie.lean); close each card by the builder's one call (the guide's Derived/Test/ToyasCard.lean, 'card_holds'). Laid BY PROGRAM, IN A SANDBOX (cutbox-door.mjs). By AI agents, Wed Nov 11 2026. No macro, syntax, notation, axiom, sorry.
-/
import Derived.Test.YtbcbmkeeoognpaaGreatDoorRows
import GoSem.ClaimSeven
namespace Go.Proofs.YtbcbmkeeoognpaaGreatDoor
namespace Rows

/-- THE TIED CARD OF 'cruciblelaw01.NatOwn'. -/
def natOwnCard : Claim7 := { stood := { row := natOwnRow, standIns := [], harness := (true, "274528956cbe7052a9a89cc2feab8f72d5433108c93e529344c80184b21f8dc1"), looks := true }, kinds := [], alts := [], laidByText := true, laidKinds := [.data, .data, .data], laidTests := true, laidLooks := .later }
def NatOwnCardSaid : Prop := Claim7.holds Tryz.pinned (.plain (OpenSpec.ofChange natOwnSpec)) natOwnCard

/-- THE TIED CARD OF 'cruciblelaw04.IeeeOwn'. -/
def ieeeOwnCard : Claim7 := { stood := { row := ieeeOwnRow, standIns := [], harness := (true, "274528956cbe7052a9a89cc2feab8f72d5433108c93e529344c80184b21f8dc1"), looks := true }, kinds := [], alts := [], laidByText := true, laidKinds := [.data, .data, .data, .data], laidTests := true, laidLooks := .later }
def IeeeOwnCardSaid : Prop := Claim7.holds Tryz.pinned (.plain (OpenSpec.ofChange ieeeOwnSpec)) ieeeOwnCard

/-- THE TIED CARD OF 'cruciblelaw02.QuotDivs'. -/
def quotDivsCard : Claim7 := { stood := { row := quotDivsRow, standIns := [], harness := (true, "274528956cbe7052a9a89cc2feab8f72d5433108c93e529344c80184b21f8dc1"), looks := true }, kinds := [], alts := [], laidByText := true, laidKinds := [.data, .data, .data], laidTests := true, laidLooks := .later }
def QuotDivsCardSaid : Prop := Claim7.holds Tryz.pinned (.plain (OpenSpec.ofChange quotDivsSpec)) quotDivsCard

/-- THE TIED CARD OF 'cruciblelaw02.QuotCommon'. -/
def quotCommonCard : Claim7 := { stood := { row := quotCommonRow, standIns := [], harness := (true, "274528956cbe7052a9a89cc2feab8f72d5433108c93e529344c80184b21f8dc1"), looks := true }, kinds := [], alts := [], laidByText := true, laidKinds := [.data, .data, .data], laidTests := true, laidLooks := .later }
def QuotCommonCardSaid : Prop := Claim7.holds Tryz.pinned (.plain (OpenSpec.ofChange quotCommonSpec)) quotCommonCard

/-- THE TIED CARD OF 'cruciblelaw02.QuotPowers'. -/
def quotPowersCard : Claim7 := { stood := { row := quotPowersRow, standIns := [], harness := (true, "274528956cbe7052a9a89cc2feab8f72d5433108c93e529344c80184b21f8dc1"), looks := true }, kinds := [], alts := [], laidByText := true, laidKinds := [.data, .data, .data], laidTests := true, laidLooks := .later }
def QuotPowersCardSaid : Prop := Claim7.holds Tryz.pinned (.plain (OpenSpec.ofChange quotPowersSpec)) quotPowersCard

/-- THE TIED CARD OF 'cruciblelaw02.QuotDigits'. -/
def quotDigitsCard : Claim7 := { stood := { row := quotDigitsRow, standIns := [], harness := (true, "274528956cbe7052a9a89cc2feab8f72d5433108c93e529344c80184b21f8dc1"), looks := true }, kinds := [], alts := [], laidByText := true, laidKinds := [.data, .data, .data], laidTests := true, laidLooks := .later }
def QuotDigitsCardSaid : Prop := Claim7.holds Tryz.pinned (.plain (OpenSpec.ofChange quotDigitsSpec)) quotDigitsCard

/-- THE TIED CARD OF 'cruciblelaw02.QuotBytes'. -/
def quotBytesCard : Claim7 := { stood := { row := quotBytesRow, standIns := [], harness := (true, "274528956cbe7052a9a89cc2feab8f72d5433108c93e529344c80184b21f8dc1"), looks := true }, kinds := [], alts := [], laidByText := true, laidKinds := [.data, .data, .data], laidTests := true, laidLooks := .later }
def QuotBytesCardSaid : Prop := Claim7.holds Tryz.pinned (.plain (OpenSpec.ofChange quotBytesSpec)) quotBytesCard

/-- THE TIED CARD OF 'cruciblelaw03.WholeOwn'. -/
def wholeOwnCard : Claim7 := { stood := { row := wholeOwnRow, standIns := [], harness := (true, "274528956cbe7052a9a89cc2feab8f72d5433108c93e529344c80184b21f8dc1"), looks := true }, kinds := [], alts := [], laidByText := true, laidKinds := [.data, .data, .data], laidTests := true, laidLooks := .later }
def WholeOwnCardSaid : Prop := Claim7.holds Tryz.pinned (.plain (OpenSpec.ofChange wholeOwnSpec)) wholeOwnCard

/-- THE TIED CARD OF 'cruciblelaw15.NumberOwn'. -/
def numberOwnCard : Claim7 := { stood := { row := numberOwnRow, standIns := [], harness := (true, "274528956cbe7052a9a89cc2feab8f72d5433108c93e529344c80184b21f8dc1"), looks := true }, kinds := [], alts := [], laidByText := true, laidKinds := [.data, .data, .data, .sentinel, .sentinel, .data], laidTests := true, laidLooks := .later }
def NumberOwnCardSaid : Prop := Claim7.holds Tryz.pinned (.plain (OpenSpec.ofChange numberOwnSpec)) numberOwnCard

/-- THE SECOND FORM's CARD OF 'cruciblelaw01.NatOwn'. -/
def natOwnUptoCard : Claim7 := { stood := { row := natOwnUptoRow, standIns := [], harness := (true, "274528956cbe7052a9a89cc2feab8f72d5433108c93e529344c80184b21f8dc1"), looks := true }, kinds := [], alts := [], laidByText := true, laidKinds := [.data, .data, .data], laidTests := true, laidLooks := .later }
def NatOwnUptoCardSaid : Prop := Claim7.holds Tryz.pinned (.plain (OpenSpec.upto natOwnSpec)) natOwnUptoCard

/-- THE SECOND FORM's CARD OF 'cruciblelaw04.IeeeOwn'. -/
def ieeeOwnUptoCard : Claim7 := { stood := { row := ieeeOwnUptoRow, standIns := [], harness := (true, "274528956cbe7052a9a89cc2feab8f72d5433108c93e529344c80184b21f8dc1"), looks := true }, kinds := [], alts := [], laidByText := true, laidKinds := [.data, .data, .data, .data], laidTests := true, laidLooks := .later }
def IeeeOwnUptoCardSaid : Prop := Claim7.holds Tryz.pinned (.plain (OpenSpec.upto ieeeOwnSpec)) ieeeOwnUptoCard

/-- THE SECOND FORM's CARD OF 'cruciblelaw02.QuotDivs'. -/
def quotDivsUptoCard : Claim7 := { stood := { row := quotDivsUptoRow, standIns := [], harness := (true, "274528956cbe7052a9a89cc2feab8f72d5433108c93e529344c80184b21f8dc1"), looks := true }, kinds := [], alts := [], laidByText := true, laidKinds := [.data, .data, .data], laidTests := true, laidLooks := .later }
def QuotDivsUptoCardSaid : Prop := Claim7.holds Tryz.pinned (.plain (OpenSpec.upto quotDivsSpec)) quotDivsUptoCard

/-- THE SECOND FORM's CARD OF 'cruciblelaw02.QuotCommon'. -/
def quotCommonUptoCard : Claim7 := { stood := { row := quotCommonUptoRow, standIns := [], harness := (true, "274528956cbe7052a9a89cc2feab8f72d5433108c93e529344c80184b21f8dc1"), looks := true }, kinds := [], alts := [], laidByText := true, laidKinds := [.data, .data, .data], laidTests := true, laidLooks := .later }
def QuotCommonUptoCardSaid : Prop := Claim7.holds Tryz.pinned (.plain (OpenSpec.upto quotCommonSpec)) quotCommonUptoCard

/-- THE SECOND FORM's CARD OF 'cruciblelaw02.QuotPowers'. -/
def quotPowersUptoCard : Claim7 := { stood := { row := quotPowersUptoRow, standIns := [], harness := (true, "274528956cbe7052a9a89cc2feab8f72d5433108c93e529344c80184b21f8dc1"), looks := true }, kinds := [], alts := [], laidByText := true, laidKinds := [.data, .data, .data], laidTests := true, laidLooks := .later }
def QuotPowersUptoCardSaid : Prop := Claim7.holds Tryz.pinned (.plain (OpenSpec.upto quotPowersSpec)) quotPowersUptoCard

/-- THE SECOND FORM's CARD OF 'cruciblelaw02.QuotDigits'. -/
def quotDigitsUptoCard : Claim7 := { stood := { row := quotDigitsUptoRow, standIns := [], harness := (true, "274528956cbe7052a9a89cc2feab8f72d5433108c93e529344c80184b21f8dc1"), looks := true }, kinds := [], alts := [], laidByText := true, laidKinds := [.data, .data, .data], laidTests := true, laidLooks := .later }
def QuotDigitsUptoCardSaid : Prop := Claim7.holds Tryz.pinned (.plain (OpenSpec.upto quotDigitsSpec)) quotDigitsUptoCard

/-- THE SECOND FORM's CARD OF 'cruciblelaw02.QuotBytes'. -/
def quotBytesUptoCard : Claim7 := { stood := { row := quotBytesUptoRow, standIns := [], harness := (true, "274528956cbe7052a9a89cc2feab8f72d5433108c93e529344c80184b21f8dc1"), looks := true }, kinds := [], alts := [], laidByText := true, laidKinds := [.data, .data, .data], laidTests := true, laidLooks := .later }
def QuotBytesUptoCardSaid : Prop := Claim7.holds Tryz.pinned (.plain (OpenSpec.upto quotBytesSpec)) quotBytesUptoCard

/-- THE SECOND FORM's CARD OF 'cruciblelaw03.WholeOwn'. -/
def wholeOwnUptoCard : Claim7 := { stood := { row := wholeOwnUptoRow, standIns := [], harness := (true, "274528956cbe7052a9a89cc2feab8f72d5433108c93e529344c80184b21f8dc1"), looks := true }, kinds := [], alts := [], laidByText := true, laidKinds := [.data, .data, .data], laidTests := true, laidLooks := .later }
def WholeOwnUptoCardSaid : Prop := Claim7.holds Tryz.pinned (.plain (OpenSpec.upto wholeOwnSpec)) wholeOwnUptoCard

/-- THE SECOND FORM's CARD OF 'cruciblelaw15.NumberOwn'. -/
def numberOwnUptoCard : Claim7 := { stood := { row := numberOwnUptoRow, standIns := [], harness := (true, "274528956cbe7052a9a89cc2feab8f72d5433108c93e529344c80184b21f8dc1"), looks := true }, kinds := [], alts := [], laidByText := true, laidKinds := [.data, .data, .data, .sentinel, .sentinel, .data], laidTests := true, laidLooks := .later }
def NumberOwnUptoCardSaid : Prop := Claim7.holds Tryz.pinned (.plain (OpenSpec.upto numberOwnSpec)) numberOwnUptoCard
end Rows
end Go.Proofs.YtbcbmkeeoognpaaGreatDoor
