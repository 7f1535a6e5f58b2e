/-
  DERIVED. GIVEN WITH THE SEED: THE CARDS: each row of YtmnabilgpndjmaaDoorRows.lean that lists a variable, with what it lists TIED to the program's text (the seventh form; the later family's looks); each row that meets fmt, with fmt's text TOLD by the authors' own Lean function (tested against real Go, not proved from fmt's source: count such statements apart). THE CARD IS WHAT COUNTS. Prove the row's statement (the work); the ties are given (YtmnabilgpndjmaaDoorTie.lean); close each card by the builder's one call (the guide's Derived/Test/ToyasCard.lean, 'card_holds'). Laid BY PROGRAM, IN A SANDBOX (cutbox-door.mjs). By AI agents, Wed Nov 11 2026. No macro, syntax, notation, axiom, sorry.
-/
import Derived.Test.YtmnabilgpndjmaaDoorRows
import GoSem.ClaimSeven
namespace Go.Proofs.YtmnabilgpndjmaaDoor
namespace Rows

/-- THE TIED CARD OF 'cruciblelaw04.IeeeOrders'. -/
def ieeeOrdersCard : Claim7 := { stood := { row := ieeeOrdersRow, standIns := [], harness := (true, "629894a1a774dfe94404457d13fc45e1003bb9539ae0943f106d988d4231f1bc"), looks := false }, kinds := [], alts := [], laidByText := true, laidKinds := [.data], laidTests := true, laidLooks := .later }
def IeeeOrdersCardSaid : Prop := Claim7.holds Tryd.pinned (.plain (OpenSpec.ofChange ieeeOrdersSpec)) ieeeOrdersCard

/-- THE TIED CARD OF 'cruciblelaw04.IeeeRounds'. -/
def ieeeRoundsCard : Claim7 := { stood := { row := ieeeRoundsRow, standIns := [], harness := (true, "629894a1a774dfe94404457d13fc45e1003bb9539ae0943f106d988d4231f1bc"), looks := false }, kinds := [], alts := [], laidByText := true, laidKinds := [.data], laidTests := true, laidLooks := .later }
def IeeeRoundsCardSaid : Prop := Claim7.holds Tryd.pinned (.plain (OpenSpec.ofChange ieeeRoundsSpec)) ieeeRoundsCard

/-- THE TIED CARD OF 'cruciblelaw04.IeeeParts'. -/
def ieeePartsCard : Claim7 := { stood := { row := ieeePartsRow, standIns := [], harness := (true, "629894a1a774dfe94404457d13fc45e1003bb9539ae0943f106d988d4231f1bc"), looks := false }, kinds := [], alts := [], laidByText := true, laidKinds := [.data, .data], laidTests := true, laidLooks := .later }
def IeeePartsCardSaid : Prop := Claim7.holds Tryd.pinned (.plain (OpenSpec.ofChange ieeePartsSpec)) ieeePartsCard

/-- THE TIED CARD OF 'cruciblelaw04.IeeeRises'. -/
def ieeeRisesCard : Claim7 := { stood := { row := ieeeRisesRow, standIns := [], harness := (true, "629894a1a774dfe94404457d13fc45e1003bb9539ae0943f106d988d4231f1bc"), looks := false }, kinds := [], alts := [], laidByText := true, laidKinds := [.data, .data], laidTests := true, laidLooks := .later }
def IeeeRisesCardSaid : Prop := Claim7.holds Tryd.pinned (.plain (OpenSpec.ofChange ieeeRisesSpec)) ieeeRisesCard

/-- THE TIED CARD OF 'cruciblelaw04.IeeeWidths'. -/
def ieeeWidthsCard : Claim7 := { stood := { row := ieeeWidthsRow, standIns := [], harness := (true, "629894a1a774dfe94404457d13fc45e1003bb9539ae0943f106d988d4231f1bc"), looks := false }, kinds := [], alts := [], laidByText := true, laidKinds := [.data, .data], laidTests := true, laidLooks := .later }
def IeeeWidthsCardSaid : Prop := Claim7.holds Tryd.pinned (.plain (OpenSpec.ofChange ieeeWidthsSpec)) ieeeWidthsCard

/-- THE TIED CARD OF 'cruciblelaw04.IeeeMore'. -/
def ieeeMoreCard : Claim7 := { stood := { row := ieeeMoreRow, standIns := [], harness := (true, "629894a1a774dfe94404457d13fc45e1003bb9539ae0943f106d988d4231f1bc"), looks := false }, kinds := [], alts := [], laidByText := true, laidKinds := [.data, .data], laidTests := true, laidLooks := .later }
def IeeeMoreCardSaid : Prop := Claim7.holds Tryd.pinned (.plain (OpenSpec.ofChange ieeeMoreSpec)) ieeeMoreCard

/-- THE TIED CARD OF 'cruciblelaw04.IeeeNearest'. -/
def ieeeNearestCard : Claim7 := { stood := { row := ieeeNearestRow, standIns := [], harness := (true, "629894a1a774dfe94404457d13fc45e1003bb9539ae0943f106d988d4231f1bc"), looks := false }, kinds := [], alts := [], laidByText := true, laidKinds := [.data, .data], laidTests := true, laidLooks := .later }
def IeeeNearestCardSaid : Prop := Claim7.holds Tryd.pinned (.plain (OpenSpec.ofChange ieeeNearestSpec)) ieeeNearestCard

/-- THE TIED CARD OF 'cruciblelaw04.IeeeSteps'. -/
def ieeeStepsCard : Claim7 := { stood := { row := ieeeStepsRow, standIns := [], harness := (true, "629894a1a774dfe94404457d13fc45e1003bb9539ae0943f106d988d4231f1bc"), looks := false }, kinds := [], alts := [], laidByText := true, laidKinds := [.data, .data], laidTests := true, laidLooks := .later }
def IeeeStepsCardSaid : Prop := Claim7.holds Tryd.pinned (.plain (OpenSpec.ofChange ieeeStepsSpec)) ieeeStepsCard

/-- THE TIED CARD OF 'cruciblelaw04.IeeeSorted'. -/
def ieeeSortedCard : Claim7 := { stood := { row := ieeeSortedRow, standIns := [], harness := (true, "629894a1a774dfe94404457d13fc45e1003bb9539ae0943f106d988d4231f1bc"), looks := false }, kinds := [], alts := [], laidByText := true, laidKinds := [.data, .data], laidTests := true, laidLooks := .later }
def IeeeSortedCardSaid : Prop := Claim7.holds Tryd.pinned (.plain (OpenSpec.ofChange ieeeSortedSpec)) ieeeSortedCard

/-- THE TIED CARD OF 'cruciblelaw04.IeeeWhole'. -/
def ieeeWholeCard : Claim7 := { stood := { row := ieeeWholeRow, standIns := [], harness := (true, "629894a1a774dfe94404457d13fc45e1003bb9539ae0943f106d988d4231f1bc"), looks := false }, kinds := [], alts := [], laidByText := true, laidKinds := [.data, .data], laidTests := true, laidLooks := .later }
def IeeeWholeCardSaid : Prop := Claim7.holds Tryd.pinned (.plain (OpenSpec.ofChange ieeeWholeSpec)) ieeeWholeCard

/-- THE TIED CARD OF 'cruciblelaw04.IeeeBack'. -/
def ieeeBackCard : Claim7 := { stood := { row := ieeeBackRow, standIns := [], harness := (true, "629894a1a774dfe94404457d13fc45e1003bb9539ae0943f106d988d4231f1bc"), looks := false }, kinds := [], alts := [], laidByText := true, laidKinds := [.data, .data], laidTests := true, laidLooks := .later }
def IeeeBackCardSaid : Prop := Claim7.holds Tryd.pinned (.plain (OpenSpec.ofChange ieeeBackSpec)) ieeeBackCard

/-- THE SECOND FORM's CARD OF 'cruciblelaw04.IeeeOrders'. -/
def ieeeOrdersUptoCard : Claim7 := { stood := { row := ieeeOrdersUptoRow, standIns := [], harness := (true, "629894a1a774dfe94404457d13fc45e1003bb9539ae0943f106d988d4231f1bc"), looks := false }, kinds := [], alts := [], laidByText := true, laidKinds := [.data], laidTests := true, laidLooks := .later }
def IeeeOrdersUptoCardSaid : Prop := Claim7.holds Tryd.pinned (.plain (OpenSpec.upto ieeeOrdersSpec)) ieeeOrdersUptoCard

/-- THE SECOND FORM's CARD OF 'cruciblelaw04.IeeeRounds'. -/
def ieeeRoundsUptoCard : Claim7 := { stood := { row := ieeeRoundsUptoRow, standIns := [], harness := (true, "629894a1a774dfe94404457d13fc45e1003bb9539ae0943f106d988d4231f1bc"), looks := false }, kinds := [], alts := [], laidByText := true, laidKinds := [.data], laidTests := true, laidLooks := .later }
def IeeeRoundsUptoCardSaid : Prop := Claim7.holds Tryd.pinned (.plain (OpenSpec.upto ieeeRoundsSpec)) ieeeRoundsUptoCard

/-- THE SECOND FORM's CARD OF 'cruciblelaw04.IeeeParts'. -/
def ieeePartsUptoCard : Claim7 := { stood := { row := ieeePartsUptoRow, standIns := [], harness := (true, "629894a1a774dfe94404457d13fc45e1003bb9539ae0943f106d988d4231f1bc"), looks := false }, kinds := [], alts := [], laidByText := true, laidKinds := [.data, .data], laidTests := true, laidLooks := .later }
def IeeePartsUptoCardSaid : Prop := Claim7.holds Tryd.pinned (.plain (OpenSpec.upto ieeePartsSpec)) ieeePartsUptoCard

/-- THE SECOND FORM's CARD OF 'cruciblelaw04.IeeeRises'. -/
def ieeeRisesUptoCard : Claim7 := { stood := { row := ieeeRisesUptoRow, standIns := [], harness := (true, "629894a1a774dfe94404457d13fc45e1003bb9539ae0943f106d988d4231f1bc"), looks := false }, kinds := [], alts := [], laidByText := true, laidKinds := [.data, .data], laidTests := true, laidLooks := .later }
def IeeeRisesUptoCardSaid : Prop := Claim7.holds Tryd.pinned (.plain (OpenSpec.upto ieeeRisesSpec)) ieeeRisesUptoCard

/-- THE SECOND FORM's CARD OF 'cruciblelaw04.IeeeWidths'. -/
def ieeeWidthsUptoCard : Claim7 := { stood := { row := ieeeWidthsUptoRow, standIns := [], harness := (true, "629894a1a774dfe94404457d13fc45e1003bb9539ae0943f106d988d4231f1bc"), looks := false }, kinds := [], alts := [], laidByText := true, laidKinds := [.data, .data], laidTests := true, laidLooks := .later }
def IeeeWidthsUptoCardSaid : Prop := Claim7.holds Tryd.pinned (.plain (OpenSpec.upto ieeeWidthsSpec)) ieeeWidthsUptoCard

/-- THE SECOND FORM's CARD OF 'cruciblelaw04.IeeeMore'. -/
def ieeeMoreUptoCard : Claim7 := { stood := { row := ieeeMoreUptoRow, standIns := [], harness := (true, "629894a1a774dfe94404457d13fc45e1003bb9539ae0943f106d988d4231f1bc"), looks := false }, kinds := [], alts := [], laidByText := true, laidKinds := [.data, .data], laidTests := true, laidLooks := .later }
def IeeeMoreUptoCardSaid : Prop := Claim7.holds Tryd.pinned (.plain (OpenSpec.upto ieeeMoreSpec)) ieeeMoreUptoCard

/-- THE SECOND FORM's CARD OF 'cruciblelaw04.IeeeNearest'. -/
def ieeeNearestUptoCard : Claim7 := { stood := { row := ieeeNearestUptoRow, standIns := [], harness := (true, "629894a1a774dfe94404457d13fc45e1003bb9539ae0943f106d988d4231f1bc"), looks := false }, kinds := [], alts := [], laidByText := true, laidKinds := [.data, .data], laidTests := true, laidLooks := .later }
def IeeeNearestUptoCardSaid : Prop := Claim7.holds Tryd.pinned (.plain (OpenSpec.upto ieeeNearestSpec)) ieeeNearestUptoCard

/-- THE SECOND FORM's CARD OF 'cruciblelaw04.IeeeSteps'. -/
def ieeeStepsUptoCard : Claim7 := { stood := { row := ieeeStepsUptoRow, standIns := [], harness := (true, "629894a1a774dfe94404457d13fc45e1003bb9539ae0943f106d988d4231f1bc"), looks := false }, kinds := [], alts := [], laidByText := true, laidKinds := [.data, .data], laidTests := true, laidLooks := .later }
def IeeeStepsUptoCardSaid : Prop := Claim7.holds Tryd.pinned (.plain (OpenSpec.upto ieeeStepsSpec)) ieeeStepsUptoCard

/-- THE SECOND FORM's CARD OF 'cruciblelaw04.IeeeSorted'. -/
def ieeeSortedUptoCard : Claim7 := { stood := { row := ieeeSortedUptoRow, standIns := [], harness := (true, "629894a1a774dfe94404457d13fc45e1003bb9539ae0943f106d988d4231f1bc"), looks := false }, kinds := [], alts := [], laidByText := true, laidKinds := [.data, .data], laidTests := true, laidLooks := .later }
def IeeeSortedUptoCardSaid : Prop := Claim7.holds Tryd.pinned (.plain (OpenSpec.upto ieeeSortedSpec)) ieeeSortedUptoCard

/-- THE SECOND FORM's CARD OF 'cruciblelaw04.IeeeWhole'. -/
def ieeeWholeUptoCard : Claim7 := { stood := { row := ieeeWholeUptoRow, standIns := [], harness := (true, "629894a1a774dfe94404457d13fc45e1003bb9539ae0943f106d988d4231f1bc"), looks := false }, kinds := [], alts := [], laidByText := true, laidKinds := [.data, .data], laidTests := true, laidLooks := .later }
def IeeeWholeUptoCardSaid : Prop := Claim7.holds Tryd.pinned (.plain (OpenSpec.upto ieeeWholeSpec)) ieeeWholeUptoCard

/-- THE SECOND FORM's CARD OF 'cruciblelaw04.IeeeBack'. -/
def ieeeBackUptoCard : Claim7 := { stood := { row := ieeeBackUptoRow, standIns := [], harness := (true, "629894a1a774dfe94404457d13fc45e1003bb9539ae0943f106d988d4231f1bc"), looks := false }, kinds := [], alts := [], laidByText := true, laidKinds := [.data, .data], laidTests := true, laidLooks := .later }
def IeeeBackUptoCardSaid : Prop := Claim7.holds Tryd.pinned (.plain (OpenSpec.upto ieeeBackSpec)) ieeeBackUptoCard
end Rows
end Go.Proofs.YtmnabilgpndjmaaDoor
