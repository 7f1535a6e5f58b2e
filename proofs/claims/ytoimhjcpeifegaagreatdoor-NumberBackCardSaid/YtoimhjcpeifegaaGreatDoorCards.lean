/-
  DERIVED. GIVEN WITH THE SEED: THE CARDS: each row of YtoimhjcpeifegaaGreatDoorRows.lean that lists a variable, with what it lists TIED to the program's text (the seventh form; the later family's looks); each row that meets fmt, with fmt's text TOLD by the authors' own Lean function (tested against real Go, not proved from fmt's source: count such statements apart). THE CARD IS WHAT COUNTS. Prove the row's statement (the work); the ties are given (YtoimhjcpeifegaaGreatDoorTie.lean); close each card by the builder's one call (the guide's Derived/Test/ToyasCard.lean, 'card_holds'). Laid BY PROGRAM, IN A SANDBOX (cutbox-door.mjs). By AI agents, Wed Nov 11 2026. No macro, syntax, notation, axiom, sorry.
-/
import Derived.Test.YtoimhjcpeifegaaGreatDoorRows
import GoSem.ClaimSeven
namespace Go.Proofs.YtoimhjcpeifegaaGreatDoor
namespace Rows

/-- THE TIED CARD OF 'crucibletop.TopWidths'. -/
def topWidthsCard : Claim7 := { stood := { row := topWidthsRow, standIns := [], harness := (true, "ef889ed5b81c13ef2f5ac6515846a341e5f5422dab7e25d5b7905b6087335168"), looks := true }, kinds := [], alts := [], laidByText := true, laidKinds := [.data, .data, .data, .sentinel, .sentinel, .data], laidTests := true, laidLooks := .later }
def TopWidthsCardSaid : Prop := Claim7.holds Tryz.pinned (.plain (OpenSpec.ofChange topWidthsSpec)) topWidthsCard

/-- THE TIED CARD OF 'cruciblelaw15.NumberBits'. -/
def numberBitsCard : Claim7 := { stood := { row := numberBitsRow, standIns := [], harness := (true, "ef889ed5b81c13ef2f5ac6515846a341e5f5422dab7e25d5b7905b6087335168"), looks := true }, kinds := [], alts := [], laidByText := true, laidKinds := [.data, .data, .data, .sentinel, .sentinel, .data], laidTests := true, laidLooks := .later }
def NumberBitsCardSaid : Prop := Claim7.holds Tryz.pinned (.plain (OpenSpec.ofChange numberBitsSpec)) numberBitsCard

/-- THE TIED CARD OF 'cruciblelaw15.NumberCmp'. -/
def numberCmpCard : Claim7 := { stood := { row := numberCmpRow, standIns := [], harness := (true, "ef889ed5b81c13ef2f5ac6515846a341e5f5422dab7e25d5b7905b6087335168"), looks := true }, kinds := [], alts := [], laidByText := true, laidKinds := [.data, .data, .data, .sentinel, .sentinel, .data], laidTests := true, laidLooks := .later }
def NumberCmpCardSaid : Prop := Claim7.holds Tryz.pinned (.plain (OpenSpec.ofChange numberCmpSpec)) numberCmpCard

/-- THE TIED CARD OF 'cruciblelaw15.NumberNarrow'. -/
def numberNarrowCard : Claim7 := { stood := { row := numberNarrowRow, standIns := [], harness := (true, "ef889ed5b81c13ef2f5ac6515846a341e5f5422dab7e25d5b7905b6087335168"), looks := true }, kinds := [], alts := [], laidByText := true, laidKinds := [.data, .data, .data, .sentinel, .sentinel, .data], laidTests := true, laidLooks := .later }
def NumberNarrowCardSaid : Prop := Claim7.holds Tryz.pinned (.plain (OpenSpec.ofChange numberNarrowSpec)) numberNarrowCard

/-- THE TIED CARD OF 'cruciblelaw15.NumberNone'. -/
def numberNoneCard : Claim7 := { stood := { row := numberNoneRow, standIns := [], harness := (true, "ef889ed5b81c13ef2f5ac6515846a341e5f5422dab7e25d5b7905b6087335168"), looks := true }, kinds := [], alts := [], laidByText := true, laidKinds := [.data, .data, .data, .sentinel, .sentinel, .data], laidTests := true, laidLooks := .later }
def NumberNoneCardSaid : Prop := Claim7.holds Tryz.pinned (.plain (OpenSpec.ofChange numberNoneSpec)) numberNoneCard

/-- THE TIED CARD OF 'cruciblelaw15.NumberOf'. -/
def numberOfCard : Claim7 := { stood := { row := numberOfRow, standIns := [], harness := (true, "ef889ed5b81c13ef2f5ac6515846a341e5f5422dab7e25d5b7905b6087335168"), looks := true }, kinds := [], alts := [], laidByText := true, laidKinds := [.data, .data, .data, .sentinel, .sentinel, .data], laidTests := true, laidLooks := .later }
def NumberOfCardSaid : Prop := Claim7.holds Tryz.pinned (.plain (OpenSpec.ofChange numberOfSpec)) numberOfCard

/-- THE TIED CARD OF 'cruciblelaw15.NumberBack'. -/
def numberBackCard : Claim7 := { stood := { row := numberBackRow, standIns := [], harness := (true, "ef889ed5b81c13ef2f5ac6515846a341e5f5422dab7e25d5b7905b6087335168"), looks := true }, kinds := [], alts := [], laidByText := true, laidKinds := [.data, .data, .data, .sentinel, .sentinel, .data], laidTests := true, laidLooks := .later }
def NumberBackCardSaid : Prop := Claim7.holds Tryz.pinned (.plain (OpenSpec.ofChange numberBackSpec)) numberBackCard

/-- THE TIED CARD OF 'cruciblelaw15.NumberOne'. -/
def numberOneCard : Claim7 := { stood := { row := numberOneRow, standIns := [], harness := (true, "ef889ed5b81c13ef2f5ac6515846a341e5f5422dab7e25d5b7905b6087335168"), looks := true }, kinds := [], alts := [], laidByText := true, laidKinds := [.data, .data, .data, .sentinel, .sentinel, .data], laidTests := true, laidLooks := .later }
def NumberOneCardSaid : Prop := Claim7.holds Tryz.pinned (.plain (OpenSpec.ofChange numberOneSpec)) numberOneCard

/-- THE TIED CARD OF 'cruciblelaw15.NumberOrder'. -/
def numberOrderCard : Claim7 := { stood := { row := numberOrderRow, standIns := [], harness := (true, "ef889ed5b81c13ef2f5ac6515846a341e5f5422dab7e25d5b7905b6087335168"), looks := true }, kinds := [], alts := [], laidByText := true, laidKinds := [.data, .data, .data, .sentinel, .sentinel, .data], laidTests := true, laidLooks := .later }
def NumberOrderCardSaid : Prop := Claim7.holds Tryz.pinned (.plain (OpenSpec.ofChange numberOrderSpec)) numberOrderCard

/-- THE SECOND FORM's CARD OF 'crucibletop.TopWidths'. -/
def topWidthsUptoCard : Claim7 := { stood := { row := topWidthsUptoRow, standIns := [], harness := (true, "ef889ed5b81c13ef2f5ac6515846a341e5f5422dab7e25d5b7905b6087335168"), looks := true }, kinds := [], alts := [], laidByText := true, laidKinds := [.data, .data, .data, .sentinel, .sentinel, .data], laidTests := true, laidLooks := .later }
def TopWidthsUptoCardSaid : Prop := Claim7.holds Tryz.pinned (.plain (OpenSpec.upto topWidthsSpec)) topWidthsUptoCard

/-- THE SECOND FORM's CARD OF 'cruciblelaw15.NumberBits'. -/
def numberBitsUptoCard : Claim7 := { stood := { row := numberBitsUptoRow, standIns := [], harness := (true, "ef889ed5b81c13ef2f5ac6515846a341e5f5422dab7e25d5b7905b6087335168"), looks := true }, kinds := [], alts := [], laidByText := true, laidKinds := [.data, .data, .data, .sentinel, .sentinel, .data], laidTests := true, laidLooks := .later }
def NumberBitsUptoCardSaid : Prop := Claim7.holds Tryz.pinned (.plain (OpenSpec.upto numberBitsSpec)) numberBitsUptoCard

/-- THE SECOND FORM's CARD OF 'cruciblelaw15.NumberCmp'. -/
def numberCmpUptoCard : Claim7 := { stood := { row := numberCmpUptoRow, standIns := [], harness := (true, "ef889ed5b81c13ef2f5ac6515846a341e5f5422dab7e25d5b7905b6087335168"), looks := true }, kinds := [], alts := [], laidByText := true, laidKinds := [.data, .data, .data, .sentinel, .sentinel, .data], laidTests := true, laidLooks := .later }
def NumberCmpUptoCardSaid : Prop := Claim7.holds Tryz.pinned (.plain (OpenSpec.upto numberCmpSpec)) numberCmpUptoCard

/-- THE SECOND FORM's CARD OF 'cruciblelaw15.NumberNarrow'. -/
def numberNarrowUptoCard : Claim7 := { stood := { row := numberNarrowUptoRow, standIns := [], harness := (true, "ef889ed5b81c13ef2f5ac6515846a341e5f5422dab7e25d5b7905b6087335168"), looks := true }, kinds := [], alts := [], laidByText := true, laidKinds := [.data, .data, .data, .sentinel, .sentinel, .data], laidTests := true, laidLooks := .later }
def NumberNarrowUptoCardSaid : Prop := Claim7.holds Tryz.pinned (.plain (OpenSpec.upto numberNarrowSpec)) numberNarrowUptoCard

/-- THE SECOND FORM's CARD OF 'cruciblelaw15.NumberNone'. -/
def numberNoneUptoCard : Claim7 := { stood := { row := numberNoneUptoRow, standIns := [], harness := (true, "ef889ed5b81c13ef2f5ac6515846a341e5f5422dab7e25d5b7905b6087335168"), looks := true }, kinds := [], alts := [], laidByText := true, laidKinds := [.data, .data, .data, .sentinel, .sentinel, .data], laidTests := true, laidLooks := .later }
def NumberNoneUptoCardSaid : Prop := Claim7.holds Tryz.pinned (.plain (OpenSpec.upto numberNoneSpec)) numberNoneUptoCard

/-- THE SECOND FORM's CARD OF 'cruciblelaw15.NumberOf'. -/
def numberOfUptoCard : Claim7 := { stood := { row := numberOfUptoRow, standIns := [], harness := (true, "ef889ed5b81c13ef2f5ac6515846a341e5f5422dab7e25d5b7905b6087335168"), looks := true }, kinds := [], alts := [], laidByText := true, laidKinds := [.data, .data, .data, .sentinel, .sentinel, .data], laidTests := true, laidLooks := .later }
def NumberOfUptoCardSaid : Prop := Claim7.holds Tryz.pinned (.plain (OpenSpec.upto numberOfSpec)) numberOfUptoCard

/-- THE SECOND FORM's CARD OF 'cruciblelaw15.NumberBack'. -/
def numberBackUptoCard : Claim7 := { stood := { row := numberBackUptoRow, standIns := [], harness := (true, "ef889ed5b81c13ef2f5ac6515846a341e5f5422dab7e25d5b7905b6087335168"), looks := true }, kinds := [], alts := [], laidByText := true, laidKinds := [.data, .data, .data, .sentinel, .sentinel, .data], laidTests := true, laidLooks := .later }
def NumberBackUptoCardSaid : Prop := Claim7.holds Tryz.pinned (.plain (OpenSpec.upto numberBackSpec)) numberBackUptoCard

/-- THE SECOND FORM's CARD OF 'cruciblelaw15.NumberOne'. -/
def numberOneUptoCard : Claim7 := { stood := { row := numberOneUptoRow, standIns := [], harness := (true, "ef889ed5b81c13ef2f5ac6515846a341e5f5422dab7e25d5b7905b6087335168"), looks := true }, kinds := [], alts := [], laidByText := true, laidKinds := [.data, .data, .data, .sentinel, .sentinel, .data], laidTests := true, laidLooks := .later }
def NumberOneUptoCardSaid : Prop := Claim7.holds Tryz.pinned (.plain (OpenSpec.upto numberOneSpec)) numberOneUptoCard

/-- THE SECOND FORM's CARD OF 'cruciblelaw15.NumberOrder'. -/
def numberOrderUptoCard : Claim7 := { stood := { row := numberOrderUptoRow, standIns := [], harness := (true, "ef889ed5b81c13ef2f5ac6515846a341e5f5422dab7e25d5b7905b6087335168"), looks := true }, kinds := [], alts := [], laidByText := true, laidKinds := [.data, .data, .data, .sentinel, .sentinel, .data], laidTests := true, laidLooks := .later }
def NumberOrderUptoCardSaid : Prop := Claim7.holds Tryz.pinned (.plain (OpenSpec.upto numberOrderSpec)) numberOrderUptoCard
end Rows
end Go.Proofs.YtoimhjcpeifegaaGreatDoor
