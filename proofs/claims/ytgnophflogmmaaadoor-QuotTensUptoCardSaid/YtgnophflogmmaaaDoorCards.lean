/-
  DERIVED. GIVEN WITH THE SEED: THE CARDS: each row of YtgnophflogmmaaaDoorRows.lean that lists a variable, with what it lists TIED to the program's text (the seventh form; the later family's looks); each row that meets fmt, with fmt's text TOLD by the authors' own Lean function (tested against real Go, not proved from fmt's source: count such statements apart). THE CARD IS WHAT COUNTS. Prove the row's statement (the work); the ties are given (YtgnophflogmmaaaDoorTie.lean); close each card by the builder's one call (the guide's Derived/Test/ToyasCard.lean, 'card_holds'). Laid BY PROGRAM, IN A SANDBOX (cutbox-door.mjs). By AI agents, Wed Nov 11 2026. No macro, syntax, notation, axiom, sorry.
-/
import Derived.Test.YtgnophflogmmaaaDoorRows
import GoSem.ClaimSeven
namespace Go.Proofs.YtgnophflogmmaaaDoor
namespace Rows

/-- THE TIED CARD OF 'cruciblelaw02.QuotGreatest'. -/
def quotGreatestCard : Claim7 := { stood := { row := quotGreatestRow, standIns := [], harness := (true, "7f48440bfa39d063d146dfc9b761a853549fa4b3913dd95ba9eb316e3984c090"), looks := false }, kinds := [], alts := [], laidByText := true, laidKinds := [.data], laidTests := true, laidLooks := .later }
def QuotGreatestCardSaid : Prop := Claim7.holds Tryd.pinned (.plain (OpenSpec.ofChange quotGreatestSpec)) quotGreatestCard

/-- THE TIED CARD OF 'cruciblelaw02.QuotProducts'. -/
def quotProductsCard : Claim7 := { stood := { row := quotProductsRow, standIns := [], harness := (true, "7f48440bfa39d063d146dfc9b761a853549fa4b3913dd95ba9eb316e3984c090"), looks := false }, kinds := [], alts := [], laidByText := true, laidKinds := [.data], laidTests := true, laidLooks := .later }
def QuotProductsCardSaid : Prop := Claim7.holds Tryd.pinned (.plain (OpenSpec.ofChange quotProductsSpec)) quotProductsCard

/-- THE TIED CARD OF 'cruciblelaw02.QuotBack'. -/
def quotBackCard : Claim7 := { stood := { row := quotBackRow, standIns := [], harness := (true, "7f48440bfa39d063d146dfc9b761a853549fa4b3913dd95ba9eb316e3984c090"), looks := false }, kinds := [], alts := [], laidByText := true, laidKinds := [.data], laidTests := true, laidLooks := .later }
def QuotBackCardSaid : Prop := Claim7.holds Tryd.pinned (.plain (OpenSpec.ofChange quotBackSpec)) quotBackCard

/-- THE TIED CARD OF 'cruciblelaw02.QuotTens'. -/
def quotTensCard : Claim7 := { stood := { row := quotTensRow, standIns := [], harness := (true, "7f48440bfa39d063d146dfc9b761a853549fa4b3913dd95ba9eb316e3984c090"), looks := false }, kinds := [], alts := [], laidByText := true, laidKinds := [.data], laidTests := true, laidLooks := .later }
def QuotTensCardSaid : Prop := Claim7.holds Tryd.pinned (.plain (OpenSpec.ofChange quotTensSpec)) quotTensCard

/-- THE TIED CARD OF 'cruciblelaw02.QuotHigh'. -/
def quotHighCard : Claim7 := { stood := { row := quotHighRow, standIns := [], harness := (true, "7f48440bfa39d063d146dfc9b761a853549fa4b3913dd95ba9eb316e3984c090"), looks := false }, kinds := [], alts := [], laidByText := true, laidKinds := [.data], laidTests := true, laidLooks := .later }
def QuotHighCardSaid : Prop := Claim7.holds Tryd.pinned (.plain (OpenSpec.ofChange quotHighSpec)) quotHighCard

/-- THE SECOND FORM's CARD OF 'cruciblelaw02.QuotGreatest'. -/
def quotGreatestUptoCard : Claim7 := { stood := { row := quotGreatestUptoRow, standIns := [], harness := (true, "7f48440bfa39d063d146dfc9b761a853549fa4b3913dd95ba9eb316e3984c090"), looks := false }, kinds := [], alts := [], laidByText := true, laidKinds := [.data], laidTests := true, laidLooks := .later }
def QuotGreatestUptoCardSaid : Prop := Claim7.holds Tryd.pinned (.plain (OpenSpec.upto quotGreatestSpec)) quotGreatestUptoCard

/-- THE SECOND FORM's CARD OF 'cruciblelaw02.QuotProducts'. -/
def quotProductsUptoCard : Claim7 := { stood := { row := quotProductsUptoRow, standIns := [], harness := (true, "7f48440bfa39d063d146dfc9b761a853549fa4b3913dd95ba9eb316e3984c090"), looks := false }, kinds := [], alts := [], laidByText := true, laidKinds := [.data], laidTests := true, laidLooks := .later }
def QuotProductsUptoCardSaid : Prop := Claim7.holds Tryd.pinned (.plain (OpenSpec.upto quotProductsSpec)) quotProductsUptoCard

/-- THE SECOND FORM's CARD OF 'cruciblelaw02.QuotBack'. -/
def quotBackUptoCard : Claim7 := { stood := { row := quotBackUptoRow, standIns := [], harness := (true, "7f48440bfa39d063d146dfc9b761a853549fa4b3913dd95ba9eb316e3984c090"), looks := false }, kinds := [], alts := [], laidByText := true, laidKinds := [.data], laidTests := true, laidLooks := .later }
def QuotBackUptoCardSaid : Prop := Claim7.holds Tryd.pinned (.plain (OpenSpec.upto quotBackSpec)) quotBackUptoCard

/-- THE SECOND FORM's CARD OF 'cruciblelaw02.QuotTens'. -/
def quotTensUptoCard : Claim7 := { stood := { row := quotTensUptoRow, standIns := [], harness := (true, "7f48440bfa39d063d146dfc9b761a853549fa4b3913dd95ba9eb316e3984c090"), looks := false }, kinds := [], alts := [], laidByText := true, laidKinds := [.data], laidTests := true, laidLooks := .later }
def QuotTensUptoCardSaid : Prop := Claim7.holds Tryd.pinned (.plain (OpenSpec.upto quotTensSpec)) quotTensUptoCard

/-- THE SECOND FORM's CARD OF 'cruciblelaw02.QuotHigh'. -/
def quotHighUptoCard : Claim7 := { stood := { row := quotHighUptoRow, standIns := [], harness := (true, "7f48440bfa39d063d146dfc9b761a853549fa4b3913dd95ba9eb316e3984c090"), looks := false }, kinds := [], alts := [], laidByText := true, laidKinds := [.data], laidTests := true, laidLooks := .later }
def QuotHighUptoCardSaid : Prop := Claim7.holds Tryd.pinned (.plain (OpenSpec.upto quotHighSpec)) quotHighUptoCard
end Rows
end Go.Proofs.YtgnophflogmmaaaDoor
