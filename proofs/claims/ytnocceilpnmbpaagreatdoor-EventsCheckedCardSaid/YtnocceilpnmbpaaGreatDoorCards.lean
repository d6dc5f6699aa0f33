/-
  DERIVED. GIVEN WITH THE SEED: THE CARDS: each row of YtnocceilpnmbpaaGreatDoorRows.lean that lists a variable, with what it lists TIED to the program's text (the seventh form; the later family's looks); each row that meets fmt, with fmt's text TOLD by the authors' own Lean function (tested against real Go, not proved from fmt's source: count such statements apart). THE CARD IS WHAT COUNTS. Prove the row's statement (the work); the ties are given (YtnocceilpnmbpaaGreatDoorTie.lean); close each card by the builder's one call (the guide's Derived/Test/ToyasCard.lean, 'card_holds'). Laid BY PROGRAM, IN A SANDBOX (cutbox-door.mjs). By AI agents, Wed Nov 11 2026. No macro, syntax, notation, axiom, sorry.
-/
import Derived.Test.YtnocceilpnmbpaaGreatDoorRows
import GoSem.ClaimSeven
namespace Go.Proofs.YtnocceilpnmbpaaGreatDoor
namespace Rows

/-- THE TIED CARD OF 'committeelaw1.EventsChecked'. -/
def eventsCheckedCard : Claim7 := { stood := { row := eventsCheckedRow, standIns := [], harness := (true, "fece84e4ca135862ab5c8357999d42537fa6f0e153ce74f8fe61a7cc6233e652"), looks := false }, kinds := [], alts := [], laidByText := true, laidKinds := [.data, .data, .data, .data, .pinned], laidTests := true, laidLooks := .later }
def EventsCheckedCardSaid : Prop := Claim7.holds Tryz.pinned (.plain (OpenSpec.ofChange eventsCheckedSpec)) eventsCheckedCard

/-- THE TIED CARD OF 'committeelaw1.EventsAdded'. -/
def eventsAddedCard : Claim7 := { stood := { row := eventsAddedRow, standIns := [], harness := (true, "fece84e4ca135862ab5c8357999d42537fa6f0e153ce74f8fe61a7cc6233e652"), looks := false }, kinds := [], alts := [], laidByText := true, laidKinds := [.data, .data, .data, .data, .pinned], laidTests := true, laidLooks := .later }
def EventsAddedCardSaid : Prop := Claim7.holds Tryz.pinned (.plain (OpenSpec.ofChange eventsAddedSpec)) eventsAddedCard

/-- THE TIED CARD OF 'committeelaw1.EventsMerged'. -/
def eventsMergedCard : Claim7 := { stood := { row := eventsMergedRow, standIns := [], harness := (true, "fece84e4ca135862ab5c8357999d42537fa6f0e153ce74f8fe61a7cc6233e652"), looks := false }, kinds := [], alts := [], laidByText := true, laidKinds := [.data, .data, .data, .data, .pinned], laidTests := true, laidLooks := .later }
def EventsMergedCardSaid : Prop := Claim7.holds Tryz.pinned (.plain (OpenSpec.ofChange eventsMergedSpec)) eventsMergedCard

/-- THE SECOND FORM's CARD OF 'committeelaw1.EventsChecked'. -/
def eventsCheckedUptoCard : Claim7 := { stood := { row := eventsCheckedUptoRow, standIns := [], harness := (true, "fece84e4ca135862ab5c8357999d42537fa6f0e153ce74f8fe61a7cc6233e652"), looks := false }, kinds := [], alts := [], laidByText := true, laidKinds := [.data, .data, .data, .data, .pinned], laidTests := true, laidLooks := .later }
def EventsCheckedUptoCardSaid : Prop := Claim7.holds Tryz.pinned (.plain (OpenSpec.upto eventsCheckedSpec)) eventsCheckedUptoCard

/-- THE SECOND FORM's CARD OF 'committeelaw1.EventsAdded'. -/
def eventsAddedUptoCard : Claim7 := { stood := { row := eventsAddedUptoRow, standIns := [], harness := (true, "fece84e4ca135862ab5c8357999d42537fa6f0e153ce74f8fe61a7cc6233e652"), looks := false }, kinds := [], alts := [], laidByText := true, laidKinds := [.data, .data, .data, .data, .pinned], laidTests := true, laidLooks := .later }
def EventsAddedUptoCardSaid : Prop := Claim7.holds Tryz.pinned (.plain (OpenSpec.upto eventsAddedSpec)) eventsAddedUptoCard

/-- THE SECOND FORM's CARD OF 'committeelaw1.EventsMerged'. -/
def eventsMergedUptoCard : Claim7 := { stood := { row := eventsMergedUptoRow, standIns := [], harness := (true, "fece84e4ca135862ab5c8357999d42537fa6f0e153ce74f8fe61a7cc6233e652"), looks := false }, kinds := [], alts := [], laidByText := true, laidKinds := [.data, .data, .data, .data, .pinned], laidTests := true, laidLooks := .later }
def EventsMergedUptoCardSaid : Prop := Claim7.holds Tryz.pinned (.plain (OpenSpec.upto eventsMergedSpec)) eventsMergedUptoCard
end Rows
end Go.Proofs.YtnocceilpnmbpaaGreatDoor
