/-
  DERIVED. GIVEN WITH THE SEED: THE CARDS: each row of YtldgphhiajhfhaaGreatDoorRows.lean that lists a variable, with what it lists TIED to the program's text (the seventh form; the later family's looks); each row that meets fmt, with fmt's text TOLD by the authors' own Lean function (tested against real Go, not proved from fmt's source: count such statements apart). THE CARD IS WHAT COUNTS. Prove the row's statement (the work); the ties are given (YtldgphhiajhfhaaGreatDoorTie.lean); close each card by the builder's one call (the guide's Derived/Test/ToyasCard.lean, 'card_holds'). Laid BY PROGRAM, IN A SANDBOX (cutbox-door.mjs). By AI agents, Wed Nov 11 2026. No macro, syntax, notation, axiom, sorry.
-/
import Derived.Test.YtldgphhiajhfhaaGreatDoorRows
import GoSem.ClaimSeven
namespace Go.Proofs.YtldgphhiajhfhaaGreatDoor
namespace Rows

/-- THE TIED CARD OF 'committeelaw1.ProgrammesWritten'. -/
def programmesWrittenCard : Claim7 := { stood := { row := programmesWrittenRow, standIns := [], harness := (true, "148e816640687ce6ee3060c5139b8dea0bcf1e36c744c778b18f9c767e208bb9"), looks := false }, kinds := [], alts := [], laidByText := true, laidKinds := [.data, .pinned], laidTests := true, laidLooks := .later }
def ProgrammesWrittenCardSaid : Prop := Claim7.holds Tryz.pinned (.plain (OpenSpec.ofChange programmesWrittenSpec)) programmesWrittenCard

/-- THE TIED CARD OF 'committeelaw1.ProgrammesImproved'. -/
def programmesImprovedCard : Claim7 := { stood := { row := programmesImprovedRow, standIns := [], harness := (true, "148e816640687ce6ee3060c5139b8dea0bcf1e36c744c778b18f9c767e208bb9"), looks := false }, kinds := [], alts := [], laidByText := true, laidKinds := [.data, .pinned], laidTests := true, laidLooks := .later }
def ProgrammesImprovedCardSaid : Prop := Claim7.holds Tryz.pinned (.plain (OpenSpec.ofChange programmesImprovedSpec)) programmesImprovedCard

/-- THE SECOND FORM's CARD OF 'committeelaw1.ProgrammesWritten'. -/
def programmesWrittenUptoCard : Claim7 := { stood := { row := programmesWrittenUptoRow, standIns := [], harness := (true, "148e816640687ce6ee3060c5139b8dea0bcf1e36c744c778b18f9c767e208bb9"), looks := false }, kinds := [], alts := [], laidByText := true, laidKinds := [.data, .pinned], laidTests := true, laidLooks := .later }
def ProgrammesWrittenUptoCardSaid : Prop := Claim7.holds Tryz.pinned (.plain (OpenSpec.upto programmesWrittenSpec)) programmesWrittenUptoCard

/-- THE SECOND FORM's CARD OF 'committeelaw1.ProgrammesImproved'. -/
def programmesImprovedUptoCard : Claim7 := { stood := { row := programmesImprovedUptoRow, standIns := [], harness := (true, "148e816640687ce6ee3060c5139b8dea0bcf1e36c744c778b18f9c767e208bb9"), looks := false }, kinds := [], alts := [], laidByText := true, laidKinds := [.data, .pinned], laidTests := true, laidLooks := .later }
def ProgrammesImprovedUptoCardSaid : Prop := Claim7.holds Tryz.pinned (.plain (OpenSpec.upto programmesImprovedSpec)) programmesImprovedUptoCard
end Rows
end Go.Proofs.YtldgphhiajhfhaaGreatDoor
