/-
  DERIVED. GIVEN WITH THE SEED: THE CARDS: each row of YtaecdhdnjmckpaaGreatDoorRows.lean that lists a variable, with what it lists TIED to the program's text (the seventh form; the later family's looks); each row that meets fmt, with fmt's text TOLD by the authors' own Lean function (tested against real Go, not proved from fmt's source: count such statements apart). THE CARD IS WHAT COUNTS. Prove the row's statement (the work); the ties are given (YtaecdhdnjmckpaaGreatDoorTie.lean); close each card by the builder's one call (the guide's Derived/Test/ToyasCard.lean, 'card_holds'). Laid BY PROGRAM, IN A SANDBOX (cutbox-door.mjs). By AI agents, Wed Nov 11 2026. No macro, syntax, notation, axiom, sorry.
-/
import Derived.Test.YtaecdhdnjmckpaaGreatDoorRows
import GoSem.ClaimSeven
namespace Go.Proofs.YtaecdhdnjmckpaaGreatDoor
namespace Rows

/-- THE TIED CARD OF 'committeelaw1.PlansEdited'. -/
def plansEditedCard : Claim7 := { stood := { row := plansEditedRow, standIns := [], harness := (true, "ceeee62b776130787abf4744c27050185d83316039bb7388ccbf25e5e10eefd3"), looks := false }, kinds := [], alts := [], laidByText := true, laidKinds := [.data, .pinned], laidTests := true, laidLooks := .later }
def PlansEditedCardSaid : Prop := Claim7.holds Tryz.pinned (.plain (OpenSpec.ofChange plansEditedSpec)) plansEditedCard

/-- THE TIED CARD OF 'committeelaw1.ProgrammesBest'. -/
def programmesBestCard : Claim7 := { stood := { row := programmesBestRow, standIns := [], harness := (true, "ceeee62b776130787abf4744c27050185d83316039bb7388ccbf25e5e10eefd3"), looks := false }, kinds := [], alts := [], laidByText := true, laidKinds := [.data, .pinned], laidTests := true, laidLooks := .later }
def ProgrammesBestCardSaid : Prop := Claim7.holds Tryz.pinned (.plain (OpenSpec.ofChange programmesBestSpec)) programmesBestCard

/-- THE TIED CARD OF 'committeelaw1.AgendasFound'. -/
def agendasFoundCard : Claim7 := { stood := { row := agendasFoundRow, standIns := [], harness := (true, "ceeee62b776130787abf4744c27050185d83316039bb7388ccbf25e5e10eefd3"), looks := false }, kinds := [], alts := [], laidByText := true, laidKinds := [.data, .pinned], laidTests := true, laidLooks := .later }
def AgendasFoundCardSaid : Prop := Claim7.holds Tryz.pinned (.plain (OpenSpec.ofChange agendasFoundSpec)) agendasFoundCard

/-- THE TIED CARD OF 'committeelaw1.ProgrammesImproved'. -/
def programmesImprovedCard : Claim7 := { stood := { row := programmesImprovedRow, standIns := [], harness := (true, "ceeee62b776130787abf4744c27050185d83316039bb7388ccbf25e5e10eefd3"), looks := false }, kinds := [], alts := [], laidByText := true, laidKinds := [.data, .pinned], laidTests := true, laidLooks := .later }
def ProgrammesImprovedCardSaid : Prop := Claim7.holds Tryz.pinned (.plain (OpenSpec.ofChange programmesImprovedSpec)) programmesImprovedCard

/-- THE SECOND FORM's CARD OF 'committeelaw1.PlansEdited'. -/
def plansEditedUptoCard : Claim7 := { stood := { row := plansEditedUptoRow, standIns := [], harness := (true, "ceeee62b776130787abf4744c27050185d83316039bb7388ccbf25e5e10eefd3"), looks := false }, kinds := [], alts := [], laidByText := true, laidKinds := [.data, .pinned], laidTests := true, laidLooks := .later }
def PlansEditedUptoCardSaid : Prop := Claim7.holds Tryz.pinned (.plain (OpenSpec.upto plansEditedSpec)) plansEditedUptoCard

/-- THE SECOND FORM's CARD OF 'committeelaw1.ProgrammesBest'. -/
def programmesBestUptoCard : Claim7 := { stood := { row := programmesBestUptoRow, standIns := [], harness := (true, "ceeee62b776130787abf4744c27050185d83316039bb7388ccbf25e5e10eefd3"), looks := false }, kinds := [], alts := [], laidByText := true, laidKinds := [.data, .pinned], laidTests := true, laidLooks := .later }
def ProgrammesBestUptoCardSaid : Prop := Claim7.holds Tryz.pinned (.plain (OpenSpec.upto programmesBestSpec)) programmesBestUptoCard

/-- THE SECOND FORM's CARD OF 'committeelaw1.AgendasFound'. -/
def agendasFoundUptoCard : Claim7 := { stood := { row := agendasFoundUptoRow, standIns := [], harness := (true, "ceeee62b776130787abf4744c27050185d83316039bb7388ccbf25e5e10eefd3"), looks := false }, kinds := [], alts := [], laidByText := true, laidKinds := [.data, .pinned], laidTests := true, laidLooks := .later }
def AgendasFoundUptoCardSaid : Prop := Claim7.holds Tryz.pinned (.plain (OpenSpec.upto agendasFoundSpec)) agendasFoundUptoCard

/-- THE SECOND FORM's CARD OF 'committeelaw1.ProgrammesImproved'. -/
def programmesImprovedUptoCard : Claim7 := { stood := { row := programmesImprovedUptoRow, standIns := [], harness := (true, "ceeee62b776130787abf4744c27050185d83316039bb7388ccbf25e5e10eefd3"), looks := false }, kinds := [], alts := [], laidByText := true, laidKinds := [.data, .pinned], laidTests := true, laidLooks := .later }
def ProgrammesImprovedUptoCardSaid : Prop := Claim7.holds Tryz.pinned (.plain (OpenSpec.upto programmesImprovedSpec)) programmesImprovedUptoCard
end Rows
end Go.Proofs.YtaecdhdnjmckpaaGreatDoor
