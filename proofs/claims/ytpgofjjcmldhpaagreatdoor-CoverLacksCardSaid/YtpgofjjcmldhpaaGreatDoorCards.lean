/-
  DERIVED. GIVEN WITH THE SEED: THE CARDS: each row of YtpgofjjcmldhpaaGreatDoorRows.lean that lists a variable, with what it lists TIED to the program's text (the seventh form; the later family's looks); each row that meets fmt, with fmt's text TOLD by the authors' own Lean function (tested against real Go, not proved from fmt's source: count such statements apart). THE CARD IS WHAT COUNTS. Prove the row's statement (the work); the ties are given (YtpgofjjcmldhpaaGreatDoorTie.lean); close each card by the builder's one call (the guide's Derived/Test/ToyasCard.lean, 'card_holds'). Laid BY PROGRAM, IN A SANDBOX (cutbox-door.mjs). By AI agents, Wed Nov 11 2026. No macro, syntax, notation, axiom, sorry.
-/
import Derived.Test.YtpgofjjcmldhpaaGreatDoorRows
import GoSem.ClaimSeven
namespace Go.Proofs.YtpgofjjcmldhpaaGreatDoor
namespace Rows

/-- THE TIED CARD OF 'committeelaw1.BidsWorth'. -/
def bidsWorthCard : Claim7 := { stood := { row := bidsWorthRow, standIns := [], harness := (true, "e0ccb5fc946d46652c688a6dab3f3e8ec48885c6dafffac85f2709c40d7f65fa"), looks := false }, kinds := [], alts := [], laidByText := true, laidKinds := [.data, .pinned], laidTests := true, laidLooks := .later }
def BidsWorthCardSaid : Prop := Claim7.holds Tryz.pinned (.plain (OpenSpec.ofChange bidsWorthSpec)) bidsWorthCard

/-- THE TIED CARD OF 'committeelaw1.CoverLacks'. -/
def coverLacksCard : Claim7 := { stood := { row := coverLacksRow, standIns := [], harness := (true, "e0ccb5fc946d46652c688a6dab3f3e8ec48885c6dafffac85f2709c40d7f65fa"), looks := false }, kinds := [], alts := [], laidByText := true, laidKinds := [.data, .pinned], laidTests := true, laidLooks := .later }
def CoverLacksCardSaid : Prop := Claim7.holds Tryz.pinned (.plain (OpenSpec.ofChange coverLacksSpec)) coverLacksCard

/-- THE SECOND FORM's CARD OF 'committeelaw1.BidsWorth'. -/
def bidsWorthUptoCard : Claim7 := { stood := { row := bidsWorthUptoRow, standIns := [], harness := (true, "e0ccb5fc946d46652c688a6dab3f3e8ec48885c6dafffac85f2709c40d7f65fa"), looks := false }, kinds := [], alts := [], laidByText := true, laidKinds := [.data, .pinned], laidTests := true, laidLooks := .later }
def BidsWorthUptoCardSaid : Prop := Claim7.holds Tryz.pinned (.plain (OpenSpec.upto bidsWorthSpec)) bidsWorthUptoCard

/-- THE SECOND FORM's CARD OF 'committeelaw1.CoverLacks'. -/
def coverLacksUptoCard : Claim7 := { stood := { row := coverLacksUptoRow, standIns := [], harness := (true, "e0ccb5fc946d46652c688a6dab3f3e8ec48885c6dafffac85f2709c40d7f65fa"), looks := false }, kinds := [], alts := [], laidByText := true, laidKinds := [.data, .pinned], laidTests := true, laidLooks := .later }
def CoverLacksUptoCardSaid : Prop := Claim7.holds Tryz.pinned (.plain (OpenSpec.upto coverLacksSpec)) coverLacksUptoCard
end Rows
end Go.Proofs.YtpgofjjcmldhpaaGreatDoor
