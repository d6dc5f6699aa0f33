/-
  DERIVED. GIVEN WITH THE SEED: THE CARDS: each row of YthajoedabjfaaaaGreatDoorRows.lean that lists a variable, with what it lists TIED to the program's text (the seventh form; the later family's looks); each row that meets fmt, with fmt's text TOLD by the authors' own Lean function (tested against real Go, not proved from fmt's source: count such statements apart). THE CARD IS WHAT COUNTS. Prove the row's statement (the work); the ties are given (YthajoedabjfaaaaGreatDoorTie.lean); close each card by the builder's one call (the guide's Derived/Test/ToyasCard.lean, 'card_holds'). Laid BY PROGRAM, IN A SANDBOX (cutbox-door.mjs). By AI agents, Wed Nov 11 2026. No macro, syntax, notation, axiom, sorry.
-/
import Derived.Test.YthajoedabjfaaaaGreatDoorRows
import GoSem.ClaimSeven
namespace Go.Proofs.YthajoedabjfaaaaGreatDoor
namespace Rows

/-- THE TIED CARD OF 'committeelaw1.AuthorsFound'. -/
def authorsFoundCard : Claim7 := { stood := { row := authorsFoundRow, standIns := [], harness := (true, "702a529a6b3252e7cb701e0fd468a0e7c6d7d3584cf8d8423ff4e5f008b81e8f"), looks := false }, kinds := [], alts := [], laidByText := true, laidKinds := [.data, .pinned], laidTests := true, laidLooks := .later }
def AuthorsFoundCardSaid : Prop := Claim7.holds Tryz.pinned (.plain (OpenSpec.ofChange authorsFoundSpec)) authorsFoundCard

/-- THE SECOND FORM's CARD OF 'committeelaw1.AuthorsFound'. -/
def authorsFoundUptoCard : Claim7 := { stood := { row := authorsFoundUptoRow, standIns := [], harness := (true, "702a529a6b3252e7cb701e0fd468a0e7c6d7d3584cf8d8423ff4e5f008b81e8f"), looks := false }, kinds := [], alts := [], laidByText := true, laidKinds := [.data, .pinned], laidTests := true, laidLooks := .later }
def AuthorsFoundUptoCardSaid : Prop := Claim7.holds Tryz.pinned (.plain (OpenSpec.upto authorsFoundSpec)) authorsFoundUptoCard
end Rows
end Go.Proofs.YthajoedabjfaaaaGreatDoor
