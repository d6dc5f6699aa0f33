/-
  DERIVED. GIVEN WITH THE SEED: THE CARDS: each row of YtcjcdbhobehlpaaGreatDoorRows.lean that lists a variable, with what it lists TIED to the program's text (the seventh form; the later family's looks); each row that meets fmt, with fmt's text TOLD by the authors' own Lean function (tested against real Go, not proved from fmt's source: count such statements apart). THE CARD IS WHAT COUNTS. Prove the row's statement (the work); the ties are given (YtcjcdbhobehlpaaGreatDoorTie.lean); close each card by the builder's one call (the guide's Derived/Test/ToyasCard.lean, 'card_holds'). Laid BY PROGRAM, IN A SANDBOX (cutbox-door.mjs). By AI agents, Wed Nov 11 2026. No macro, syntax, notation, axiom, sorry.
-/
import Derived.Test.YtcjcdbhobehlpaaGreatDoorRows
import GoSem.ClaimSeven
namespace Go.Proofs.YtcjcdbhobehlpaaGreatDoor
namespace Rows

/-- THE TIED CARD OF 'committeelaw1.PapersStrong'. -/
def papersStrongCard : Claim7 := { stood := { row := papersStrongRow, standIns := [], harness := (true, "2ff577b95f6aad299d95ed544be1ec8e7bae2fbbbbc8edcdc4daa047dfd12005"), looks := false }, kinds := [], alts := [], laidByText := true, laidKinds := [.data, .pinned], laidTests := true, laidLooks := .later }
def PapersStrongCardSaid : Prop := Claim7.holds Tryz.pinned (.plain (OpenSpec.ofChange papersStrongSpec)) papersStrongCard

/-- THE SECOND FORM's CARD OF 'committeelaw1.PapersStrong'. -/
def papersStrongUptoCard : Claim7 := { stood := { row := papersStrongUptoRow, standIns := [], harness := (true, "2ff577b95f6aad299d95ed544be1ec8e7bae2fbbbbc8edcdc4daa047dfd12005"), looks := false }, kinds := [], alts := [], laidByText := true, laidKinds := [.data, .pinned], laidTests := true, laidLooks := .later }
def PapersStrongUptoCardSaid : Prop := Claim7.holds Tryz.pinned (.plain (OpenSpec.upto papersStrongSpec)) papersStrongUptoCard
end Rows
end Go.Proofs.YtcjcdbhobehlpaaGreatDoor
