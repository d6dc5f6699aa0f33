/-
  DERIVED. GIVEN WITH THE SEED: THE CARDS: each row of YtifflpilnpcmoaaGreatDoorRows.lean that lists a variable, with what it lists TIED to the program's text (the seventh form; the later family's looks); each row that meets fmt, with fmt's text TOLD by the authors' own Lean function (tested against real Go, not proved from fmt's source: count such statements apart). THE CARD IS WHAT COUNTS. Prove the row's statement (the work); the ties are given (YtifflpilnpcmoaaGreatDoorTie.lean); close each card by the builder's one call (the guide's Derived/Test/ToyasCard.lean, 'card_holds'). Laid BY PROGRAM, IN A SANDBOX (cutbox-door.mjs). By AI agents, Wed Nov 11 2026. No macro, syntax, notation, axiom, sorry.
-/
import Derived.Test.YtifflpilnpcmoaaGreatDoorRows
import GoSem.ClaimSeven
namespace Go.Proofs.YtifflpilnpcmoaaGreatDoor
namespace Rows

/-- THE TIED CARD OF 'committeelaw1.PapersStated'. -/
def papersStatedCard : Claim7 := { stood := { row := papersStatedRow, standIns := [], harness := (true, "279eff1e37b9ff476ae5275c64b3b458f9682ef8125642a6f4a94e23d6ea086b"), looks := false }, kinds := [], alts := [], laidByText := true, laidKinds := [.data, .pinned], laidTests := true, laidLooks := .later }
def PapersStatedCardSaid : Prop := Claim7.holds Tryz.pinned (.plain (OpenSpec.ofChange papersStatedSpec)) papersStatedCard

/-- THE TIED CARD OF 'committeelaw1.BoxesKept'. -/
def boxesKeptCard : Claim7 := { stood := { row := boxesKeptRow, standIns := [], harness := (true, "279eff1e37b9ff476ae5275c64b3b458f9682ef8125642a6f4a94e23d6ea086b"), looks := false }, kinds := [], alts := [], laidByText := true, laidKinds := [.data, .pinned], laidTests := true, laidLooks := .later }
def BoxesKeptCardSaid : Prop := Claim7.holds Tryz.pinned (.plain (OpenSpec.ofChange boxesKeptSpec)) boxesKeptCard

/-- THE SECOND FORM's CARD OF 'committeelaw1.PapersStated'. -/
def papersStatedUptoCard : Claim7 := { stood := { row := papersStatedUptoRow, standIns := [], harness := (true, "279eff1e37b9ff476ae5275c64b3b458f9682ef8125642a6f4a94e23d6ea086b"), looks := false }, kinds := [], alts := [], laidByText := true, laidKinds := [.data, .pinned], laidTests := true, laidLooks := .later }
def PapersStatedUptoCardSaid : Prop := Claim7.holds Tryz.pinned (.plain (OpenSpec.upto papersStatedSpec)) papersStatedUptoCard

/-- THE SECOND FORM's CARD OF 'committeelaw1.BoxesKept'. -/
def boxesKeptUptoCard : Claim7 := { stood := { row := boxesKeptUptoRow, standIns := [], harness := (true, "279eff1e37b9ff476ae5275c64b3b458f9682ef8125642a6f4a94e23d6ea086b"), looks := false }, kinds := [], alts := [], laidByText := true, laidKinds := [.data, .pinned], laidTests := true, laidLooks := .later }
def BoxesKeptUptoCardSaid : Prop := Claim7.holds Tryz.pinned (.plain (OpenSpec.upto boxesKeptSpec)) boxesKeptUptoCard
end Rows
end Go.Proofs.YtifflpilnpcmoaaGreatDoor
