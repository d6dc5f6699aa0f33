/-
  DERIVED. GIVEN WITH THE SEED: THE CARDS: each row of YtfpoaggkjhcdnaaDoorRows.lean that lists a variable, with what it lists TIED to the program's text (the seventh form; the later family's looks); each row that meets fmt, with fmt's text TOLD by the authors' own Lean function (tested against real Go, not proved from fmt's source: count such statements apart). THE CARD IS WHAT COUNTS. Prove the row's statement (the work); the ties are given (YtfpoaggkjhcdnaaDoorTie.lean); close each card by the builder's one call (the guide's Derived/Test/ToyasCard.lean, 'card_holds'). Laid BY PROGRAM, IN A SANDBOX (cutbox-door.mjs). By AI agents, Wed Nov 11 2026. No macro, syntax, notation, axiom, sorry.
-/
import Derived.Test.YtfpoaggkjhcdnaaDoorRows
import GoSem.ClaimSeven
namespace Go.Proofs.YtfpoaggkjhcdnaaDoor
namespace Rows

/-- THE TIED CARD OF 'committeelaw1.ForestsKnown'. -/
def forestsKnownCard : Claim7 := { stood := { row := forestsKnownRow, standIns := [], harness := (true, "7d47d5166151c2818bee23b6bf180018b5d51e47465486d59c5c6f7dba916a15"), looks := false }, kinds := [], alts := [], laidByText := true, laidKinds := [.data, .pinned], laidTests := true, laidLooks := .later }
def ForestsKnownCardSaid : Prop := Claim7.holds Tryd.pinned (.plain (OpenSpec.ofChange forestsKnownSpec)) forestsKnownCard

/-- THE TIED CARD OF 'committeelaw1.AffinitiesFound'. -/
def affinitiesFoundCard : Claim7 := { stood := { row := affinitiesFoundRow, standIns := [], harness := (true, "7d47d5166151c2818bee23b6bf180018b5d51e47465486d59c5c6f7dba916a15"), looks := false }, kinds := [], alts := [], laidByText := true, laidKinds := [.data, .pinned], laidTests := true, laidLooks := .later }
def AffinitiesFoundCardSaid : Prop := Claim7.holds Tryd.pinned (.plain (OpenSpec.ofChange affinitiesFoundSpec)) affinitiesFoundCard

/-- THE SECOND FORM's CARD OF 'committeelaw1.ForestsKnown'. -/
def forestsKnownUptoCard : Claim7 := { stood := { row := forestsKnownUptoRow, standIns := [], harness := (true, "7d47d5166151c2818bee23b6bf180018b5d51e47465486d59c5c6f7dba916a15"), looks := false }, kinds := [], alts := [], laidByText := true, laidKinds := [.data, .pinned], laidTests := true, laidLooks := .later }
def ForestsKnownUptoCardSaid : Prop := Claim7.holds Tryd.pinned (.plain (OpenSpec.upto forestsKnownSpec)) forestsKnownUptoCard

/-- THE SECOND FORM's CARD OF 'committeelaw1.AffinitiesFound'. -/
def affinitiesFoundUptoCard : Claim7 := { stood := { row := affinitiesFoundUptoRow, standIns := [], harness := (true, "7d47d5166151c2818bee23b6bf180018b5d51e47465486d59c5c6f7dba916a15"), looks := false }, kinds := [], alts := [], laidByText := true, laidKinds := [.data, .pinned], laidTests := true, laidLooks := .later }
def AffinitiesFoundUptoCardSaid : Prop := Claim7.holds Tryd.pinned (.plain (OpenSpec.upto affinitiesFoundSpec)) affinitiesFoundUptoCard
end Rows
end Go.Proofs.YtfpoaggkjhcdnaaDoor
