/-
  DERIVED. GIVEN WITH THE SEED: THE CARDS: each row of YtibchcdcpcjgnaaDoorRows.lean that lists a variable, with what it lists TIED to the program's text (the seventh form; the later family's looks); each row that meets fmt, with fmt's text TOLD by the authors' own Lean function (tested against real Go, not proved from fmt's source: count such statements apart). THE CARD IS WHAT COUNTS. Prove the row's statement (the work); the ties are given (YtibchcdcpcjgnaaDoorTie.lean); close each card by the builder's one call (the guide's Derived/Test/ToyasCard.lean, 'card_holds'). Laid BY PROGRAM, IN A SANDBOX (cutbox-door.mjs). By AI agents, Wed Nov 11 2026. No macro, syntax, notation, axiom, sorry.
-/
import Derived.Test.YtibchcdcpcjgnaaDoorRows
import GoSem.ClaimSeven
namespace Go.Proofs.YtibchcdcpcjgnaaDoor
namespace Rows

/-- THE TIED CARD OF 'committeelaw1.MarksBalanced'. -/
def marksBalancedCard : Claim7 := { stood := { row := marksBalancedRow, standIns := [], harness := (true, "d59925879332b561cade286c43ea63e9e7028240018d28c3e07db369f51d167c"), looks := false }, kinds := [], alts := [], laidByText := true, laidKinds := [.data, .pinned], laidTests := true, laidLooks := .later }
def MarksBalancedCardSaid : Prop := Claim7.holds Tryd.pinned (.plain (OpenSpec.ofChange marksBalancedSpec)) marksBalancedCard

/-- THE SECOND FORM's CARD OF 'committeelaw1.MarksBalanced'. -/
def marksBalancedUptoCard : Claim7 := { stood := { row := marksBalancedUptoRow, standIns := [], harness := (true, "d59925879332b561cade286c43ea63e9e7028240018d28c3e07db369f51d167c"), looks := false }, kinds := [], alts := [], laidByText := true, laidKinds := [.data, .pinned], laidTests := true, laidLooks := .later }
def MarksBalancedUptoCardSaid : Prop := Claim7.holds Tryd.pinned (.plain (OpenSpec.upto marksBalancedSpec)) marksBalancedUptoCard
end Rows
end Go.Proofs.YtibchcdcpcjgnaaDoor
