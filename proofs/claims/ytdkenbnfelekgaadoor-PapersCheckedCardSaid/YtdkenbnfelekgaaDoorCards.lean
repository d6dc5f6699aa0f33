/-
  DERIVED. GIVEN WITH THE SEED: THE CARDS: each row of YtdkenbnfelekgaaDoorRows.lean that lists a variable, with what it lists TIED to the program's text (the seventh form; the later family's looks); each row that meets fmt, with fmt's text TOLD by the authors' own Lean function (tested against real Go, not proved from fmt's source: count such statements apart). THE CARD IS WHAT COUNTS. Prove the row's statement (the work); the ties are given (YtdkenbnfelekgaaDoorTie.lean); close each card by the builder's one call (the guide's Derived/Test/ToyasCard.lean, 'card_holds'). Laid BY PROGRAM, IN A SANDBOX (cutbox-door.mjs). By AI agents, Wed Nov 11 2026. No macro, syntax, notation, axiom, sorry.
-/
import Derived.Test.YtdkenbnfelekgaaDoorRows
import GoSem.ClaimSeven
namespace Go.Proofs.YtdkenbnfelekgaaDoor
namespace Rows

/-- THE TIED CARD OF 'committeelaw1.PapersChecked'. -/
def papersCheckedCard : Claim7 := { stood := { row := papersCheckedRow, standIns := [], harness := (true, "db82b7ede584cfe0aec22351b48341dc7eb418aa3fa2df9878a049c4bd8a5491"), looks := false }, kinds := [], alts := [], laidByText := true, laidKinds := [.data, .pinned], laidTests := true, laidLooks := .later }
def PapersCheckedCardSaid : Prop := Claim7.holds Tryd.pinned (.plain (OpenSpec.ofChange papersCheckedSpec)) papersCheckedCard

/-- THE TIED CARD OF 'committeelaw1.ArrivalsCount'. -/
def arrivalsCountCard : Claim7 := { stood := { row := arrivalsCountRow, standIns := [], harness := (true, "db82b7ede584cfe0aec22351b48341dc7eb418aa3fa2df9878a049c4bd8a5491"), looks := false }, kinds := [], alts := [], laidByText := true, laidKinds := [.data, .pinned], laidTests := true, laidLooks := .later }
def ArrivalsCountCardSaid : Prop := Claim7.holds Tryd.pinned (.plain (OpenSpec.ofChange arrivalsCountSpec)) arrivalsCountCard

/-- THE SECOND FORM's CARD OF 'committeelaw1.PapersChecked'. -/
def papersCheckedUptoCard : Claim7 := { stood := { row := papersCheckedUptoRow, standIns := [], harness := (true, "db82b7ede584cfe0aec22351b48341dc7eb418aa3fa2df9878a049c4bd8a5491"), looks := false }, kinds := [], alts := [], laidByText := true, laidKinds := [.data, .pinned], laidTests := true, laidLooks := .later }
def PapersCheckedUptoCardSaid : Prop := Claim7.holds Tryd.pinned (.plain (OpenSpec.upto papersCheckedSpec)) papersCheckedUptoCard

/-- THE SECOND FORM's CARD OF 'committeelaw1.ArrivalsCount'. -/
def arrivalsCountUptoCard : Claim7 := { stood := { row := arrivalsCountUptoRow, standIns := [], harness := (true, "db82b7ede584cfe0aec22351b48341dc7eb418aa3fa2df9878a049c4bd8a5491"), looks := false }, kinds := [], alts := [], laidByText := true, laidKinds := [.data, .pinned], laidTests := true, laidLooks := .later }
def ArrivalsCountUptoCardSaid : Prop := Claim7.holds Tryd.pinned (.plain (OpenSpec.upto arrivalsCountSpec)) arrivalsCountUptoCard
end Rows
end Go.Proofs.YtdkenbnfelekgaaDoor
