/-
  DERIVED. GIVEN WITH THE SEED: THE CARDS: each row of YthgalhcjibnelaaDoorRows.lean that lists a variable, with what it lists TIED to the program's text (the seventh form; the later family's looks); each row that meets fmt, with fmt's text TOLD by the authors' own Lean function (tested against real Go, not proved from fmt's source: count such statements apart). THE CARD IS WHAT COUNTS. Prove the row's statement (the work); the ties are given (YthgalhcjibnelaaDoorTie.lean); close each card by the builder's one call (the guide's Derived/Test/ToyasCard.lean, 'card_holds'). Laid BY PROGRAM, IN A SANDBOX (cutbox-door.mjs). By AI agents, Wed Nov 11 2026. No macro, syntax, notation, axiom, sorry.
-/
import Derived.Test.YthgalhcjibnelaaDoorRows
import GoSem.ClaimSeven
namespace Go.Proofs.YthgalhcjibnelaaDoor
namespace Rows

/-- THE TIED CARD OF 'committeelaw1.ArrivalsCount'. -/
def arrivalsCountCard : Claim7 := { stood := { row := arrivalsCountRow, standIns := [], harness := (true, "e1e8ca02880bf8c7bd3ee4d6bb4038a1d30ec72113b7d54d7ac56a76ee17db18"), looks := false }, kinds := [], alts := [], laidByText := true, laidKinds := [.data, .pinned], laidTests := true, laidLooks := .later }
def ArrivalsCountCardSaid : Prop := Claim7.holds Tryd.pinned (.plain (OpenSpec.ofChange arrivalsCountSpec)) arrivalsCountCard

/-- THE TIED CARD OF 'committeelaw1.MarksBalanced'. -/
def marksBalancedCard : Claim7 := { stood := { row := marksBalancedRow, standIns := [], harness := (true, "e1e8ca02880bf8c7bd3ee4d6bb4038a1d30ec72113b7d54d7ac56a76ee17db18"), looks := false }, kinds := [], alts := [], laidByText := true, laidKinds := [.data, .pinned], laidTests := true, laidLooks := .later }
def MarksBalancedCardSaid : Prop := Claim7.holds Tryd.pinned (.plain (OpenSpec.ofChange marksBalancedSpec)) marksBalancedCard

/-- THE SECOND FORM's CARD OF 'committeelaw1.ArrivalsCount'. -/
def arrivalsCountUptoCard : Claim7 := { stood := { row := arrivalsCountUptoRow, standIns := [], harness := (true, "e1e8ca02880bf8c7bd3ee4d6bb4038a1d30ec72113b7d54d7ac56a76ee17db18"), looks := false }, kinds := [], alts := [], laidByText := true, laidKinds := [.data, .pinned], laidTests := true, laidLooks := .later }
def ArrivalsCountUptoCardSaid : Prop := Claim7.holds Tryd.pinned (.plain (OpenSpec.upto arrivalsCountSpec)) arrivalsCountUptoCard

/-- THE SECOND FORM's CARD OF 'committeelaw1.MarksBalanced'. -/
def marksBalancedUptoCard : Claim7 := { stood := { row := marksBalancedUptoRow, standIns := [], harness := (true, "e1e8ca02880bf8c7bd3ee4d6bb4038a1d30ec72113b7d54d7ac56a76ee17db18"), looks := false }, kinds := [], alts := [], laidByText := true, laidKinds := [.data, .pinned], laidTests := true, laidLooks := .later }
def MarksBalancedUptoCardSaid : Prop := Claim7.holds Tryd.pinned (.plain (OpenSpec.upto marksBalancedSpec)) marksBalancedUptoCard
end Rows
end Go.Proofs.YthgalhcjibnelaaDoor
