/-
  DERIVED. GIVEN WITH THE SEED: THE CARDS: each row of YthnbcdgbpofnjaaGreatDoorRows.lean that lists a variable, with what it lists TIED to the program's text (the seventh form; the later family's looks); each row that meets fmt, with fmt's text TOLD by the authors' own Lean function (tested against real Go, not proved from fmt's source: count such statements apart). THE CARD IS WHAT COUNTS. Prove the row's statement (the work); the ties are given (YthnbcdgbpofnjaaGreatDoorTie.lean); close each card by the builder's one call (the guide's Derived/Test/ToyasCard.lean, 'card_holds'). Laid BY PROGRAM, IN A SANDBOX (cutbox-door.mjs). By AI agents, Wed Nov 11 2026. No macro, syntax, notation, axiom, sorry.
-/
import Derived.Test.YthnbcdgbpofnjaaGreatDoorRows
import GoSem.ClaimSeven
namespace Go.Proofs.YthnbcdgbpofnjaaGreatDoor
namespace Rows

/-- THE TIED CARD OF 'committeelaw1.GridsChecked'. -/
def gridsCheckedCard : Claim7 := { stood := { row := gridsCheckedRow, standIns := [], harness := (true, "ed9c65ee5fc7db9b0de6813add9969576d9a2c910028132b0214c67047340777"), looks := false }, kinds := [], alts := [], laidByText := true, laidKinds := [.data, .pinned], laidTests := true, laidLooks := .later }
def GridsCheckedCardSaid : Prop := Claim7.holds Tryz.pinned (.plain (OpenSpec.ofChange gridsCheckedSpec)) gridsCheckedCard

/-- THE TIED CARD OF 'committeelaw1.ChairsGiven'. -/
def chairsGivenCard : Claim7 := { stood := { row := chairsGivenRow, standIns := [], harness := (true, "ed9c65ee5fc7db9b0de6813add9969576d9a2c910028132b0214c67047340777"), looks := false }, kinds := [], alts := [], laidByText := true, laidKinds := [.data, .pinned], laidTests := true, laidLooks := .later }
def ChairsGivenCardSaid : Prop := Claim7.holds Tryz.pinned (.plain (OpenSpec.ofChange chairsGivenSpec)) chairsGivenCard

/-- THE TIED CARD OF 'committeelaw1.TalksClash'. -/
def talksClashCard : Claim7 := { stood := { row := talksClashRow, standIns := [], harness := (true, "ed9c65ee5fc7db9b0de6813add9969576d9a2c910028132b0214c67047340777"), looks := false }, kinds := [], alts := [], laidByText := true, laidKinds := [.data, .pinned], laidTests := true, laidLooks := .later }
def TalksClashCardSaid : Prop := Claim7.holds Tryz.pinned (.plain (OpenSpec.ofChange talksClashSpec)) talksClashCard

/-- THE TIED CARD OF 'committeelaw1.TalksTimed'. -/
def talksTimedCard : Claim7 := { stood := { row := talksTimedRow, standIns := [], harness := (true, "ed9c65ee5fc7db9b0de6813add9969576d9a2c910028132b0214c67047340777"), looks := false }, kinds := [], alts := [], laidByText := true, laidKinds := [.data, .pinned], laidTests := true, laidLooks := .later }
def TalksTimedCardSaid : Prop := Claim7.holds Tryz.pinned (.plain (OpenSpec.ofChange talksTimedSpec)) talksTimedCard

/-- THE SECOND FORM's CARD OF 'committeelaw1.GridsChecked'. -/
def gridsCheckedUptoCard : Claim7 := { stood := { row := gridsCheckedUptoRow, standIns := [], harness := (true, "ed9c65ee5fc7db9b0de6813add9969576d9a2c910028132b0214c67047340777"), looks := false }, kinds := [], alts := [], laidByText := true, laidKinds := [.data, .pinned], laidTests := true, laidLooks := .later }
def GridsCheckedUptoCardSaid : Prop := Claim7.holds Tryz.pinned (.plain (OpenSpec.upto gridsCheckedSpec)) gridsCheckedUptoCard

/-- THE SECOND FORM's CARD OF 'committeelaw1.ChairsGiven'. -/
def chairsGivenUptoCard : Claim7 := { stood := { row := chairsGivenUptoRow, standIns := [], harness := (true, "ed9c65ee5fc7db9b0de6813add9969576d9a2c910028132b0214c67047340777"), looks := false }, kinds := [], alts := [], laidByText := true, laidKinds := [.data, .pinned], laidTests := true, laidLooks := .later }
def ChairsGivenUptoCardSaid : Prop := Claim7.holds Tryz.pinned (.plain (OpenSpec.upto chairsGivenSpec)) chairsGivenUptoCard

/-- THE SECOND FORM's CARD OF 'committeelaw1.TalksClash'. -/
def talksClashUptoCard : Claim7 := { stood := { row := talksClashUptoRow, standIns := [], harness := (true, "ed9c65ee5fc7db9b0de6813add9969576d9a2c910028132b0214c67047340777"), looks := false }, kinds := [], alts := [], laidByText := true, laidKinds := [.data, .pinned], laidTests := true, laidLooks := .later }
def TalksClashUptoCardSaid : Prop := Claim7.holds Tryz.pinned (.plain (OpenSpec.upto talksClashSpec)) talksClashUptoCard

/-- THE SECOND FORM's CARD OF 'committeelaw1.TalksTimed'. -/
def talksTimedUptoCard : Claim7 := { stood := { row := talksTimedUptoRow, standIns := [], harness := (true, "ed9c65ee5fc7db9b0de6813add9969576d9a2c910028132b0214c67047340777"), looks := false }, kinds := [], alts := [], laidByText := true, laidKinds := [.data, .pinned], laidTests := true, laidLooks := .later }
def TalksTimedUptoCardSaid : Prop := Claim7.holds Tryz.pinned (.plain (OpenSpec.upto talksTimedSpec)) talksTimedUptoCard
end Rows
end Go.Proofs.YthnbcdgbpofnjaaGreatDoor
