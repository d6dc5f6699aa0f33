/-
  DERIVED. GIVEN WITH THE SEED: THE CARDS: each row of YtaoomkkhpianlaaGreatDoorRows.lean that lists a variable, with what it lists TIED to the program's text (the seventh form; the later family's looks); each row that meets fmt, with fmt's text TOLD by the authors' own Lean function (tested against real Go, not proved from fmt's source: count such statements apart). THE CARD IS WHAT COUNTS. Prove the row's statement (the work); the ties are given (YtaoomkkhpianlaaGreatDoorTie.lean); close each card by the builder's one call (the guide's Derived/Test/ToyasCard.lean, 'card_holds'). Laid BY PROGRAM, IN A SANDBOX (cutbox-door.mjs). By AI agents, Wed Nov 11 2026. No macro, syntax, notation, axiom, sorry.
-/
import Derived.Test.YtaoomkkhpianlaaGreatDoorRows
import GoSem.ClaimSeven
namespace Go.Proofs.YtaoomkkhpianlaaGreatDoor
namespace Rows

/-- THE TIED CARD OF 'committeelaw1.MarksAgree'. -/
def marksAgreeCard : Claim7 := { stood := { row := marksAgreeRow, standIns := [], harness := (true, "3ad2c766480d6504006a5a58bc6ddea75cbdfa42a7f597b1a4479cfd56697ccf"), looks := false }, kinds := [], alts := [], laidByText := true, laidKinds := [.data, .pinned], laidTests := true, laidLooks := .later }
def MarksAgreeCardSaid : Prop := Claim7.holds Tryz.pinned (.plain (OpenSpec.ofChange marksAgreeSpec)) marksAgreeCard

/-- THE TIED CARD OF 'committeelaw1.PeopleStrict'. -/
def peopleStrictCard : Claim7 := { stood := { row := peopleStrictRow, standIns := [], harness := (true, "3ad2c766480d6504006a5a58bc6ddea75cbdfa42a7f597b1a4479cfd56697ccf"), looks := false }, kinds := [], alts := [], laidByText := true, laidKinds := [.data, .pinned], laidTests := true, laidLooks := .later }
def PeopleStrictCardSaid : Prop := Claim7.holds Tryz.pinned (.plain (OpenSpec.ofChange peopleStrictSpec)) peopleStrictCard

/-- THE TIED CARD OF 'committeelaw1.PapersStrong'. -/
def papersStrongCard : Claim7 := { stood := { row := papersStrongRow, standIns := [], harness := (true, "3ad2c766480d6504006a5a58bc6ddea75cbdfa42a7f597b1a4479cfd56697ccf"), looks := false }, kinds := [], alts := [], laidByText := true, laidKinds := [.data, .pinned], laidTests := true, laidLooks := .later }
def PapersStrongCardSaid : Prop := Claim7.holds Tryz.pinned (.plain (OpenSpec.ofChange papersStrongSpec)) papersStrongCard

/-- THE TIED CARD OF 'committeelaw1.PapersOrdered'. -/
def papersOrderedCard : Claim7 := { stood := { row := papersOrderedRow, standIns := [], harness := (true, "3ad2c766480d6504006a5a58bc6ddea75cbdfa42a7f597b1a4479cfd56697ccf"), looks := false }, kinds := [], alts := [], laidByText := true, laidKinds := [.data, .pinned], laidTests := true, laidLooks := .later }
def PapersOrderedCardSaid : Prop := Claim7.holds Tryz.pinned (.plain (OpenSpec.ofChange papersOrderedSpec)) papersOrderedCard

/-- THE TIED CARD OF 'committeelaw1.PlacesRange'. -/
def placesRangeCard : Claim7 := { stood := { row := placesRangeRow, standIns := [], harness := (true, "3ad2c766480d6504006a5a58bc6ddea75cbdfa42a7f597b1a4479cfd56697ccf"), looks := false }, kinds := [], alts := [], laidByText := true, laidKinds := [.data, .pinned], laidTests := true, laidLooks := .later }
def PlacesRangeCardSaid : Prop := Claim7.holds Tryz.pinned (.plain (OpenSpec.ofChange placesRangeSpec)) placesRangeCard

/-- THE TIED CARD OF 'committeelaw1.MarksUnbiased'. -/
def marksUnbiasedCard : Claim7 := { stood := { row := marksUnbiasedRow, standIns := [], harness := (true, "3ad2c766480d6504006a5a58bc6ddea75cbdfa42a7f597b1a4479cfd56697ccf"), looks := false }, kinds := [], alts := [], laidByText := true, laidKinds := [.data, .pinned], laidTests := true, laidLooks := .later }
def MarksUnbiasedCardSaid : Prop := Claim7.holds Tryz.pinned (.plain (OpenSpec.ofChange marksUnbiasedSpec)) marksUnbiasedCard

/-- THE SECOND FORM's CARD OF 'committeelaw1.MarksAgree'. -/
def marksAgreeUptoCard : Claim7 := { stood := { row := marksAgreeUptoRow, standIns := [], harness := (true, "3ad2c766480d6504006a5a58bc6ddea75cbdfa42a7f597b1a4479cfd56697ccf"), looks := false }, kinds := [], alts := [], laidByText := true, laidKinds := [.data, .pinned], laidTests := true, laidLooks := .later }
def MarksAgreeUptoCardSaid : Prop := Claim7.holds Tryz.pinned (.plain (OpenSpec.upto marksAgreeSpec)) marksAgreeUptoCard

/-- THE SECOND FORM's CARD OF 'committeelaw1.PeopleStrict'. -/
def peopleStrictUptoCard : Claim7 := { stood := { row := peopleStrictUptoRow, standIns := [], harness := (true, "3ad2c766480d6504006a5a58bc6ddea75cbdfa42a7f597b1a4479cfd56697ccf"), looks := false }, kinds := [], alts := [], laidByText := true, laidKinds := [.data, .pinned], laidTests := true, laidLooks := .later }
def PeopleStrictUptoCardSaid : Prop := Claim7.holds Tryz.pinned (.plain (OpenSpec.upto peopleStrictSpec)) peopleStrictUptoCard

/-- THE SECOND FORM's CARD OF 'committeelaw1.PapersStrong'. -/
def papersStrongUptoCard : Claim7 := { stood := { row := papersStrongUptoRow, standIns := [], harness := (true, "3ad2c766480d6504006a5a58bc6ddea75cbdfa42a7f597b1a4479cfd56697ccf"), looks := false }, kinds := [], alts := [], laidByText := true, laidKinds := [.data, .pinned], laidTests := true, laidLooks := .later }
def PapersStrongUptoCardSaid : Prop := Claim7.holds Tryz.pinned (.plain (OpenSpec.upto papersStrongSpec)) papersStrongUptoCard

/-- THE SECOND FORM's CARD OF 'committeelaw1.PapersOrdered'. -/
def papersOrderedUptoCard : Claim7 := { stood := { row := papersOrderedUptoRow, standIns := [], harness := (true, "3ad2c766480d6504006a5a58bc6ddea75cbdfa42a7f597b1a4479cfd56697ccf"), looks := false }, kinds := [], alts := [], laidByText := true, laidKinds := [.data, .pinned], laidTests := true, laidLooks := .later }
def PapersOrderedUptoCardSaid : Prop := Claim7.holds Tryz.pinned (.plain (OpenSpec.upto papersOrderedSpec)) papersOrderedUptoCard

/-- THE SECOND FORM's CARD OF 'committeelaw1.PlacesRange'. -/
def placesRangeUptoCard : Claim7 := { stood := { row := placesRangeUptoRow, standIns := [], harness := (true, "3ad2c766480d6504006a5a58bc6ddea75cbdfa42a7f597b1a4479cfd56697ccf"), looks := false }, kinds := [], alts := [], laidByText := true, laidKinds := [.data, .pinned], laidTests := true, laidLooks := .later }
def PlacesRangeUptoCardSaid : Prop := Claim7.holds Tryz.pinned (.plain (OpenSpec.upto placesRangeSpec)) placesRangeUptoCard

/-- THE SECOND FORM's CARD OF 'committeelaw1.MarksUnbiased'. -/
def marksUnbiasedUptoCard : Claim7 := { stood := { row := marksUnbiasedUptoRow, standIns := [], harness := (true, "3ad2c766480d6504006a5a58bc6ddea75cbdfa42a7f597b1a4479cfd56697ccf"), looks := false }, kinds := [], alts := [], laidByText := true, laidKinds := [.data, .pinned], laidTests := true, laidLooks := .later }
def MarksUnbiasedUptoCardSaid : Prop := Claim7.holds Tryz.pinned (.plain (OpenSpec.upto marksUnbiasedSpec)) marksUnbiasedUptoCard
end Rows
end Go.Proofs.YtaoomkkhpianlaaGreatDoor
