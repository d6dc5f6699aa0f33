/-
  DERIVED. GIVEN WITH THE SEED: THE CARDS: each row of YtgihommenknhoaaGreatDoorRows.lean that lists a variable, with what it lists TIED to the program's text (the seventh form; the later family's looks); each row that meets fmt, with fmt's text TOLD by the authors' own Lean function (tested against real Go, not proved from fmt's source: count such statements apart). THE CARD IS WHAT COUNTS. Prove the row's statement (the work); the ties are given (YtgihommenknhoaaGreatDoorTie.lean); close each card by the builder's one call (the guide's Derived/Test/ToyasCard.lean, 'card_holds'). Laid BY PROGRAM, IN A SANDBOX (cutbox-door.mjs). By AI agents, Wed Nov 11 2026. No macro, syntax, notation, axiom, sorry.
-/
import Derived.Test.YtgihommenknhoaaGreatDoorRows
import GoSem.ClaimSeven
namespace Go.Proofs.YtgihommenknhoaaGreatDoor
namespace Rows

/-- THE TIED CARD OF 'committeelaw1.PlacesRange'. -/
def placesRangeCard : Claim7 := { stood := { row := placesRangeRow, standIns := [], harness := (true, "28c468016664c0f39e0708cfbd257673310c73caddb87194469a01dab454c09b"), looks := false }, kinds := [], alts := [], laidByText := true, laidKinds := [.data, .pinned], laidTests := true, laidLooks := .later }
def PlacesRangeCardSaid : Prop := Claim7.holds Tryz.pinned (.plain (OpenSpec.ofChange placesRangeSpec)) placesRangeCard

/-- THE TIED CARD OF 'committeelaw1.BidsWorth'. -/
def bidsWorthCard : Claim7 := { stood := { row := bidsWorthRow, standIns := [], harness := (true, "28c468016664c0f39e0708cfbd257673310c73caddb87194469a01dab454c09b"), looks := false }, kinds := [], alts := [], laidByText := true, laidKinds := [.data, .pinned], laidTests := true, laidLooks := .later }
def BidsWorthCardSaid : Prop := Claim7.holds Tryz.pinned (.plain (OpenSpec.ofChange bidsWorthSpec)) bidsWorthCard

/-- THE TIED CARD OF 'committeelaw1.SkillsLearnt'. -/
def skillsLearntCard : Claim7 := { stood := { row := skillsLearntRow, standIns := [], harness := (true, "28c468016664c0f39e0708cfbd257673310c73caddb87194469a01dab454c09b"), looks := false }, kinds := [], alts := [], laidByText := true, laidKinds := [.data, .pinned], laidTests := true, laidLooks := .later }
def SkillsLearntCardSaid : Prop := Claim7.holds Tryz.pinned (.plain (OpenSpec.ofChange skillsLearntSpec)) skillsLearntCard

/-- THE SECOND FORM's CARD OF 'committeelaw1.PlacesRange'. -/
def placesRangeUptoCard : Claim7 := { stood := { row := placesRangeUptoRow, standIns := [], harness := (true, "28c468016664c0f39e0708cfbd257673310c73caddb87194469a01dab454c09b"), looks := false }, kinds := [], alts := [], laidByText := true, laidKinds := [.data, .pinned], laidTests := true, laidLooks := .later }
def PlacesRangeUptoCardSaid : Prop := Claim7.holds Tryz.pinned (.plain (OpenSpec.upto placesRangeSpec)) placesRangeUptoCard

/-- THE SECOND FORM's CARD OF 'committeelaw1.BidsWorth'. -/
def bidsWorthUptoCard : Claim7 := { stood := { row := bidsWorthUptoRow, standIns := [], harness := (true, "28c468016664c0f39e0708cfbd257673310c73caddb87194469a01dab454c09b"), looks := false }, kinds := [], alts := [], laidByText := true, laidKinds := [.data, .pinned], laidTests := true, laidLooks := .later }
def BidsWorthUptoCardSaid : Prop := Claim7.holds Tryz.pinned (.plain (OpenSpec.upto bidsWorthSpec)) bidsWorthUptoCard

/-- THE SECOND FORM's CARD OF 'committeelaw1.SkillsLearnt'. -/
def skillsLearntUptoCard : Claim7 := { stood := { row := skillsLearntUptoRow, standIns := [], harness := (true, "28c468016664c0f39e0708cfbd257673310c73caddb87194469a01dab454c09b"), looks := false }, kinds := [], alts := [], laidByText := true, laidKinds := [.data, .pinned], laidTests := true, laidLooks := .later }
def SkillsLearntUptoCardSaid : Prop := Claim7.holds Tryz.pinned (.plain (OpenSpec.upto skillsLearntSpec)) skillsLearntUptoCard
end Rows
end Go.Proofs.YtgihommenknhoaaGreatDoor
